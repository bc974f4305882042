/- Functions with their compiled forms: what must be told of each region. -/
import Derived.Test.YtgmgkkbpgndaaaaGreatDoorCx
set_option maxRecDepth 100000
set_option maxHeartbeats 0
namespace Go.Proofs.YtgmgkkbpgndaaaaGreatDoor
namespace AI
noncomputable section
def x134:Cm [r 0 [0,1],ro 1 [4,5] [(6,.mode .borrow)]] Tryz.f134:=mkx
abbrev a134:=x134.1
def x140:Cm [r 0 [1,2],r 1 [1,2,40],r 2 [4],r 3 [1,2,42],r 4 [1,2,42,43],r 5 [4],r 6 [1,2,42,48],r 7 [4],r 8 [1,2,42,58],r 9 [4],r 10 [1,2,42,63],r 11 [4],r 12 [1,2,42,76],r 13 [4],r 14 [1,2,42,93],r 15 [1,2,42,93],r 16 [4],r 17 [1,2,42,104],r 18 [1,2,118],r 19 [4],r 20 [1,120,121,122],rh 21 [1,120,121,122,123] [1,120,121,122],r 22 [1,6,120,121,122],r 23 [1,120,121,122,130],r 24 [4],⟨25,none,[],[1,120,121,122],(some 1),[],[],false,false,[],[]⟩,r 26 [4],r 27 [2,132],r 28 [4],r 29 [4]] Tryz.f140:=mkx
abbrev a140:=x140.1
def x146:Cm [r 0 [2,3],rd 1 6 [2,3,5,6],r 2 [2,3,5,6,11],r 3 [4],r 4 [2,3,6,19],r 5 [4],r 6 [2,3,21],r 7 [4],rd 8 28 [4]] Tryz.f146:=mkx
abbrev a146:=x146.1
def x147:Cm [r 0 [1,2],r 1 [4]] Tryz.f147:=mkx
abbrev a147:=x147.1
def x150:Cm [r 0 [0,1],r 1 [4]] Tryz.f150:=mkx
abbrev a150:=x150.1
def x151:Cm [r 0 [0],r 1 [2]] Tryz.f151:=mkx
abbrev a151:=x151.1
def x154:Cm [r 0 [0,1,2],r 1 [0,1,2,8],r 2 [0,1,2,8,9,10],rh 3 [0,1,2,8,9,10,17] [0,1,2,8,9,10],r 4 [0,1,2,8,9,10,11],r 5 [0,1,2,8,9,10,11,31],r 6 [0,1,2,8,9,10],r 7 [0,1,2,8,9,10],r 8 [6,7]] Tryz.f154:=mkx
abbrev a154:=x154.1
def x155:Cm [r 0 [1,2],r 1 [4]] Tryz.f155:=mkx
abbrev a155:=x155.1
def x156:Cm [r 0 [0,1],r 1 [0,1,5],r 2 [0,1,5,6],r 3 [0,1,6,11],r 4 [12],r 5 [4],r 6 [4],r 7 [0,1,13],r 8 [4],r 9 [0,1,16],r 10 [4],r 11 [19],r 12 [4],r 13 [4]] Tryz.f156:=mkx
abbrev a156:=x156.1
def x159:Cm [r 0 [0,1,2],r 1 [0,1,2,8],r 2 [0,1,2,8,9,10],rh 3 [0,1,2,8,9,10,17] [0,1,2,8,9,10],r 4 [0,1,2,8,9,10,11],r 5 [0,1,2,8,9,10,11,31],r 6 [0,1,2,8,9,10],r 7 [0,1,2,8,9,10],r 8 [6,7]] Tryz.f159:=mkx
abbrev a159:=x159.1
def x160:Cm [r 0 [1,2],r 1 [4]] Tryz.f160:=mkx
abbrev a160:=x160.1
def x171:Cm [r 0 [0],r 1 [2]] Tryz.f171:=mkx
abbrev a171:=x171.1
def x172:Cm [r 0 [1],r 1 [2]] Tryz.f172:=mkx
abbrev a172:=x172.1
def x174:Cm [r 0 [0],r 1 [2]] Tryz.f174:=mkx
abbrev a174:=x174.1
def x175:Cm [r 0 [0],r 1 [0,14],r 2 [2],r 3 [15,16,17],rh 4 [15,16,17,18] [15,16,17],r 5 [3,4,15,16,17],r 6 [4,5,15,16,17],r 7 [15,16,17,35],r 8 [2],⟨9,none,[],[15,16,17],(some 0),[],[],false,false,[],[]⟩,r 10 [2]] Tryz.f175:=mkx
abbrev a175:=x175.1
def x177:Cm [r 0 [2,3],rd 1 6 [2,3,5],r 2 [2,3,5,16],r 3 [4],r 4 [2,3,20],r 5 [3,6],r 6 [6,8],r 7 [4],rd 8 18 [4]] Tryz.f177:=mkx
abbrev a177:=x177.1
def x178:Cm [r 0 [0],r 1 [0,3],r 2 [3,6,7,8],rh 3 [3,6,7,8,9] [3,6,7,8],r 4 [3,5,6,7,8],r 5 [3,5,6,7,8,14],r 6 [2],r 7 [3,6,7,8],r 8 [2]] Tryz.f178:=mkx
abbrev a178:=x178.1
def x179:Cm [r 0 [0,1,2],r 1 [0,1,2,11,12,13],rh 2 [0,1,2,11,12,13,14] [0,1,2,11,12,13],r 3 [0,1,2,7,8,11,12,13],r 4 [0,1,2,7,8,11,12,13,21],r 5 [6],r 6 [0,1,2,8,9,11,12,13],r 7 [0,1,2,10,11,12,13],r 8 [0,1,2,10,11,12,13,31],r 9 [6],⟨10,none,[],[0,1,2,11,12,13],(some 0),[],[],false,false,[],[]⟩,r 11 [38],r 12 [6],r 13 [6]] Tryz.f179:=mkx
abbrev a179:=x179.1
def x181:Cm [r 0 [0],r 1 [2]] Tryz.f181:=mkx
abbrev a181:=x181.1
def x198:Cm [r 0 [0,1],r 1 [0,1,12],r 2 [4],r 3 [0,1],rh 4 [0,1,18] [0,1],rd 5 6 [0,1],r 6 [4]] Tryz.f198:=mkx
abbrev a198:=x198.1
def x200:Cm [r 0 [1],r 1 [1,4],r 2 [1,4,5],r 3 [2],r 4 [1,7],r 5 [2],r 6 [2]] Tryz.f200:=mkx
abbrev a200:=x200.1
def x201:Cm [r 0 [1,2],r 1 [1,2,4],r 2 [2,3],r 3 [1,2,15],r 4 [2,3],r 5 [2,3]] Tryz.f201:=mkx
abbrev a201:=x201.1
def x202:Cm [r 0 [2,3],r 1 [2,3,7],r 2 [2,3],r 3 [2,3,11],r 4 [2,3],rd 5 14 [4]] Tryz.f202:=mkx
abbrev a202:=x202.1
def x211:Cm [r 0 [0],r 1 [2]] Tryz.f211:=mkx
abbrev a211:=x211.1
def x212:Cm [r 0 [0,1,4],r 1 [0,1,4,5,6],r 2 [4]] Tryz.f212:=mkx
abbrev a212:=x212.1
def x213:Cm [r 0 [2,3,4],r 1 [2,3,4,17],r 2 [2,3,4,5,6],r 3 [2,4,5,7],r 4 [4],r 5 [2,3,4,42],r 6 [2,3,4],r 7 [2,3,4,9,10],r 8 [2,4,9,11],r 9 [4]] Tryz.f213:=mkx
abbrev a213:=x213.1
def x214:Cm [r 0 [1],r 1 [1,3],r 2 [2],r 3 [10],r 4 [2],r 5 [2]] Tryz.f214:=mkx
abbrev a214:=x214.1
def x216:Cm [r 0 [0,1],r 1 [0,1,6],r 2 [0,1,6,7],r 3 [0,1,6,7,8],r 4 [0,1,6,7,8,9],r 5 [0,1,6,7,8,9,10],r 6 [0,1,6,7,9,11],r 7 [0,1,6,7,9,11,12],r 8 [0,1,6,7,9,12,13],r 9 [0,1,7,9,12,13],r 10 [0,1,4],r 11 [4,5]] Tryz.f216:=mkx
abbrev a216:=x216.1
def x217:Cm [r 0 [0],r 1 [0,4],r 2 [2],r 3 [2]] Tryz.f217:=mkx
abbrev a217:=x217.1
def x219:Cm [r 0 [2,3],r 1 [4]] Tryz.f219:=mkx
abbrev a219:=x219.1
end
end AI
end Go.Proofs.YtgmgkkbpgndaaaaGreatDoor
