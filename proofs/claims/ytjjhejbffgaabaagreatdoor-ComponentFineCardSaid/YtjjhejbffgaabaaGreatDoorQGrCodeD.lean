/- Functions with their compiled forms: what must be told of each region. -/
import Derived.Test.YtjjhejbffgaabaaGreatDoorQCx
set_option maxRecDepth 100000
set_option maxHeartbeats 0
namespace Go.Proofs.YtjjhejbffgaabaaGreatDoor
namespace AI
noncomputable section
def x133:Cm [r 0 [1],r 1 [2]] Tryz.f133:=BA
abbrev a133:=x133.1
def x134:Cm [r 0 [0],r 1 [2]] Tryz.f134:=BA
abbrev a134:=x134.1
def x135:Cm [r 0 [1],r 1 [2]] Tryz.f135:=BA
abbrev a135:=x135.1
def x137:Cm [r 0 [0],r 1 [2]] Tryz.f137:=BA
abbrev a137:=x137.1
def x138:Cm [r 0 [0],r 1 [0,14],r 2 [2],r 3 [15,16,17],rh 4 [15,16,17,18] [15,16,17],r 5 [3,4,15,16,17],r 6 [4,5,15,16,17],r 7 [15,16,17,35],r 8 [2],⟨9,none,[],[15,16,17],(some 0),[],[],false,false,[],[]⟩,r 10 [2]] Tryz.f138:=BA
abbrev a138:=x138.1
def x148:Cm [r 0 [0,2],r 1 [2,4],r 2 [2,4,5],r 3 [2,4,5],r 4 [2,4,5],r 5 [2,3],r 6 [2,4,10],r 7 [2,4,10],r 8 [2,3],r 9 [2,4,14],r 10 [2,4,14],r 11 [2,3],r 12 [2,18],r 13 [2,3],r 14 [2,3]] Tryz.f148:=BA
abbrev a148:=x148.1
def x149:Cm [r 0 [0],r 1 [2]] Tryz.f149:=BA
abbrev a149:=x149.1
def x150:Cm [r 0 [1],r 1 [2]] Tryz.f150:=BA
abbrev a150:=x150.1
def x151:Cm [r 0 [0,1],ro 1 [4,5] [(6,.mode .borrow)]] Tryz.f151:=BA
abbrev a151:=x151.1
def x152:Cm [r 0 [1,5]] Tryz.f152:=BA
abbrev a152:=x152.1
def x155:Cm [r 0 [0,1],r 1 [0,1,6],r 2 [0,1,6,7,8],rh 3 [0,1,6,7,8,15] [0,1,6,7,8],r 4 [0,1,6,7,8,9],r 5 [0,1,6,7,8,9,27],r 6 [0,1,6,7,8],r 7 [0,1,6,7,8],r 8 [4,5]] Tryz.f155:=BA
abbrev a155:=x155.1
def x158:Cm [r 0 [0,1,5],ro 1 [0,1,5,7,8] [(2,.mode .borrow)],r 2 [0,1,5,7,8,15],ro 3 [6] [ke 4],r 4 [0,1,5,7,8,26],r 5 [6],r 6 [0,1,5,7,30],r 7 [0],r 8 [6],ro 9 [0,1,5,7] [ke 3],ro 10 [6] [ke 6]] Tryz.f158:=BA
abbrev a158:=x158.1
def x159:Cm [r 0 [0,1],ro 1 [4,5] [(6,.mode .borrow)]] Tryz.f159:=BA
abbrev a159:=x159.1
def x162:Cm [r 0 [1,2],r 1 [1,2,6],r 2 [1,2,6,7],r 3 [4],r 4 [1,2,6,11],r 5 [4],r 6 [1,2,6,25],r 7 [4],r 8 [1,2,6,34],r 9 [4],r 10 [1,2,6,51],r 11 [4],r 12 [1,2,6,60],r 13 [1,2,6,60],r 14 [4],r 15 [1,2,6,75],r 16 [4],r 17 [1,2,84],r 18 [4],r 19 [4]] Tryz.f162:=BA
abbrev a162:=x162.1
def x163:Cm [r 0 [0,1],r 1 [0,1,12],r 2 [4],r 3 [0,1],rh 4 [0,1,18] [0,1],rd 5 6 [0,1],r 6 [4]] Tryz.f163:=BA
abbrev a163:=x163.1
def x164:Cm [r 0 [0,1,2],r 1 [1,2,10],rh 2 [1,2,10,11,12] [1,2,10],r 3 [1,2,7,8,10],r 4 [1,2,7,10,19],r 5 [6],r 6 [6]] Tryz.f164:=BA
abbrev a164:=x164.1
def x169:Cm [r 0 [2,3],rd 1 6 [2,3,5,6],r 2 [2,3,5,6,11],r 3 [4],r 4 [2,3,6,19],r 5 [4],r 6 [2,3,21],r 7 [4],rd 8 28 [4]] Tryz.f169:=BA
abbrev a169:=x169.1
def x170:Cm [r 0 [1,2],r 1 [4]] Tryz.f170:=BA
abbrev a170:=x170.1
def x173:Cm [r 0 [0,1],r 1 [4]] Tryz.f173:=BA
abbrev a173:=x173.1
def x174:Cm [r 0 [0],r 1 [2]] Tryz.f174:=BA
abbrev a174:=x174.1
def x177:Cm [r 0 [0,1,2],r 1 [0,1,2,8],r 2 [0,1,2,8,9,10],rh 3 [0,1,2,8,9,10,17] [0,1,2,8,9,10],r 4 [0,1,2,8,9,10,11],r 5 [0,1,2,8,9,10,11,31],r 6 [0,1,2,8,9,10],r 7 [0,1,2,8,9,10],r 8 [6,7]] Tryz.f177:=BA
abbrev a177:=x177.1
def x178:Cm [r 0 [1,2],r 1 [4]] Tryz.f178:=BA
abbrev a178:=x178.1
def x179:Cm [r 0 [0,1],r 1 [0,1,5],r 2 [0,1,5,6],r 3 [0,1,6,11],r 4 [12],r 5 [4],r 6 [4],r 7 [0,1,13],r 8 [4],r 9 [0,1,16],r 10 [4],r 11 [19],r 12 [4],r 13 [4]] Tryz.f179:=BA
abbrev a179:=x179.1
def x182:Cm [r 0 [0,1,2],r 1 [0,1,2,8],r 2 [0,1,2,8,9,10],rh 3 [0,1,2,8,9,10,17] [0,1,2,8,9,10],r 4 [0,1,2,8,9,10,11],r 5 [0,1,2,8,9,10,11,31],r 6 [0,1,2,8,9,10],r 7 [0,1,2,8,9,10],r 8 [6,7]] Tryz.f182:=BA
abbrev a182:=x182.1
def x183:Cm [r 0 [1,2],r 1 [4]] Tryz.f183:=BA
abbrev a183:=x183.1
def x186:Cm [r 0 [1,2,3,4,5],r 1 [10]] Tryz.f186:=BA
abbrev a186:=x186.1
def x187:Cm [r 0 [0],r 1 [2]] Tryz.f187:=BA
abbrev a187:=x187.1
def x188:Cm [r 0 [1],rd 1 28 [2]] Tryz.f188:=BA
abbrev a188:=x188.1
def x189:Cm [r 0 [0],r 1 [0,3],rh 2 [0,3,7] [0,3],r 4 [0,3,19],r 5 [2],r 3 [0,3],r 6 [2]] Tryz.f189:=BA
abbrev a189:=x189.1
def x190:Cm [r 0 [0],r 1 [0,13],r 2 [2],r 3 [0,3],rh 4 [0,3,17] [0,3],r 6 [0,3,4],r 7 [0,3,4,22],r 8 [0,3,4],r 9 [0,3,37],r 10 [2],r 5 [0,3],r 11 [2]] Tryz.f190:=BA
abbrev a190:=x190.1
def x191:Cm [r 0 [0,1],r 1 [0,1,12],r 2 [4],r 3 [0,1,5],rh 4 [0,1,5,16] [0,1,5],r 6 [0,1,5,26],r 7 [4],r 5 [0,1,5],r 8 [4]] Tryz.f191:=BA
abbrev a191:=x191.1
def x192:Cm [r 0 [0],r 1 [2]] Tryz.f192:=BA
abbrev a192:=x192.1
def x194:Cm [r 0 [2,3],rd 1 6 [2,3,5],r 2 [2,3,5,16],r 3 [4],r 4 [2,3,20],r 5 [3,6],r 6 [6,8],r 7 [4],rd 8 18 [4]] Tryz.f194:=BA
abbrev a194:=x194.1
def x195:Cm [r 0 [0,1,2],r 1 [0,1,2,11,12,13],rh 2 [0,1,2,11,12,13,14] [0,1,2,11,12,13],r 3 [0,1,2,7,8,11,12,13],r 4 [0,1,2,7,8,11,12,13,21],r 5 [6],r 6 [0,1,2,8,9,11,12,13],r 7 [0,1,2,10,11,12,13],r 8 [0,1,2,10,11,12,13,31],r 9 [6],⟨10,none,[],[0,1,2,11,12,13],(some 0),[],[],false,false,[],[]⟩,r 11 [38],r 12 [6],r 13 [6]] Tryz.f195:=BA
abbrev a195:=x195.1
def x197:Cm [r 0 [0],r 1 [2]] Tryz.f197:=BA
abbrev a197:=x197.1
def x202:Cm [r 0 [0,1],rh 1 [0,1,6] [0,1],rd 2 6 [0,1],r 3 [4]] Tryz.f202:=BA
abbrev a202:=x202.1
def x203:Cm [r 0 [0],r 1 [0,4],r 2 [2],r 3 [2]] Tryz.f203:=BA
abbrev a203:=x203.1
def x205:Cm [r 0 [1],r 1 [1,4],r 2 [1,4,5],r 3 [2],r 4 [1,7],r 5 [2],r 6 [2]] Tryz.f205:=BA
abbrev a205:=x205.1
def x206:Cm [r 0 [1,2],r 1 [1,2,4],r 2 [2,3],r 3 [1,2,15],r 4 [2,3],r 5 [2,3]] Tryz.f206:=BA
abbrev a206:=x206.1
def x207:Cm [r 0 [2,3],r 1 [2,3,7],r 2 [2,3],r 3 [2,3,11],r 4 [2,3],rd 5 14 [4]] Tryz.f207:=BA
abbrev a207:=x207.1
def x212:Cm [r 0 [0,1,4],r 1 [0,1,4,5,6],r 2 [4]] Tryz.f212:=BA
abbrev a212:=x212.1
def x213:Cm [r 0 [2,3,4],r 1 [2,3,4,17],r 2 [2,3,4,5,6],r 3 [2,4,5,7],r 4 [4],r 5 [2,3,4,42],r 6 [2,3,4],r 7 [2,3,4,9,10],r 8 [2,4,9,11],r 9 [4]] Tryz.f213:=BA
abbrev a213:=x213.1
def x214:Cm [r 0 [1],r 1 [1,3],r 2 [2],r 3 [10],r 4 [2],r 5 [2]] Tryz.f214:=BA
abbrev a214:=x214.1
def x216:Cm [r 0 [0,1],r 1 [0,1,6],r 2 [0,1,6,7],r 3 [0,1,6,7,8],r 4 [0,1,6,7,8,9],r 5 [0,1,6,7,8,9,10],r 6 [0,1,6,7,9,11],r 7 [0,1,6,7,9,11,12],r 8 [0,1,6,7,9,12,13],r 9 [0,1,7,9,12,13],r 10 [0,1,4],r 11 [4,5]] Tryz.f216:=BA
abbrev a216:=x216.1
def x217:Cm [r 0 [0],r 1 [0,4],r 2 [2],r 3 [2]] Tryz.f217:=BA
abbrev a217:=x217.1
def x219:Cm [r 0 [2,3],r 1 [4]] Tryz.f219:=BA
abbrev a219:=x219.1
end
end AI
end Go.Proofs.YtjjhejbffgaabaaGreatDoor
