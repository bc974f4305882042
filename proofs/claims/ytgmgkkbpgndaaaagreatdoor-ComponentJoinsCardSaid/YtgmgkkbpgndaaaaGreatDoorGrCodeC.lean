/- Functions with their compiled forms: what must be told of each region. -/
import Derived.Test.YtgmgkkbpgndaaaaGreatDoorCx
set_option maxRecDepth 100000
set_option maxHeartbeats 0
namespace Go.Proofs.YtgmgkkbpgndaaaaGreatDoor
namespace AI
noncomputable section
def x63:Cm [r 0 [0,1],r 1 [0,1,7,8],rh 2 [0,1,7,8,9] [0,1,7,8],r 3 [0,1,5,7,8],r 4 [0,1,5,7,8,16],r 5 [4],r 6 [0,1,7,8],r 7 [4]] Tryz.f63:=mkx
abbrev a63:=x63.1
def x72:Cm [r 0 [0,1],r 1 [4]] Tryz.f72:=mkx
abbrev a72:=x72.1
def x73:Cm [r 0 [0],r 1 [2]] Tryz.f73:=mkx
abbrev a73:=x73.1
def x74:Cm [r 0 [0],r 1 [0,3],rh 2 [0,3,7] [0,3],rd 4 10 [0,3,19],r 5 [2],r 3 [0,3],r 6 [2]] Tryz.f74:=mkx
abbrev a74:=x74.1
def x75:Cm [r 0 [1],r 1 [2]] Tryz.f75:=mkx
abbrev a75:=x75.1
def x76:Cm [r 0 [0,1,2],r 1 [0,1,2,8],r 2 [0,1,2,8,9,10],rh 3 [0,1,2,8,9,10,17] [0,1,2,8,9,10],r 4 [0,1,2,8,9,10,11],r 5 [0,1,2,8,9,10,11,31],r 6 [0,1,2,8,9,10],r 7 [0,1,2,8,9,10],r 8 [6,7]] Tryz.f76:=mkx
abbrev a76:=x76.1
def x77:Cm [r 0 [1,2],r 1 [4]] Tryz.f77:=mkx
abbrev a77:=x77.1
def x78:Cm [r 0 [0,1],r 1 [0,1,5],r 2 [0,1,5,6],r 3 [0,1,6,11],r 4 [12],r 5 [4],r 6 [4],r 7 [0,1,13],r 8 [4],r 9 [0,1,16],r 10 [4],r 11 [19],r 12 [4],r 13 [4]] Tryz.f78:=mkx
abbrev a78:=x78.1
def x79:Cm [r 0 [0],r 1 [2]] Tryz.f79:=mkx
abbrev a79:=x79.1
def x80:Cm [r 0 [0,1],r 1 [0,1,7,8],rh 2 [0,1,7,8,9] [0,1,7,8],r 3 [0,1,5,7,8],r 4 [0,1,5,7,8,16],r 5 [4],r 6 [0,1,7,8],r 7 [4]] Tryz.f80:=mkx
abbrev a80:=x80.1
def x86:Cm [r 0 [0],r 1 [0,4],r 2 [2],ro 3 [2] [nw 0]] Tryz.f86:=mkx
abbrev a86:=x86.1
def x87:Cm [r 0 [0],r 1 [0,4],r 2 [2],ro 3 [2] [nw 0]] Tryz.f87:=mkx
abbrev a87:=x87.1
def x88:Cm [r 0 [0],r 1 [0,4],r 2 [2],ro 3 [2] [nw 0]] Tryz.f88:=mkx
abbrev a88:=x88.1
def x89:Cm [r 0 [1],r 1 [1,3,4],r 2 [1,3,11],r 3 [2],r 4 [1,3,20],r 5 [2],r 6 [1,3,50],r 7 [2],r 8 [1,3,70],r 9 [2],r 10 [79],r 11 [2],r 12 [2]] Tryz.f89:=mkx
abbrev a89:=x89.1
def x91:Cm [r 0 [0,3],ro 1 [0,3,4,5] [(3,.mode .borrow)],r 2 [0,3,4,5,22],ro 3 [0,3,4] [ke 2],ro 4 [0,3,4] [ke 7],⟨5,(some 11),[],[0,3],none,[ke 11],[],false,true,[],[]⟩,rd 6 13 [],ro 7 [0,3,4] [ke 1],r 8 [0,3,4,6],r 9 [0,3,4,6,72],r 11 [0,3,4,6,72,85],r 12 [0,3,4,91,92,93],rh 13 [0,3,4,91,92,93,94] [0,3,4,91,92,93],r 14 [0,3,4,8,91,92,93],ro 15 [0,3,4,91,92,93] [ke 12],r 16 [0,3,4,91,92,93],ro 17 [] [ke 9],r 18 [3,6,72,124],⟨19,(some 12),[],[3,6,9,10],none,[(6,.mode .borrow)],[],false,false,[],[]⟩,ro 20 [3,6,9] [ke 2],ro 21 [3,6,9] [ke 6],⟨22,(some 9),[],[],none,[ke 9],[],false,true,[],[]⟩,r 23 [3,6,158],⟨24,(some 12),[],[6,11,12],none,[(6,.mode .borrow)],[],false,false,[],[]⟩,ro 25 [6,11] [ke 1],ro 26 [] [ke 8],⟨10,(some 9),[],[],none,[ke 9],[],false,true,[],[9]⟩] Tryz.f91:=mkx
abbrev a91:=x91.1
def x92:Cm [r 0 [0,3],ro 1 [0,3,4,5] [(3,.mode .borrow)],r 2 [0,3,4,5,18],r 5 [0,3,4,5,18,43],ro 6 [0,3,4] [ke 2],ro 7 [0,3,4,7] [(3,.mode .borrow)],ro 8 [0,3,4,7,9] [(3,.mode .borrow)],ro 9 [0,3,4] [ke 4],ro 10 [0,3,4] [ke 7],⟨11,(some 17),[],[0,3],none,[ke 17],[],false,true,[],[]⟩,rd 12 13 [],r 13 [0,3,4,5,109],ro 14 [0,4] [ke 1],ro 15 [] [ke 9],ro 3 [0,3,4] [ke 1],⟨4,(some 19),[],[],none,[ke 19],[],false,true,[4],[19]⟩] Tryz.f92:=mkx
abbrev a92:=x92.1
def x93:Cm [r 0 [0,1],r 1 [0,1,7,8],rh 2 [0,1,7,8,9] [0,1,7,8],r 3 [0,1,5,7,8],r 4 [0,1,5,7,8,16],r 5 [4],r 6 [0,1,7,8],r 7 [4]] Tryz.f93:=mkx
abbrev a93:=x93.1
def x94:Cm [r 0 [0],r 1 [0,7],r 2 [0],r 3 [0,3],r 4 [0,3,4],rh 5 [0,3,4,15] [0,3,4],r 7 [0,3,4],r 6 [0,3,4],r 8 [2]] Tryz.f94:=mkx
abbrev a94:=x94.1
def x105:Cm [r 0 [0,1],r 1 [0,1,7,8],rh 2 [0,1,7,8,9] [0,1,7,8],r 3 [0,1,5,7,8],r 4 [0,1,5,7,8,16],r 5 [4],r 6 [0,1,7,8],r 7 [4]] Tryz.f105:=mkx
abbrev a105:=x105.1
def x106:Cm [r 0 [1],r 1 [2]] Tryz.f106:=mkx
abbrev a106:=x106.1
def x107:Cm [r 0 [0],r 1 [2]] Tryz.f107:=mkx
abbrev a107:=x107.1
def x123:Cm [r 0 [0,2],r 1 [2,4],r 2 [2,4,5],r 3 [2,4,5],r 4 [2,4,5],r 5 [2,3],r 6 [2,4,10],r 7 [2,4,10],r 8 [2,3],r 9 [2,4,14],r 10 [2,4,14],r 11 [2,3],r 12 [2,18],r 13 [2,3],r 14 [2,3]] Tryz.f123:=mkx
abbrev a123:=x123.1
def x124:Cm [r 0 [0],r 1 [2]] Tryz.f124:=mkx
abbrev a124:=x124.1
def x125:Cm [r 0 [1],r 1 [2]] Tryz.f125:=mkx
abbrev a125:=x125.1
def x126:Cm [r 0 [0,1],ro 1 [4,5] [(6,.mode .borrow)]] Tryz.f126:=mkx
abbrev a126:=x126.1
def x127:Cm [r 0 [1,5]] Tryz.f127:=mkx
abbrev a127:=x127.1
def x130:Cm [r 0 [0,1],r 1 [0,1,6],r 2 [0,1,6,7,8],rh 3 [0,1,6,7,8,15] [0,1,6,7,8],r 4 [0,1,6,7,8,9],r 5 [0,1,6,7,8,9,27],r 6 [0,1,6,7,8],r 7 [0,1,6,7,8],r 8 [4,5]] Tryz.f130:=mkx
abbrev a130:=x130.1
def x133:Cm [r 0 [0,1,5],ro 1 [0,1,5,7,8] [(2,.mode .borrow)],r 2 [0,1,5,7,8,15],ro 3 [6] [ke 4],r 4 [0,1,5,7,8,26],r 5 [6],r 6 [0,1,5,7,30],r 7 [0],r 8 [6],ro 9 [0,1,5,7] [ke 3],ro 10 [6] [ke 6]] Tryz.f133:=mkx
abbrev a133:=x133.1
end
end AI
end Go.Proofs.YtgmgkkbpgndaaaaGreatDoor
