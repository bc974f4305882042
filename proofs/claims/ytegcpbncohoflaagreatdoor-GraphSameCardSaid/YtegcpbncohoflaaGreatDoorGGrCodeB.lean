/- Functions with their compiled forms: what must be told of each region. -/
import Derived.Test.YtegcpbncohoflaaGreatDoorGCx
set_option maxRecDepth 100000
set_option maxHeartbeats 0
namespace Go.Proofs.YtegcpbncohoflaaGreatDoor
namespace AI
noncomputable section
def x24:Cm [r 0 [1,2,3],r 1 [1,2,3],r 2 [1,2,3,16],r 3 [6],r 4 [1,2,3,7],rh 5 [1,2,3,7,25] [1,2,3,7],r 7 [1,2,3,7],r 6 [1,2,3,7],r 8 [6]] Tryz.f24:=Ce
abbrev a24:=x24.1
def x25:Cm [r 0 [1,2],r 1 [4]] Tryz.f25:=Ce
abbrev a25:=x25.1
def x26:Cm [ro 0 [] [sh 4]] Tryz.f26:=Ce
abbrev a26:=x26.1
def x27:Cm [r 0 [2,3],rd 1 13 [4]] Tryz.f27:=Ce
abbrev a27:=x27.1
def x28:Cm [r 0 [0],r 1 [0,3],r 2 [3,6,7,8],rh 3 [3,6,7,8,9] [3,6,7,8],r 4 [3,5,6,7,8],r 5 [3,5,6,7,8,14],r 6 [2],r 7 [3,6,7,8],r 8 [2]] Tryz.f28:=Ce
abbrev a28:=x28.1
def x29:Cm [r 0 [0,1],r 1 [0,1,5],r 2 [0,1,5,6],r 3 [0,1,6,11],r 4 [12],r 5 [4],r 6 [4],r 7 [0,1,13],r 8 [4],r 9 [0,1,16],r 10 [4],r 11 [19],r 12 [4],r 13 [4]] Tryz.f29:=Ce
abbrev a29:=x29.1
def x30:Cm [r 0 [0,1],r 1 [0,1,17],r 2 [4],ro 3 [0,1,5] [nw 0],r 4 [0,1,5,18,19,20],rh 5 [0,1,5,18,19,20,21] [0,1,5,18,19,20],r 6 [0,1,5,7,18,19,20],r 7 [0,1,5,18,19,20],⟨8,none,[],[0,1,5,18,19,20],(some 1),[],[],false,false,[],[]⟩,ro 9 [0,1,5,35] [(4,.mode .borrow)],r 10 [4],ro 11 [1,43] [(5,.mode .borrow)],r 12 [4],r 13 [44,45,46],rh 14 [44,45,46,47] [44,45,46],r 15 [9,44,45,46],r 16 [44,45,46,53],r 17 [4],⟨18,none,[],[44,45,46],(some 1),[],[],false,false,[],[]⟩,r 19 [4]] Tryz.f30:=Ce
abbrev a30:=x30.1
def x31:Cm [r 0 [0,1],r 1 [6],r 2 [4]] Tryz.f31:=Ce
abbrev a31:=x31.1
def x32:Cm [r 0 [0],r 1 [2]] Tryz.f32:=Ce
abbrev a32:=x32.1
def x33:Cm [r 0 [0],ro 1 [0,3] [nw 0],r 2 [0,3,4],rh 3 [0,3,4,9] [0,3,4],r 5 [0,3,4,5],r 6 [0,3,4,5],r 7 [0,3,4],⟨4,none,[],[0,3,4],(some 1),[],[],false,false,[],[]⟩,r 8 [2]] Tryz.f33:=Ce
abbrev a33:=x33.1
def x34:Cm [r 0 [0,1,2],r 1 [0,1,2,14],r 2 [6],r 3 [1,2,15,16,17],rh 4 [1,2,15,16,17,18] [1,2,15,16,17],r 5 [1,2,7,8,15,16,17],r 6 [1,2,8,9,15,16,17],r 7 [1,2,15,16,17,30],r 8 [6],⟨9,none,[],[1,2,15,16,17],(some 0),[],[],false,false,[],[]⟩,r 10 [6]] Tryz.f34:=Ce
abbrev a34:=x34.1
def x35:Cm [r 0 [2,3],r 1 [4]] Tryz.f35:=Ce
abbrev a35:=x35.1
def x36:Cm [r 0 [2,3],rd 1 6 [2,3,5,6],r 2 [2,3,5,6,11],r 3 [4],r 4 [2,3,6,19],r 5 [4],r 6 [2,3,21],r 7 [4],rd 8 28 [4]] Tryz.f36:=Ce
abbrev a36:=x36.1
def x37:Cm [r 0 [0,1],r 1 [0,1,10],r 2 [4],r 3 [0,1,5],rh 4 [0,1,5,14] [0,1,5],rd 6 9 [0,1,5,25],r 7 [4],r 5 [0,1,5],r 8 [4]] Tryz.f37:=Ce
abbrev a37:=x37.1
def x38:Cm [r 0 [0,1],r 1 [0,1,10],r 2 [4],r 3 [0,1,5],rh 4 [0,1,5,14] [0,1,5],rd 6 25 [0,1,5,41],r 7 [4],r 5 [0,1,5],r 8 [4]] Tryz.f38:=Ce
abbrev a38:=x38.1
def x39:Cm [r 0 [0,1],r 1 [4]] Tryz.f39:=Ce
abbrev a39:=x39.1
def x40:Cm [r 0 [0,1,2,6],r 1 [0,1,2,6,7,8],rh 2 [0,1,2,6,7,8,13] [0,1,2,6,7,8],ro 3 [0,1,2,6,8] [sh 4],r 4 [0,1,2,6,7,8],r 5 [0,1,2,6,7,8],ro 6 [0,1,2,6] [sh 4],rh 7 [0,1,2,6,30] [0,1,2,6],r 8 [0,1,2,6,7,8],rh 9 [0,1,2,6,7,8,35] [0,1,2,6,7,8],ro 10 [0,1,2,6,8] [sh 7],r 11 [0,1,2,6,7,8],r 12 [0,1,2,6,7,8],r 13 [0,1,2,6,7,9],r 14 [0,1,2,6,7,9,54],ro 15 [0,1,2,6] [sh 5],r 16 [0,1,2,6]] Tryz.f40:=Ce
abbrev a40:=x40.1
def x41:Cm [r 0 [0],r 1 [2]] Tryz.f41:=Ce
abbrev a41:=x41.1
def x42:Cm [r 0 [0,1],r 1 [4]] Tryz.f42:=Ce
abbrev a42:=x42.1
def x43:Cm [r 0 [0],r 1 [2]] Tryz.f43:=Ce
abbrev a43:=x43.1
def x44:Cm [r 0 [0],r 1 [0,3],rh 2 [0,3,7] [0,3],rd 4 10 [0,3,19],r 5 [2],r 3 [0,3],r 6 [2]] Tryz.f44:=Ce
abbrev a44:=x44.1
def x45:Cm [r 0 [1],r 1 [2]] Tryz.f45:=Ce
abbrev a45:=x45.1
def x46:Cm [r 0 [0,1,2],r 1 [0,1,2,8],r 2 [0,1,2,8,9,10],rh 3 [0,1,2,8,9,10,17] [0,1,2,8,9,10],r 4 [0,1,2,8,9,10,11],r 5 [0,1,2,8,9,10,11,31],r 6 [0,1,2,8,9,10],r 7 [0,1,2,8,9,10],r 8 [6,7]] Tryz.f46:=Ce
abbrev a46:=x46.1
def x47:Cm [r 0 [1,2],r 1 [4]] Tryz.f47:=Ce
abbrev a47:=x47.1
def x48:Cm [r 0 [1],r 1 [2]] Tryz.f48:=Ce
abbrev a48:=x48.1
def x49:Cm [r 0 [2,3],rd 1 6 [2,3,5],r 2 [2,3,5,16],r 3 [4],r 4 [2,3,20],r 5 [3,6],r 6 [6,8],r 7 [4],rd 8 18 [4]] Tryz.f49:=Ce
abbrev a49:=x49.1
def x50:Cm [r 0 [0,1],r 1 [0,1,5],r 2 [0,1,5,6],r 3 [0,1,6,11],r 4 [12],r 5 [4],r 6 [4],r 7 [0,1,13],r 8 [4],r 9 [0,1,16],r 10 [4],r 11 [19],r 12 [4],r 13 [4]] Tryz.f50:=Ce
abbrev a50:=x50.1
def x51:Cm [r 0 [0,1,2],r 1 [0,1,2,11,12,13],rh 2 [0,1,2,11,12,13,14] [0,1,2,11,12,13],r 3 [0,1,2,7,8,11,12,13],r 4 [0,1,2,7,8,11,12,13,21],r 5 [6],r 6 [0,1,2,8,9,11,12,13],r 7 [0,1,2,10,11,12,13],r 8 [0,1,2,10,11,12,13,31],r 9 [6],⟨10,none,[],[0,1,2,11,12,13],(some 0),[],[],false,false,[],[]⟩,r 11 [38],r 12 [6],r 13 [6]] Tryz.f51:=Ce
abbrev a51:=x51.1
end
end AI
end Go.Proofs.YtegcpbncohoflaaGreatDoor
