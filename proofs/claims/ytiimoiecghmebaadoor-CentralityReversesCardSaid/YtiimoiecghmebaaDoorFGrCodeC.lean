/- Functions with their compiled forms: what must be told of each region. -/
import Derived.Test.YtiimoiecghmebaaDoorFCx
set_option maxRecDepth 100000
set_option maxHeartbeats 0
namespace Go.Proofs.YtiimoiecghmebaaDoor
namespace AI
noncomputable section
def x20:Cm [r 0 [0,1,4],r 1 [0,1,4,18],r 2 [4,5],r 3 [0,1,4,6],r 4 [0,1,4,6,24],r 5 [0,1,4,6],rd 6 7 [4,5]] Tryd.f20:=E5
abbrev a20:=x20.1
def x21:Cm [r 0 [2,3,4],r 1 [2,3,4,20],r 2 [4,5],r 3 [2,3,4,6],⟨4,(some 15),[],[2,3,4,6,7],none,[],[],false,true,[1,3,8,10],[]⟩,r 5 [2,3,4,6,7,44],r 6 [4,5],r 7 [2,3,4,6,7,8],r 8 [2,3,4,6,8,9,10],rd 9 14 [4,9,10,11,12],r 10 [4,9,11,77],r 11 [4,5],r 12 [4,5]] Tryd.f21:=E5
abbrev a21:=x21.1
def x22:Cm [r 0 [0,1],r 1 [0,1,5],rh 2 [0,1,5,13] [0,1,5],rd 4 16 [0,1,5],r 3 [0,1,5],r 5 [4]] Tryd.f22:=E5
abbrev a22:=x22.1
def x23:Cm [r 0 [0,1],r 1 [0,1,6],r 2 [0,1,6,7,8],rh 3 [0,1,6,7,8,15] [0,1,6,7,8],r 4 [0,1,6,7,8,9],r 5 [0,1,6,7,8,9,27],r 6 [0,1,6,7,8],r 7 [0,1,6,7,8],r 8 [4,5]] Tryd.f23:=E5
abbrev a23:=x23.1
def x24:Cm [r 0 [0,1],r 1 [0,1,17],r 2 [4],ro 3 [0,1,5] [nw 0],r 4 [0,1,5,18,19,20],rh 5 [0,1,5,18,19,20,21] [0,1,5,18,19,20],r 6 [0,1,5,7,18,19,20],r 7 [0,1,5,18,19,20],⟨8,none,[],[0,1,5,18,19,20],(some 1),[],[],false,false,[],[]⟩,ro 9 [0,1,5,35] [(4,.mode .borrow)],r 10 [4],ro 11 [1,43] [(5,.mode .borrow)],r 12 [4],r 13 [44,45,46],rh 14 [44,45,46,47] [44,45,46],r 15 [9,44,45,46],r 16 [44,45,46,53],r 17 [4],⟨18,none,[],[44,45,46],(some 1),[],[],false,false,[],[]⟩,r 19 [4]] Tryd.f24:=E5
abbrev a24:=x24.1
def x25:Cm [r 0 [0,1],r 1 [6],r 2 [4]] Tryd.f25:=E5
abbrev a25:=x25.1
def x26:Cm [r 0 [0],r 1 [0,16],r 2 [2],r 3 [0,18,19],rh 4 [0,18,19,20] [0,18,19],r 5 [0,3,18,19],r 6 [0,18,19,44],r 7 [2],r 8 [0,18,19],r 9 [2]] Tryd.f26:=E5
abbrev a26:=x26.1
def x27:Cm [r 0 [1,2],r 1 [4]] Tryd.f27:=E5
abbrev a27:=x27.1
def x29:Cm [r 0 [0],ro 1 [0,3] [nw 0],r 2 [0,3,4],rh 3 [0,3,4,8] [0,3,4],rd 5 17 [0,3,4],r 4 [0,3,4],r 6 [2]] Tryd.f29:=E5
abbrev a29:=x29.1
def x30:Cm [r 0 [0],r 1 [0,8],r 2 [2],r 3 [0,3],rh 4 [0,3,13] [0,3],rd 6 10 [0,3,25],r 7 [0,3,4],r 8 [0,3,4,5],rh 9 [0,3,4,5,32] [0,3,4,5],rd 11 10 [0,3,4,5,44],r 12 [0,3,4,5],r 13 [0,3,4,5],r 10 [0,3,4,5],r 14 [0,3],r 15 [2],r 5 [0,3],r 16 [2]] Tryd.f30:=E5
abbrev a30:=x30.1
def x31:Cm [r 0 [0],r 1 [2]] Tryd.f31:=E5
abbrev a31:=x31.1
def x32:Cm [r 0 [0,1],r 1 [0,1,12],r 2 [4],r 3 [0,1],rh 4 [0,1,18] [0,1],rd 5 6 [0,1],r 6 [4]] Tryd.f32:=E5
abbrev a32:=x32.1
def x33:Cm [r 0 [1],r 1 [2]] Tryd.f33:=E5
abbrev a33:=x33.1
def x34:Cm [r 0 [0,1,4],r 1 [0,1,4,5,6],r 2 [4]] Tryd.f34:=E5
abbrev a34:=x34.1
def x35:Cm [r 0 [2,3,4],r 1 [2,3,4,17],r 2 [2,3,4,5,6],r 3 [2,4,5,7],r 4 [4],r 5 [2,3,4,42],r 6 [2,3,4],r 7 [2,3,4,9,10],r 8 [2,4,9,11],r 9 [4]] Tryd.f35:=E5
abbrev a35:=x35.1
def x36:Cm [r 0 [1],r 1 [1,3],r 2 [2],r 3 [10],r 4 [2],r 5 [2]] Tryd.f36:=E5
abbrev a36:=x36.1
def x37:Cm [r 0 [1,2],rd 1 13 [6],r 2 [4]] Tryd.f37:=E5
abbrev a37:=x37.1
def x38:Cm [r 0 [1,2],r 1 [1,2,11],r 2 [4,5],r 3 [2,6],r 4 [2,6,22],r 5 [4,5],r 6 [6,24],r 7 [4,5],r 8 [4,5]] Tryd.f38:=E5
abbrev a38:=x38.1
def x39:Cm [r 0 [0,1],r 1 [0,1,25],r 2 [4,5],r 3 [4,5]] Tryd.f39:=E5
abbrev a39:=x39.1
def x40:Cm [r 0 [1,2,3],r 1 [1,2,3],r 2 [1,2,3,16],r 3 [6],r 4 [1,2,3,7],rh 5 [1,2,3,7,25] [1,2,3,7],r 7 [1,2,3,7],r 6 [1,2,3,7],r 8 [6]] Tryd.f40:=E5
abbrev a40:=x40.1
def x41:Cm [r 0 [0,1],r 1 [4]] Tryd.f41:=E5
abbrev a41:=x41.1
def x42:Cm [r 0 [0],r 1 [2]] Tryd.f42:=E5
abbrev a42:=x42.1
def x43:Cm [r 0 [0,1],r 1 [4]] Tryd.f43:=E5
abbrev a43:=x43.1
def x44:Cm [r 0 [0],r 1 [2]] Tryd.f44:=E5
abbrev a44:=x44.1
def x45:Cm [r 0 [0],r 1 [0,3],rh 2 [0,3,7] [0,3],rd 4 10 [0,3,19],r 5 [2],r 3 [0,3],r 6 [2]] Tryd.f45:=E5
abbrev a45:=x45.1
def x46:Cm [r 0 [1],r 1 [2]] Tryd.f46:=E5
abbrev a46:=x46.1
end
end AI
end Go.Proofs.YtiimoiecghmebaaDoor
