/- Functions with their compiled forms: what must be told of each region. -/
import Derived.Test.YtjjhejbffgaabaaGreatDoorQCx
set_option maxRecDepth 100000
set_option maxHeartbeats 0
namespace Go.Proofs.YtjjhejbffgaabaaGreatDoor
namespace AI
noncomputable section
def x23:Cm [r 0 [0,4,5],ro 1 [0,4,5,7] [ow 1],ro 2 [0,5,7,8] [(2,.mode .borrow)],ro 3 [0,7,8,9] [(2,.mode .borrow)],r 4 [0,7,8,9,26],r 5 [6],rd 6 12 [7,10,11],r 7 [7,10,11,39,40],rh 8 [7,10,11,39,40,41] [7,10,11,39,40],r 9 [7,10,11,12,39,40],r 10 [7,10,11,12,39,40,58],r 11 [7,10,11,39,40],r 12 [7,10,11,39,40],r 13 [6]] Tryz.f23:=BA
abbrev a23:=x23.1
def x24:Cm [r 0 [0,1],r 1 [0,1,10],r 2 [4],r 3 [0,1,5],rh 4 [0,1,5,14] [0,1,5],rd 6 9 [0,1,5,25],r 7 [4],r 5 [0,1,5],r 8 [4]] Tryz.f24:=BA
abbrev a24:=x24.1
def x25:Cm [r 1 [0]] Tryz.f25:=BA
abbrev a25:=x25.1
def x26:Cm [] Tryz.f26:=BA
abbrev a26:=x26.1
def x27:Cm [r 0 [2,3],⟨1,none,[3],[4],none,[ow 2,sh 4],[],false,false,[],[]⟩] Tryz.f27:=BA
abbrev a27:=x27.1
def x28:Cm [ro 0 [0,1,2] [sh 2,sh 5]] Tryz.f28:=BA
abbrev a28:=x28.1
def x29:Cm [r 0 [0,1],r 1 [0,1,5],rh 2 [0,1,5,14] [0,1,5],r 3 [0,1,5],rh 4 [0,1,5,28] [0,1,5],rd 5 12 [0,1,5],r 6 [4]] Tryz.f29:=BA [] [(5,[(12,.WU (.cst .junk)),(13,.WU (.cst .junk)),(14,.mapset .int (.tmp 32) (.tmp 33) (.tmp 34))])]
abbrev a29:=x29.1
def x30:Cm [r 0 [1],r 1 [1,16],r 2 [2],r 3 [1,34],r 4 [2],r 5 [1,3],rh 6 [1,3,39] [1,3],r 8 [1,3,4],r 9 [1,3,4,46],r 10 [2],r 7 [1,3],r 11 [1,5],rh 12 [1,5,52] [1,5],r 14 [1,5,6],r 15 [1,5,6,59],r 16 [2],r 13 [1,5],r 17 [2]] Tryz.f30:=BA
abbrev a30:=x30.1
def x31:Cm [r 0 [1,2],r 1 [4]] Tryz.f31:=BA
abbrev a31:=x31.1
def x32:Cm [r 0 [0,1,2],r 1 [0,2,7,8],r 2 [0,7,8,9,10],ro 3 [7,8,9,10,11] [nw 0],r 4 [7,9,11,33],r 5 [6],r 6 [7,9,11,12],rh 7 [7,9,11,12,38] [7,9,11,12],r 9 [7,9,11,12,56],r 10 [7,9,11,12],r 8 [7,9,11,12],r 11 [6]] Tryz.f32:=BA
abbrev a32:=x32.1
def x33:Cm [ro 0 [0,4] [ke 2,nw 3],rh 1 [0,4,16] [0,4],r 2 [0,4,5],rd 3 15 [0,4,5,36],ro 4 [0,4,5] [sh 5],r 5 [0,4,5],r 6 [0,4,5,50],r 7 [0,4,5,6],rd 8 21 [0,4],rd 9 16 [0,4,5,7],r 10 [0,4,5,7],r 11 [0,4,5,7,9],r 12 [0,4,5,7,111],ro 13 [0,4] [ke 3],r 14 [0,4,5,7,123],rd 15 24 [0,4]] Tryz.f33:=BA
abbrev a33:=x33.1
def x34:Cm [r 0 [1,2,3],r 1 [1,3,7],r 2 [1,3,7,8],rh 3 [1,3,7,8,17] [1,3,7,8],r 5 [1,3,7,8,9],rh 6 [1,3,7,8,9,24] [1,3,7,8,9],r 8 [1,3,7,8,9,10],r 9 [1,3,7,8,9,10,40],r 10 [1,3,7,8,9],⟨7,none,[],[1,3,7,8,9],(some 1),[],[],false,false,[],[]⟩,r 4 [1,3,7,8],r 11 [6]] Tryz.f34:=BA
abbrev a34:=x34.1
def x35:Cm [r 0 [0,1],r 1 [0,1,17],r 2 [4],ro 3 [0,1,5] [nw 0],r 4 [0,1,5,18,19,20],rh 5 [0,1,5,18,19,20,21] [0,1,5,18,19,20],r 6 [0,1,5,7,18,19,20],r 7 [0,1,5,18,19,20],⟨8,none,[],[0,1,5,18,19,20],(some 1),[],[],false,false,[],[]⟩,ro 9 [0,1,5,35] [(4,.mode .borrow)],r 10 [4],ro 11 [1,43] [(5,.mode .borrow)],r 12 [4],r 13 [44,45,46],rh 14 [44,45,46,47] [44,45,46],r 15 [9,44,45,46],r 16 [44,45,46,53],r 17 [4],⟨18,none,[],[44,45,46],(some 1),[],[],false,false,[],[]⟩,r 19 [4]] Tryz.f35:=BA
abbrev a35:=x35.1
def x36:Cm [r 0 [0,1],r 1 [6],r 2 [4]] Tryz.f36:=BA
abbrev a36:=x36.1
def x37:Cm [r 0 [0],r 1 [0,16],r 2 [2],r 3 [0,18,19],rh 4 [0,18,19,20] [0,18,19],r 5 [0,3,18,19],r 6 [0,18,19,44],r 7 [2],r 8 [0,18,19],r 9 [2]] Tryz.f37:=BA
abbrev a37:=x37.1
def x39:Cm [r 0 [1],r 1 [2]] Tryz.f39:=BA
abbrev a39:=x39.1
def x40:Cm [r 0 [0,1],r 1 [4]] Tryz.f40:=BA
abbrev a40:=x40.1
def x41:Cm [r 0 [0],r 1 [0,4],r 2 [2],ro 3 [2] [nw 0]] Tryz.f41:=BA
abbrev a41:=x41.1
def x42:Cm [r 0 [0],ro 1 [3] [ow 1],r 2 [3,8,9],rh 3 [3,8,9,10] [3,8,9],r 4 [3,4,8,9],r 5 [3,8,9],r 6 [3,8,9],r 7 [2]] Tryz.f42:=BA
abbrev a42:=x42.1
def x44:Cm [r 0 [0,1],r 1 [0,1,5],rh 2 [0,1,5,13] [0,1,5],rd 4 16 [0,1,5],r 3 [0,1,5],r 5 [4]] Tryz.f44:=BA
abbrev a44:=x44.1
def x45:Cm [r 0 [0,1],r 1 [0,1,10],r 2 [4],r 3 [0,1,12,13],rh 4 [0,1,12,13,14] [0,1,12,13],r 5 [0,1,5,12,13],rd 6 9 [0,1,12,13,24],r 7 [4],r 8 [0,1,12,13],r 9 [4]] Tryz.f45:=BA [] [(6,[(8,.bin .neq (.flat [.int,.int]) (.tmp 19) (.tmp 23))])]
abbrev a45:=x45.1
def x46:Cm [r 0 [2,3,4],r 1 [4,6,8],r 2 [4,5]] Tryz.f46:=BA
abbrev a46:=x46.1
def x47:Cm [r 0 [0],r 1 [0,4],r 2 [2],ro 3 [2] [nw 0]] Tryz.f47:=BA
abbrev a47:=x47.1
def x48:Cm [r 0 [0,1],r 1 [0,1,7,8],rh 2 [0,1,7,8,9] [0,1,7,8],r 3 [0,1,5,7,8],r 4 [0,1,5,7,8,16],r 5 [4],r 6 [0,1,7,8],r 7 [4]] Tryz.f48:=BA
abbrev a48:=x48.1
def x49:Cm [r 0 [1,2],r 1 [3]] Tryz.f49:=BA
abbrev a49:=x49.1
def x50:Cm [r 0 [1,2],r 1 [3]] Tryz.f50:=BA
abbrev a50:=x50.1
def x51:Cm [r 0 [0,1],ro 1 [0,1,5] [(2,.mode .borrow)],r 2 [0,1,5,12],r 3 [4],r 4 [0,1,5,6],rh 5 [0,1,5,6,19] [0,1,5,6],r 7 [0,1,5,6,7],r 8 [0,1,5,6,7,29],r 9 [0,1,5,6],r 10 [0,1,5,6],⟨6,none,[],[0,1,5,6],(some 1001),[],[],false,false,[],[]⟩,r 11 [0,5],r 12 [4]] Tryz.f51:=BA
abbrev a51:=x51.1
def x52:Cm [r 0 [0],r 1 [0,4],r 2 [2],ro 3 [2] [nw 0]] Tryz.f52:=BA
abbrev a52:=x52.1
def x53:Cm [r 0 [1,2],r 1 [3]] Tryz.f53:=BA
abbrev a53:=x53.1
def x54:Cm [r 0 [1,2],r 1 [1,2,5],rd 2 14 [2,5,24],r 3 [4],r 4 [5,34],r 5 [4],r 6 [4]] Tryz.f54:=BA
abbrev a54:=x54.1
def x55:Cm [r 0 [1,2],r 1 [1,2,5],rd 2 14 [2,5,28],r 3 [4],r 4 [2,5,38],r 5 [4],r 6 [2,5,7],r 7 [5,7,9],r 8 [5,58],r 9 [4],r 10 [5,62],r 11 [4],r 12 [4]] Tryz.f55:=BA
abbrev a55:=x55.1
def x56:Cm [r 0 [0,1],r 1 [0,1,5],rh 2 [0,1,5,9] [0,1,5],r 4 [0,1,5,17],r 5 [4],r 3 [0,1,5],r 6 [4]] Tryz.f56:=BA
abbrev a56:=x56.1
def x57:Cm [r 0 [0,1,4],rd 1 10 [0,1,4],rd 2 11 [0,1,4],r 3 [0,1,4],r 4 [1,4],r 5 [4]] Tryz.f57:=BA
abbrev a57:=x57.1
def x58:Cm [rd 0 13 [0,1,20],ro 1 [0,4] [(5,.mode .borrow)],ro 2 [0,4,5] [(6,.mode .borrow)],r 3 [0,4,5,39,40,41],rh 4 [0,4,5,39,40,41,42] [0,4,5,39,40,41],r 5 [0,4,5,7,39,40,41],r 6 [0,4,5,7,39,40,41],r 7 [0,4,5,39,40,41],r 8 [0,4,5,39,40,41]] Tryz.f58:=BA
abbrev a58:=x58.1
def x59:Cm [r 0 [0,1],r 1 [1,5],r 2 [1,5,6],rh 3 [1,5,6,12] [1,5,6],r 5 [1,5,6],r 4 [1,5,6],r 6 [4]] Tryz.f59:=BA
abbrev a59:=x59.1
def x60:Cm [r 0 [0,1],r 1 [4]] Tryz.f60:=BA
abbrev a60:=x60.1
def x61:Cm [r 0 [0],r 1 [2]] Tryz.f61:=BA
abbrev a61:=x61.1
def x62:Cm [r 0 [0],r 1 [0,3],rh 2 [0,3,7] [0,3],rd 4 10 [0,3,19],r 5 [2],r 3 [0,3],r 6 [2]] Tryz.f62:=BA
abbrev a62:=x62.1
def x63:Cm [r 0 [1],r 1 [2]] Tryz.f63:=BA
abbrev a63:=x63.1
def x64:Cm [r 0 [0,1,2],r 1 [0,1,2,8],r 2 [0,1,2,8,9,10],rh 3 [0,1,2,8,9,10,17] [0,1,2,8,9,10],r 4 [0,1,2,8,9,10,11],r 5 [0,1,2,8,9,10,11,31],r 6 [0,1,2,8,9,10],r 7 [0,1,2,8,9,10],r 8 [6,7]] Tryz.f64:=BA
abbrev a64:=x64.1
def x65:Cm [r 0 [1,2],r 1 [4]] Tryz.f65:=BA
abbrev a65:=x65.1
def x66:Cm [r 0 [0,1],r 1 [0,1,5],r 2 [0,1,5,6],r 3 [0,1,6,11],r 4 [12],r 5 [4],r 6 [4],r 7 [0,1,13],r 8 [4],r 9 [0,1,16],r 10 [4],r 11 [19],r 12 [4],r 13 [4]] Tryz.f66:=BA
abbrev a66:=x66.1
end
end AI
end Go.Proofs.YtjjhejbffgaabaaGreatDoor
