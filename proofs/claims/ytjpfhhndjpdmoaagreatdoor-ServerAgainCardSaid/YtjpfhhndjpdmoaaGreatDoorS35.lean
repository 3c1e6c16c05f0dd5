/- Part of the proof: Sa0,Sa1. No conditions of its own. -/
import Derived.Test.YtjpfhhndjpdmoaaGreatDoorS34
namespace Go.Proofs.YtjpfhhndjpdmoaaGreatDoor
open Go.RowKit
def sk0 : Stg:=⟨21,[(.slice 4582 0 1 1),(.v (.int .i64 7)),(.v (.string ⟨#[]⟩)),(.v (.bool false)),(.buf 4589 0 6 1)],[(4582,⟨5,true,true,(q8 [115])⟩),(4589,⟨5,false,true,(q8 [2,3,0,6,1,97])⟩)],4590,(.buf 4614 0 46 1),[(4614,some ⟨5,false,true,(q8 [1,7,0,46,7,0,7,0,0,0,0,0,0,0,0,0,0,0,0,0,79,8,2,3,0,6,1,97,80,18,33,68,173,5,231,29,240,135,219,220,113,199,205,74,109,192])⟩)],4766⟩
theorem sk0_run : stB sk0 (cfT1 sk0.f sk0.a (hpOf sk0.D) sk0.nx) = true:=by kernel_rfl
def sk1 : Stg:=⟨21,[(.slice 5480 0 1 1),(.v (.int .i64 100)),(.v (.string ⟨#[]⟩)),(.v (.bool false)),(.buf 5487 0 6 1)],[(5480,⟨5,true,true,(q8 [115])⟩),(5487,⟨5,false,true,(q8 [2,3,0,6,1,97])⟩)],5488,(.buf 5512 0 46 1),[(5512,some ⟨5,false,true,(q8 [1,100,0,46,100,0,7,0,0,0,0,0,0,0,0,0,0,0,0,0,79,8,2,3,0,6,1,97,80,18,141,193,190,94,208,254,195,204,2,128,168,219,255,225,163,164])⟩)],5664⟩
theorem sk1_run : stB sk1 (cfT1 sk1.f sk1.a (hpOf sk1.D) sk1.nx) = true:=by kernel_rfl
def sk2 : Stg:=⟨21,[(.slice 6379 0 1 1),(.v (.int .i64 101)),(.v (.string ⟨#[]⟩)),(.v (.bool false)),(.buf 6386 0 6 1)],[(6379,⟨5,true,true,(q8 [115])⟩),(6386,⟨5,false,true,(q8 [2,3,0,6,1,97])⟩)],6387,(.buf 6411 0 46 1),[(6411,some ⟨5,false,true,(q8 [1,101,0,46,101,0,7,0,0,0,0,0,0,0,0,0,0,0,0,0,79,8,2,3,0,6,1,97,80,18,251,138,201,159,115,153,73,172,122,201,177,171,236,69,45,228])⟩)],6563⟩
theorem sk2_run : stB sk2 (cfT1 sk2.f sk2.a (hpOf sk2.D) sk2.nx) = true:=by kernel_rfl
def sk3 : Stg:=⟨21,[(.slice 7279 0 1 1),(.v (.int .i64 102)),(.v (.string ⟨#[]⟩)),(.v (.bool false)),(.buf 7286 0 6 1)],[(7279,⟨5,true,true,(q8 [115])⟩),(7286,⟨5,false,true,(q8 [2,3,0,6,1,97])⟩)],7287,(.buf 7311 0 46 1),[(7311,some ⟨5,false,true,(q8 [1,102,0,46,102,0,7,0,0,0,0,0,0,0,0,0,0,0,0,0,79,8,2,3,0,6,1,97,80,18,24,91,170,59,214,37,123,212,28,113,141,216,188,239,2,106])⟩)],7463⟩
theorem sk3_run : stB sk3 (cfT1 sk3.f sk3.a (hpOf sk3.D) sk3.nx) = true:=by kernel_rfl
def sk4 : Stg:=⟨21,[(.slice 8180 0 1 1),(.v (.int .i64 103)),(.v (.string ⟨#[]⟩)),(.v (.bool false)),(.buf 8187 0 6 1)],[(8180,⟨5,true,true,(q8 [115])⟩),(8187,⟨5,false,true,(q8 [2,3,0,6,1,97])⟩)],8188,(.buf 8212 0 46 1),[(8212,some ⟨5,false,true,(q8 [1,103,0,46,103,0,7,0,0,0,0,0,0,0,0,0,0,0,0,0,79,8,2,3,0,6,1,97,80,18,71,170,245,25,158,46,98,212,100,10,96,103,201,18,149,83])⟩)],8364⟩
theorem sk4_run : stB sk4 (cfT1 sk4.f sk4.a (hpOf sk4.D) sk4.nx) = true:=by kernel_rfl
def sk5 : Stg:=⟨21,[(.slice 9082 0 1 1),(.v (.int .i64 104)),(.v (.string ⟨#[]⟩)),(.v (.bool false)),(.buf 9089 0 6 1)],[(9082,⟨5,true,true,(q8 [115])⟩),(9089,⟨5,false,true,(q8 [2,3,0,6,1,97])⟩)],9090,(.buf 9114 0 46 1),[(9114,some ⟨5,false,true,(q8 [1,104,0,46,104,0,7,0,0,0,0,0,0,0,0,0,0,0,0,0,79,8,2,3,0,6,1,97,80,18,128,27,34,91,151,15,179,9,191,21,9,66,182,117,164,87])⟩)],9266⟩
theorem sk5_run : stB sk5 (cfT1 sk5.f sk5.a (hpOf sk5.D) sk5.nx) = true:=by kernel_rfl
def sk6 : Stg:=⟨21,[(.slice 9985 0 1 1),(.v (.int .i64 105)),(.v (.string ⟨#[]⟩)),(.v (.bool false)),(.buf 9992 0 6 1)],[(9985,⟨5,true,true,(q8 [115])⟩),(9992,⟨5,false,true,(q8 [2,3,0,6,1,97])⟩)],9993,(.buf 10017 0 46 1),[(10017,some ⟨5,false,true,(q8 [1,105,0,46,105,0,7,0,0,0,0,0,0,0,0,0,0,0,0,0,79,8,2,3,0,6,1,97,80,18,151,55,58,22,59,29,239,223,237,61,83,95,251,8,161,74])⟩)],10169⟩
theorem sk6_run : stB sk6 (cfT1 sk6.f sk6.a (hpOf sk6.D) sk6.nx) = true:=by kernel_rfl
def sk7 : Stg:=⟨21,[(.slice 10889 0 1 1),(.v (.int .i64 106)),(.v (.string ⟨#[]⟩)),(.v (.bool false)),(.buf 10896 0 6 1)],[(10889,⟨5,true,true,(q8 [115])⟩),(10896,⟨5,false,true,(q8 [2,3,0,6,1,97])⟩)],10897,(.buf 10921 0 46 1),[(10921,some ⟨5,false,true,(q8 [1,106,0,46,106,0,7,0,0,0,0,0,0,0,0,0,0,0,0,0,79,8,2,3,0,6,1,97,80,18,79,255,177,204,231,130,66,87,88,48,174,214,233,8,208,73])⟩)],11073⟩
theorem sk7_run : stB sk7 (cfT1 sk7.f sk7.a (hpOf sk7.D) sk7.nx) = true:=by kernel_rfl
end Go.Proofs.YtjpfhhndjpdmoaaGreatDoor

namespace Go.Proofs.YtjpfhhndjpdmoaaGreatDoor
open Go.RowKit
def sk8 : Stg:=⟨21,[(.slice 11794 0 1 1),(.v (.int .i64 107)),(.v (.string ⟨#[]⟩)),(.v (.bool false)),(.buf 11801 0 6 1)],[(11794,⟨5,true,true,(q8 [115])⟩),(11801,⟨5,false,true,(q8 [2,3,0,6,1,97])⟩)],11802,(.buf 11826 0 46 1),[(11826,some ⟨5,false,true,(q8 [1,107,0,46,107,0,7,0,0,0,0,0,0,0,0,0,0,0,0,0,79,8,2,3,0,6,1,97,80,18,111,243,33,158,140,54,23,92,224,141,190,172,25,47,195,193])⟩)],11978⟩
theorem sk8_run : stB sk8 (cfT1 sk8.f sk8.a (hpOf sk8.D) sk8.nx) = true:=by kernel_rfl
def sk9 : Stg:=⟨21,[(.slice 12700 0 1 1),(.v (.int .i64 108)),(.v (.string ⟨#[]⟩)),(.v (.bool false)),(.buf 12707 0 6 1)],[(12700,⟨5,true,true,(q8 [115])⟩),(12707,⟨5,false,true,(q8 [2,3,0,6,1,97])⟩)],12708,(.buf 12732 0 46 1),[(12732,some ⟨5,false,true,(q8 [1,108,0,46,108,0,7,0,0,0,0,0,0,0,0,0,0,0,0,0,79,8,2,3,0,6,1,97,80,18,190,102,226,137,2,240,34,9,244,245,231,219,101,166,225,239])⟩)],12884⟩
theorem sk9_run : stB sk9 (cfT1 sk9.f sk9.a (hpOf sk9.D) sk9.nx) = true:=by kernel_rfl
def sk10 : Stg:=⟨21,[(.slice 13606 0 1 1),(.v (.int .i64 109)),(.v (.string ⟨#[]⟩)),(.v (.bool false)),(.buf 13613 0 6 1)],[(13606,⟨5,true,true,(q8 [115])⟩),(13613,⟨5,false,true,(q8 [2,3,0,6,1,97])⟩)],13614,(.buf 13638 0 46 1),[(13638,some ⟨5,false,true,(q8 [1,109,0,46,109,0,7,0,0,0,0,0,0,0,0,0,0,0,0,0,79,8,2,3,0,6,1,97,80,18,227,159,35,121,165,79,91,7,200,66,56,44,132,221,61,32])⟩)],13790⟩
theorem sk10_run : stB sk10 (cfT1 sk10.f sk10.a (hpOf sk10.D) sk10.nx) = true:=by kernel_rfl
def sk11 : Stg:=⟨21,[(.slice 14512 0 1 1),(.v (.int .i64 110)),(.v (.string ⟨#[]⟩)),(.v (.bool false)),(.buf 14519 0 6 1)],[(14512,⟨5,true,true,(q8 [115])⟩),(14519,⟨5,false,true,(q8 [2,3,0,6,1,97])⟩)],14520,(.buf 14544 0 46 1),[(14544,some ⟨5,false,true,(q8 [1,110,0,46,110,0,7,0,0,0,0,0,0,0,0,0,0,0,0,0,79,8,2,3,0,6,1,97,80,18,69,37,160,215,148,60,200,195,135,94,53,11,218,188,149,183])⟩)],14696⟩
theorem sk11_run : stB sk11 (cfT1 sk11.f sk11.a (hpOf sk11.D) sk11.nx) = true:=by kernel_rfl
def sk12 : Stg:=⟨21,[(.slice 15418 0 1 1),(.v (.int .i64 111)),(.v (.string ⟨#[]⟩)),(.v (.bool false)),(.buf 15425 0 6 1)],[(15418,⟨5,true,true,(q8 [115])⟩),(15425,⟨5,false,true,(q8 [2,3,0,6,1,97])⟩)],15426,(.buf 15450 0 46 1),[(15450,some ⟨5,false,true,(q8 [1,111,0,46,111,0,7,0,0,0,0,0,0,0,0,0,0,0,0,0,79,8,2,3,0,6,1,97,80,18,233,46,234,196,50,27,250,91,55,217,67,255,88,71,220,152])⟩)],15602⟩
theorem sk12_run : stB sk12 (cfT1 sk12.f sk12.a (hpOf sk12.D) sk12.nx) = true:=by kernel_rfl
def sk13 : Stg:=⟨21,[(.slice 16324 0 1 1),(.v (.int .i64 112)),(.v (.string ⟨#[]⟩)),(.v (.bool false)),(.buf 16331 0 6 1)],[(16324,⟨5,true,true,(q8 [115])⟩),(16331,⟨5,false,true,(q8 [2,3,0,6,1,97])⟩)],16332,(.buf 16356 0 46 1),[(16356,some ⟨5,false,true,(q8 [1,112,0,46,112,0,7,0,0,0,0,0,0,0,0,0,0,0,0,0,79,8,2,3,0,6,1,97,80,18,225,108,164,211,17,163,74,186,215,234,181,233,121,106,209,177])⟩)],16508⟩
theorem sk13_run : stB sk13 (cfT1 sk13.f sk13.a (hpOf sk13.D) sk13.nx) = true:=by kernel_rfl
def sk14 : Stg:=⟨21,[(.slice 17230 0 1 1),(.v (.int .i64 113)),(.v (.string ⟨#[]⟩)),(.v (.bool false)),(.buf 17237 0 6 1)],[(17230,⟨5,true,true,(q8 [115])⟩),(17237,⟨5,false,true,(q8 [2,3,0,6,1,97])⟩)],17238,(.buf 17262 0 46 1),[(17262,some ⟨5,false,true,(q8 [1,113,0,46,113,0,7,0,0,0,0,0,0,0,0,0,0,0,0,0,79,8,2,3,0,6,1,97,80,18,115,102,23,247,144,46,209,98,56,66,88,29,23,119,107,245])⟩)],17414⟩
theorem sk14_run : stB sk14 (cfT1 sk14.f sk14.a (hpOf sk14.D) sk14.nx) = true:=by kernel_rfl
def sk15 : Stg:=⟨21,[(.slice 18136 0 1 1),(.v (.int .i64 114)),(.v (.string ⟨#[]⟩)),(.v (.bool false)),(.buf 18143 0 6 1)],[(18136,⟨5,true,true,(q8 [115])⟩),(18143,⟨5,false,true,(q8 [2,3,0,6,1,97])⟩)],18144,(.buf 18168 0 46 1),[(18168,some ⟨5,false,true,(q8 [1,114,0,46,114,0,7,0,0,0,0,0,0,0,0,0,0,0,0,0,79,8,2,3,0,6,1,97,80,18,54,59,23,100,55,114,46,160,241,123,90,51,236,64,75,217])⟩)],18320⟩
theorem sk15_run : stB sk15 (cfT1 sk15.f sk15.a (hpOf sk15.D) sk15.nx) = true:=by kernel_rfl
end Go.Proofs.YtjpfhhndjpdmoaaGreatDoor
