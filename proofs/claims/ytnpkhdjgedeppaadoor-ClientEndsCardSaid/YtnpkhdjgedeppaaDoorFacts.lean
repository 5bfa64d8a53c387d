import Derived.Test.YtnpkhdjgedeppaaDoorProg
import Derived.Test.YtnpkhdjgedeppaaDoorFc
namespace Go.Proofs.YtnpkhdjgedeppaaDoor
open Go.Am
set_option maxRecDepth 100000
def parM : FuncId → List Nat
  | 61 => [1]
  | 66 => [1]
  | 72 => [1]
  | 73 => [1]
  | 75 => [1]
  | 77 => [1]
  | _ => []
def resM : FuncId → List Nat
  | 25 => [1]
  | 36 => [1]
  | 37 => [1]
  | 38 => [1]
  | 39 => [1]
  | 41 => [1]
  | 43 => [1]
  | 44 => [1]
  | 48 => [1]
  | 54 => [1, 1]
  | 58 => [1]
  | 59 => [1]
  | 77 => [1]
  | _ => []
def locM : FuncId → Nat
  | 3 => 822752278612712535247019602866082885653318166582264561833771008
  | 4 => 2854321160839376741287475067844508287242336768
  | 5 => 18889465931474285887328
  | 6 => 383123508400083696730193447178714151623171820446809856
  | 7 => 131040
  | 8 => 133955344
  | 9 => 56
  | 10 => 16642997760
  | 11 => 128896
  | 12 => 618969982740194756415447040
  | 13 => 65464
  | 14 => 224
  | 15 => 2080512
  | 16 => 8184
  | 17 => 261040
  | 18 => 129968
  | 19 => 67107760
  | 20 => 268434352
  | 21 => 18446725929553100768
  | 22 => 2097144
  | 23 => 224
  | 24 => 65528
  | 25 => 1152890718281269232
  | 26 => 480
  | 27 => 2080512
  | 28 => 457792
  | 29 => 240
  | 30 => 562881233944320
  | 31 => 134215664
  | 32 => 4080
  | 33 => 262136
  | 34 => 457792
  | 35 => 240
  | 36 => 232
  | 37 => 232
  | 38 => 232
  | 39 => 16775392
  | 40 => 232
  | 41 => 232
  | 42 => 232
  | 43 => 232
  | 44 => 232
  | 45 => 649037107279056074959281169891072
  | 46 => 4194048
  | 47 => 240
  | 48 => 232
  | 49 => 4088
  | 50 => 2080343040
  | 51 => 2040
  | 52 => 67108848
  | 53 => 67108608
  | 54 => 324518553658426726772160903249920
  | 55 => 232
  | 56 => 224
  | 57 => 120
  | 58 => 16773120
  | 59 => 120
  | 60 => 72634050390035251200
  | 61 => 274877857792
  | 62 => 4080
  | 63 => 1784
  | 64 => 9982748476797305406488081063424
  | 65 => 2093248
  | 66 => 590295810358704599040
  | 67 => 24
  | 68 => 70093865746176
  | 69 => 201326528
  | 70 => 56
  | 71 => 480
  | 72 => 262128
  | 73 => 268435392
  | 74 => 4503569561550336
  | 75 => 39614080961984263615267404800
  | 76 => 457792
  | 77 => 8589868800
  | 78 => 68215103488
  | 79 => 1073676096
  | 80 => 2
  | 81 => 2595197691317242642214125633929216
  | 83 => 1008
  | 84 => 134152096
  | 85 => 38685626227650541404552192
  | 86 => 480
  | 87 => 16368
  | 88 => 131008
  | 89 => 268434928
  | _ => 0
def tabL0 : List Int := [1116352408, 1899447441, 3049323471, 3921009573, 961987163, 1508970993, 2453635748, 2870763221, 3624381080, 310598401, 607225278, 1426881987, 1925078388, 2162078206, 2614888103, 3248222580, 3835390401, 4022224774, 264347078, 604807628, 770255983, 1249150122, 1555081692, 1996064986, 2554220882, 2821834349, 2952996808, 3210313671, 3336571891, 3584528711, 113926993, 338241895, 666307205, 773529912, 1294757372, 1396182291, 1695183700, 1986661051, 2177026350, 2456956037, 2730485921, 2820302411, 3259730800, 3345764771, 3516065817, 3600352804, 4094571909, 275423344, 430227734, 506948616, 659060556, 883997877, 958139571, 1322822218, 1537002063, 1747873779, 1955562222, 2024104815, 2227730452, 2361852424, 2428436474, 2756734187, 3204031479, 3329325298]
def tabs : Tabs := [(0, "carcanet/digest.constants", .u32, tabL0)]
noncomputable def E : Env := ⟨Tryd.prog, gamma tabs⟩
def nlM : FuncId → List (Nat × Nat)
  | 12 => [(18, 2001)]
  | 52 => [(24, 906), (24, 1004)]
  | 61 => [(32, 906), (32, 1004)]
  | 64 => [(77, 906), (76, 0)]
  | 77 => [(13, 1), (26, 1)]
  | _ => []
def inlsM : List (FuncId × Nat) := [(62, 20000), (30, 60000), (46, 80000), (45, 100000), (32, 120000), (53, 140000), (47, 160000), (51, 180001), (52, 200000), (31, 260000)]
noncomputable def M : Mds := ⟨parM, resM, locM, nlM, [], inlsM, 0, none⟩
@[go_sem] theorem M_cur : M.cur = [] := Eq.trans rfl rfl
@[go_sem] theorem M_inls : M.inls = [(62, 20000), (30, 60000), (46, 80000), (45, 100000), (32, 120000), (53, 140000), (47, 160000), (51, 180001), (52, 200000), (31, 260000)] := Eq.trans rfl rfl
@[go_sem] theorem M_base : M.base = 0 := Eq.trans rfl rfl
@[go_sem] theorem M_gh : M.gh = none := Eq.trans rfl rfl
@[go_sem] theorem nl12 : M.nl 12 = [(18, 2001)] := Eq.trans rfl rfl
@[go_sem] theorem nl52 : M.nl 52 = [(24, 906), (24, 1004)] := Eq.trans rfl rfl
@[go_sem] theorem nl61 : M.nl 61 = [(32, 906), (32, 1004)] := Eq.trans rfl rfl
@[go_sem] theorem nl64 : M.nl 64 = [(77, 906), (76, 0)] := Eq.trans rfl rfl
@[go_sem] theorem nl77 : M.nl 77 = [(13, 1), (26, 1)] := Eq.trans rfl rfl
noncomputable def C0 : Cf := ⟨E, M, fun _ => none⟩
@[go_sem] theorem C0_E : C0.E = E := rfl
@[go_sem] theorem C0_M : C0.M = M := rfl
theorem mixed : E.P.follows .mixedOrders = true := by kernel_rfl
@[go_sem] theorem ev_g0 (f) : ev E.Γ f (.global 0) = .iptr (tabV .u32 tabL0) := rfl
theorem tq3 : Tq E 3 (some 1) (some false) (some [.int .i64 (0)]) false true false (some .i64) true false := .of (by kernel_rfl)
theorem tq4 : Tq E 4 (some 1) (some false) (some [.bool false]) false false true none true false := .of (by kernel_rfl)
theorem tq5 : Tq E 5 (some 1) (some false) (some [.int .u8 (0)]) false true false (some .u8) true false := .of (by kernel_rfl)
theorem tq9 : Tq E 9 (some 1) (some false) (some [.str []]) true false false none true false := .of (by kernel_rfl)
theorem tq22 : Tq E 22 (some 1) (some false) (some [.int .u64 (0)]) false true false (some .u64) true false := .of (by kernel_rfl)
theorem tq24 : Tq E 24 (some 6) (some true) (some [.str [], .int .u64 (0), .int .i64 (0), .int .i64 (0), .int .i64 (0), .str []]) false false false none true false := .of (by kernel_rfl)
theorem uq24 : Uq E 24 none none none false false true none := .of (by kernel_rfl)
theorem tq26 : Tq E 26 (some 2) (some true) (some [.int .i64 (0), .str []]) false false false none true false := .of (by kernel_rfl)
theorem uq26 : Uq E 26 none none none false false true none := .of (by kernel_rfl)
theorem tq27 : Tq E 27 (some 1) (some false) (some [.sc (.slice none 0 0)]) false false false none true false := .of (by kernel_rfl)
theorem uq27 : Uq E 27 (some 8) (some 80) (some [.str [], .int .u64 (0), .int .i64 (0), .int .i64 (0), .int .i64 (0), .str [], .int .i64 (0), .int .i64 (0)]) false false false none := .of (by kernel_rfl)
theorem tq28 : Tq E 28 (some 1) (some false) (some [.sc (.slice none 0 0)]) false false false none true false := .of (by kernel_rfl)
theorem uq28 : Uq E 28 (some 9) (some 88) (some [.int .i64 (0), .str [], .int .u64 (0), .int .i64 (0), .int .i64 (0), .int .i64 (0), .str [], .int .i64 (0), .int .i64 (0)]) false false false none := .of (by kernel_rfl)
theorem tq29 : Tq E 29 (some 1) (some false) (some [.sc (.slice none 0 0)]) false false false none true false := .of (by kernel_rfl)
theorem uq29 : Uq E 29 (some 20) (some 192) (some [.int .u64 (0), .int .u64 (0), .str [], .int .u64 (0), .int .i64 (0), .int .i64 (0), .int .i64 (0), .str [], .int .i64 (0), .int .i64 (0), .str [], .str [], .int .i64 (0), .int .i64 (0), .int .i64 (0), .int .i64 (0), .int .i64 (0), .int .u64 (0), .int .u64 (0), .int .i64 (0)]) false false false none := .of (by kernel_rfl)
theorem tq30 : Tq E 30 (some 1) (some false) (some [.sc (.slice none 0 0)]) false false false none true false := .of (by kernel_rfl)
theorem uq30 : Uq E 30 (some 23) (some 240) (some [.int .i64 (0), .int .i64 (0), .int .i64 (0), .int .i64 (0), .int .i64 (0), .int .u64 (0), .str [], .int .u64 (0), .int .i64 (0), .int .i64 (0), .int .i64 (0), .str [], .int .i64 (0), .int .i64 (0), .int .i64 (0), .int .i64 (0), .int .u64 (0), .bool false, .bool false, .str [], .str [], .sc (.slice none 0 0), .sc (.slice none 0 0)]) false false false none := .of (by kernel_rfl)
theorem tq31 : Tq E 31 (some 1) (some false) (some [.sc (.slice none 0 0)]) false false false none true false := .of (by kernel_rfl)
theorem uq31 : Uq E 31 (some 4) (some 48) (some [.str [], .str [], .int .i64 (0), .bool false]) false false false none := .of (by kernel_rfl)
theorem tq32 : Tq E 32 (some 1) (some false) (some [.sc (.slice none 0 0)]) false false false none true false := .of (by kernel_rfl)
theorem uq32 : Uq E 32 (some 29) (some 312) (some [.int .i64 (0), .int .i64 (0), .int .i64 (0), .int .i64 (0), .int .i64 (0), .int .i64 (0), .str [], .str [], .str [], .int .u64 (0), .int .i64 (0), .int .i64 (0), .int .i64 (0), .str [], .str [], .str [], .int .i64 (0), .bool false, .int .i64 (0), .int .i64 (0), .sc (.slice none 0 0), .str [], .int .u64 (0), .int .i64 (0), .int .i64 (0), .int .i64 (0), .str [], .int .i64 (0), .int .i64 (0)]) false false false none := .of (by kernel_rfl)
theorem tq33 : Tq E 33 (some 1) (some false) (some [.sc (.slice none 0 0)]) false false false none true false := .of (by kernel_rfl)
theorem uq33 : Uq E 33 (some 1) (some 8) (some [.int .u64 (0)]) false false false none := .of (by kernel_rfl)
theorem tq34 : Tq E 34 (some 1) (some false) (some [.sc (.slice none 0 0)]) false false false none true false := .of (by kernel_rfl)
theorem uq34 : Uq E 34 (some 8) (some 72) (some [.int .i64 (0), .int .i64 (0), .int .i64 (0), .str [], .str [], .bool false, .bool false, .int .i64 (0)]) false false false none := .of (by kernel_rfl)
theorem tq36 : Tq E 36 (some 22) (some true) (some [.str [], .int .u64 (0), .int .i64 (0), .int .i64 (0), .int .i64 (0), .str [], .int .i64 (0), .str [], .int .i64 (0), .str [], .bool false, .sc (.slice none 0 0), .sc (.slice none 0 0), .sc (.slice none 0 0), .sc (.slice none 0 0), .sc (.slice none 0 0), .sc (.slice none 0 0), .sc (.slice none 0 0), .int .i64 (0), .int .i64 (0), .sc (.slice none 0 0), .sc (.slice none 0 0)]) false false false none true false := .of (by kernel_rfl)
theorem uq36 : Uq E 36 none none none false false true none := .of (by kernel_rfl)
theorem tq40 : Tq E 40 (some 1) (some false) (some [.int .i64 (0)]) false true false (some .i64) true false := .of (by kernel_rfl)
theorem tq41 : Tq E 41 (some 1) (some false) (some [.sc (.slice none 0 0)]) false false false none true false := .of (by kernel_rfl)
theorem uq41 : Uq E 41 (some 6) (some 64) (some [.str [], .int .u64 (0), .int .i64 (0), .int .i64 (0), .int .i64 (0), .str []]) false false false none := .of (by kernel_rfl)
theorem tq43 : Tq E 43 (some 11) (some true) (some [.int .i64 (0), .int .i64 (0), .int .i64 (0), .int .i64 (0), .int .u64 (0), .bool false, .bool false, .str [], .str [], .sc (.slice none 0 0), .sc (.slice none 0 0)]) false false false none true false := .of (by kernel_rfl)
theorem uq43 : Uq E 43 none none none false false true none := .of (by kernel_rfl)
theorem tq47 : Tq E 47 (some 4) (some true) (some [.str [], .str [], .int .i64 (0), .bool false]) false false false none true false := .of (by kernel_rfl)
theorem uq47 : Uq E 47 none none none false false true none := .of (by kernel_rfl)
theorem tq50 : Tq E 50 (some 1) (some false) (some [.sc (.slice none 0 0)]) false false false none true false := .of (by kernel_rfl)
theorem uq50 : Uq E 50 (some 20) (some 216) (some [.bool false, .str [], .int .u64 (0), .int .i64 (0), .int .i64 (0), .int .i64 (0), .str [], .int .i64 (0), .int .i64 (0), .int .i64 (0), .int .i64 (0), .int .u64 (0), .bool false, .bool false, .str [], .str [], .sc (.slice none 0 0), .sc (.slice none 0 0), .int .i64 (0), .int .i64 (0)]) false false false none := .of (by kernel_rfl)
theorem tq54 : Tq E 54 (some 8) (some true) (some [.int .i64 (0), .int .i64 (0), .int .i64 (0), .str [], .str [], .bool false, .bool false, .int .i64 (0)]) false false false none true false := .of (by kernel_rfl)
theorem uq54 : Uq E 54 none none none false false true none := .of (by kernel_rfl)
theorem tq58 : Tq E 58 (some 1) (some false) (some [.sc (.slice none 0 0)]) false false false none true false := .of (by kernel_rfl)
theorem uq58 : Uq E 58 (some 1) (some 16) (some [.str []]) false false false none := .of (by kernel_rfl)
theorem tq60 : Tq E 60 (some 29) (some true) (some [.int .i64 (0), .int .i64 (0), .int .i64 (0), .int .i64 (0), .int .i64 (0), .int .i64 (0), .str [], .str [], .str [], .int .u64 (0), .int .i64 (0), .int .i64 (0), .int .i64 (0), .str [], .str [], .str [], .int .i64 (0), .bool false, .int .i64 (0), .int .i64 (0), .sc (.slice none 0 0), .str [], .int .u64 (0), .int .i64 (0), .int .i64 (0), .int .i64 (0), .str [], .int .i64 (0), .int .i64 (0)]) false false false none true false := .of (by kernel_rfl)
theorem uq60 : Uq E 60 none none none false false true none := .of (by kernel_rfl)
theorem tq69 : Tq E 69 (some 8) (some true) (some [.str [], .int .u64 (0), .int .i64 (0), .int .i64 (0), .int .i64 (0), .str [], .int .i64 (0), .int .i64 (0)]) false false false none true false := .of (by kernel_rfl)
theorem uq69 : Uq E 69 none none none false false true none := .of (by kernel_rfl)
theorem tq71 : Tq E 71 (some 9) (some true) (some [.int .i64 (0), .str [], .int .u64 (0), .int .i64 (0), .int .i64 (0), .int .i64 (0), .str [], .int .i64 (0), .int .i64 (0)]) false false false none true false := .of (by kernel_rfl)
theorem uq71 : Uq E 71 none none none false false true none := .of (by kernel_rfl)
theorem tq73 : Tq E 73 (some 1) (some false) (some [.sc .nilFunc]) false false false none true false := .of (by kernel_rfl)
theorem tq75 : Tq E 75 (some 1) (some false) (some [.sc .nilFunc]) false false false none true false := .of (by kernel_rfl)
theorem tq79 : Tq E 79 (some 1) (some false) (some [.sc (.pointer none)]) false false false none true false := .of (by kernel_rfl)
theorem uq79 : Uq E 79 none none none false true false none := .of (by kernel_rfl)
theorem tq88 : Tq E 88 (some 20) (some true) (some [.int .u64 (0), .int .u64 (0), .str [], .int .u64 (0), .int .i64 (0), .int .i64 (0), .int .i64 (0), .str [], .int .i64 (0), .int .i64 (0), .str [], .str [], .int .i64 (0), .int .i64 (0), .int .i64 (0), .int .i64 (0), .int .i64 (0), .int .u64 (0), .int .u64 (0), .int .i64 (0)]) false false false none true false := .of (by kernel_rfl)
theorem uq88 : Uq E 88 none none none false false true none := .of (by kernel_rfl)
theorem tq90 : Tq E 90 (some 23) (some true) (some [.int .i64 (0), .int .i64 (0), .int .i64 (0), .int .i64 (0), .int .i64 (0), .int .u64 (0), .str [], .int .u64 (0), .int .i64 (0), .int .i64 (0), .int .i64 (0), .str [], .int .i64 (0), .int .i64 (0), .int .i64 (0), .int .i64 (0), .int .u64 (0), .bool false, .bool false, .str [], .str [], .sc (.slice none 0 0), .sc (.slice none 0 0)]) false false false none true false := .of (by kernel_rfl)
theorem uq90 : Uq E 90 none none none false false true none := .of (by kernel_rfl)
theorem tq101 : Tq E 101 (some 1) (some false) (some [.sc (.pointer none)]) false false false none true false := .of (by kernel_rfl)
theorem uq101 : Uq E 101 none none none false true false none := .of (by kernel_rfl)
theorem tq102 : Tq E 102 (some 1) (some false) (some [.sc .nilFunc]) false false false none true false := .of (by kernel_rfl)
theorem tq104 : Tq E 104 (some 25) (some true) (some [.str [], .int .u64 (0), .int .i64 (0), .int .i64 (0), .int .i64 (0), .str [], .int .i64 (0), .str [], .int .i64 (0), .str [], .bool false, .sc (.slice none 0 0), .sc (.slice none 0 0), .sc (.slice none 0 0), .sc (.slice none 0 0), .sc (.slice none 0 0), .sc (.slice none 0 0), .sc (.slice none 0 0), .int .i64 (0), .int .i64 (0), .sc (.slice none 0 0), .sc (.slice none 0 0), .sc (.pointer none), .sc (.slice none 0 0), .sc .nilFunc]) false false false none true false := .of (by kernel_rfl)
theorem uq104 : Uq E 104 none none none false false true none := .of (by kernel_rfl)
theorem tq106 : Tq E 106 (some 20) (some true) (some [.bool false, .str [], .int .u64 (0), .int .i64 (0), .int .i64 (0), .int .i64 (0), .str [], .int .i64 (0), .int .i64 (0), .int .i64 (0), .int .i64 (0), .int .u64 (0), .bool false, .bool false, .str [], .str [], .sc (.slice none 0 0), .sc (.slice none 0 0), .int .i64 (0), .int .i64 (0)]) false false false none true false := .of (by kernel_rfl)
theorem uq106 : Uq E 106 none none none false false true none := .of (by kernel_rfl)
theorem tq117 : Tq E 117 (some 1) (some false) (some [.sc (.pointer none)]) false false false none true false := .of (by kernel_rfl)
theorem uq117 : Uq E 117 none none none false true false none := .of (by kernel_rfl)
theorem tq122 : Tq E 122 (some 23) (some true) (some [.str [], .int .u64 (0), .int .i64 (0), .int .i64 (0), .int .i64 (0), .str [], .int .i64 (0), .str [], .int .i64 (0), .str [], .bool false, .sc (.slice none 0 0), .sc (.slice none 0 0), .sc (.slice none 0 0), .sc (.slice none 0 0), .sc (.slice none 0 0), .sc (.slice none 0 0), .sc (.slice none 0 0), .int .i64 (0), .int .i64 (0), .sc (.slice none 0 0), .sc (.slice none 0 0), .sc (.slice none 0 0)]) false false false none true false := .of (by kernel_rfl)
theorem uq122 : Uq E 122 none none none false false true none := .of (by kernel_rfl)
theorem tq127 : Tq E 127 (some 1) (some false) (some [.sc (.slice none 0 0)]) false false false none true false := .of (by kernel_rfl)
theorem uq127 : Uq E 127 (some 1) (some 1) (some [.int .u8 (0)]) true false false none := .of (by kernel_rfl)
theorem tq134 : Tq E 134 (some 1) (some false) (some [.int .u64 (0)]) false true false (some .u64) true false := .of (by kernel_rfl)
theorem tq140 : Tq E 140 (some 1) (some false) (some [.int .u32 (0)]) false true false (some .u32) true false := .of (by kernel_rfl)
theorem tq141 : Tq E 141 (some 8) (some true) (some [.int .u32 (0), .int .u32 (0), .int .u32 (0), .int .u32 (0), .int .u32 (0), .int .u32 (0), .int .u32 (0), .int .u32 (0)]) false false false none true false := .of (by kernel_rfl)
theorem uq141 : Uq E 141 none none none false false true (some (8, 1, false)) := .of (by kernel_rfl)
theorem tq144 : Tq E 144 (some 64) (some true) (some [.int .u8 (0), .int .u8 (0), .int .u8 (0), .int .u8 (0), .int .u8 (0), .int .u8 (0), .int .u8 (0), .int .u8 (0), .int .u8 (0), .int .u8 (0), .int .u8 (0), .int .u8 (0), .int .u8 (0), .int .u8 (0), .int .u8 (0), .int .u8 (0), .int .u8 (0), .int .u8 (0), .int .u8 (0), .int .u8 (0), .int .u8 (0), .int .u8 (0), .int .u8 (0), .int .u8 (0), .int .u8 (0), .int .u8 (0), .int .u8 (0), .int .u8 (0), .int .u8 (0), .int .u8 (0), .int .u8 (0), .int .u8 (0), .int .u8 (0), .int .u8 (0), .int .u8 (0), .int .u8 (0), .int .u8 (0), .int .u8 (0), .int .u8 (0), .int .u8 (0), .int .u8 (0), .int .u8 (0), .int .u8 (0), .int .u8 (0), .int .u8 (0), .int .u8 (0), .int .u8 (0), .int .u8 (0), .int .u8 (0), .int .u8 (0), .int .u8 (0), .int .u8 (0), .int .u8 (0), .int .u8 (0), .int .u8 (0), .int .u8 (0), .int .u8 (0), .int .u8 (0), .int .u8 (0), .int .u8 (0), .int .u8 (0), .int .u8 (0), .int .u8 (0), .int .u8 (0)]) false false false none true false := .of (by kernel_rfl)
theorem uq144 : Uq E 144 none none none false false true (some (64, 1, false)) := .of (by kernel_rfl)
theorem tq147 : Tq E 147 (some 1) (some false) (some [.sc (.slice none 0 0)]) false false false none true false := .of (by kernel_rfl)
theorem uq147 : Uq E 147 (some 1) (some 24) (some [.sc (.slice none 0 0)]) false false false none := .of (by kernel_rfl)
theorem tq149 : Tq E 149 (some 64) (some true) (some [.int .u32 (0), .int .u32 (0), .int .u32 (0), .int .u32 (0), .int .u32 (0), .int .u32 (0), .int .u32 (0), .int .u32 (0), .int .u32 (0), .int .u32 (0), .int .u32 (0), .int .u32 (0), .int .u32 (0), .int .u32 (0), .int .u32 (0), .int .u32 (0), .int .u32 (0), .int .u32 (0), .int .u32 (0), .int .u32 (0), .int .u32 (0), .int .u32 (0), .int .u32 (0), .int .u32 (0), .int .u32 (0), .int .u32 (0), .int .u32 (0), .int .u32 (0), .int .u32 (0), .int .u32 (0), .int .u32 (0), .int .u32 (0), .int .u32 (0), .int .u32 (0), .int .u32 (0), .int .u32 (0), .int .u32 (0), .int .u32 (0), .int .u32 (0), .int .u32 (0), .int .u32 (0), .int .u32 (0), .int .u32 (0), .int .u32 (0), .int .u32 (0), .int .u32 (0), .int .u32 (0), .int .u32 (0), .int .u32 (0), .int .u32 (0), .int .u32 (0), .int .u32 (0), .int .u32 (0), .int .u32 (0), .int .u32 (0), .int .u32 (0), .int .u32 (0), .int .u32 (0), .int .u32 (0), .int .u32 (0), .int .u32 (0), .int .u32 (0), .int .u32 (0), .int .u32 (0)]) false false false none true false := .of (by kernel_rfl)
theorem uq149 : Uq E 149 none none none false false true (some (64, 1, false)) := .of (by kernel_rfl)
theorem fl24 : E.P.fldO 24 0 = some (0, 1, false) ∧ E.P.fldO 24 1 = some (1, 1, false) ∧ E.P.fldO 24 5 = some (5, 1, false) := by and_intros <;> kernel_rfl
theorem fl26 : E.P.fldO 26 1 = some (1, 1, false) := by kernel_rfl
theorem fl36 : E.P.fldO 36 0 = some (0, 6, true) ∧ E.P.fldO 36 1 = some (6, 1, false) ∧ E.P.fldO 36 2 = some (7, 1, false) ∧ E.P.fldO 36 3 = some (8, 2, true) ∧ E.P.fldO 36 4 = some (10, 1, false) ∧ E.P.fldO 36 5 = some (11, 1, false) ∧ E.P.fldO 36 6 = some (12, 1, false) ∧ E.P.fldO 36 7 = some (13, 1, false) ∧ E.P.fldO 36 8 = some (14, 1, false) ∧ E.P.fldO 36 9 = some (15, 1, false) ∧ E.P.fldO 36 10 = some (16, 1, false) ∧ E.P.fldO 36 11 = some (17, 1, false) ∧ E.P.fldO 36 13 = some (19, 1, false) ∧ E.P.fldO 36 14 = some (20, 1, false) ∧ E.P.fldO 36 15 = some (21, 1, false) := by and_intros <;> kernel_rfl
theorem fl43 : E.P.fldO 43 7 = some (7, 1, false) ∧ E.P.fldO 43 8 = some (8, 1, false) ∧ E.P.fldO 43 9 = some (9, 1, false) ∧ E.P.fldO 43 10 = some (10, 1, false) := by and_intros <;> kernel_rfl
theorem fl47 : E.P.fldO 47 0 = some (0, 1, false) ∧ E.P.fldO 47 1 = some (1, 1, false) ∧ E.P.fldO 47 2 = some (2, 1, false) ∧ E.P.fldO 47 3 = some (3, 1, false) := by and_intros <;> kernel_rfl
theorem fl54 : E.P.fldO 54 0 = some (0, 1, false) ∧ E.P.fldO 54 1 = some (1, 1, false) ∧ E.P.fldO 54 2 = some (2, 1, false) ∧ E.P.fldO 54 3 = some (3, 1, false) ∧ E.P.fldO 54 4 = some (4, 1, false) ∧ E.P.fldO 54 5 = some (5, 1, false) ∧ E.P.fldO 54 6 = some (6, 1, false) ∧ E.P.fldO 54 7 = some (7, 1, false) := by and_intros <;> kernel_rfl
theorem fl60 : E.P.fldO 60 0 = some (0, 1, false) ∧ E.P.fldO 60 1 = some (1, 1, false) ∧ E.P.fldO 60 2 = some (2, 1, false) ∧ E.P.fldO 60 4 = some (4, 1, false) ∧ E.P.fldO 60 6 = some (6, 1, false) ∧ E.P.fldO 60 7 = some (7, 1, false) ∧ E.P.fldO 60 8 = some (8, 6, true) ∧ E.P.fldO 60 9 = some (14, 4, true) ∧ E.P.fldO 60 10 = some (18, 1, false) ∧ E.P.fldO 60 11 = some (19, 1, false) ∧ E.P.fldO 60 12 = some (20, 1, false) ∧ E.P.fldO 60 13 = some (21, 6, true) ∧ E.P.fldO 60 14 = some (27, 1, false) ∧ E.P.fldO 60 15 = some (28, 1, false) := by and_intros <;> kernel_rfl
theorem fl69 : E.P.fldO 69 0 = some (0, 6, true) := by kernel_rfl
theorem fl71 : E.P.fldO 71 1 = some (1, 8, true) := by kernel_rfl
theorem fl88 : E.P.fldO 88 2 = some (2, 6, true) ∧ E.P.fldO 88 5 = some (10, 1, false) ∧ E.P.fldO 88 6 = some (11, 1, false) := by and_intros <;> kernel_rfl
theorem fl90 : E.P.fldO 90 6 = some (6, 6, true) ∧ E.P.fldO 90 7 = some (12, 11, true) := by and_intros <;> kernel_rfl
theorem fl104 : E.P.fldO 104 0 = some (0, 22, true) ∧ E.P.fldO 104 1 = some (22, 1, false) ∧ E.P.fldO 104 2 = some (23, 1, false) ∧ E.P.fldO 104 3 = some (24, 1, false) := by and_intros <;> kernel_rfl
theorem fl122 : E.P.fldO 122 0 = some (0, 22, true) ∧ E.P.fldO 122 1 = some (22, 1, false) := by and_intros <;> kernel_rfl
theorem pl36 : E.P.places 36 4 = some (10, 1) := by kernel_rfl
theorem pl43 : E.P.places 43 0 = some (0, 1) ∧ E.P.places 43 1 = some (1, 1) ∧ E.P.places 43 2 = some (2, 1) ∧ E.P.places 43 3 = some (3, 1) ∧ E.P.places 43 4 = some (4, 1) ∧ E.P.places 43 10 = some (10, 1) := by and_intros <;> kernel_rfl
theorem pl47 : E.P.places 47 0 = some (0, 1) ∧ E.P.places 47 1 = some (1, 1) ∧ E.P.places 47 2 = some (2, 1) ∧ E.P.places 47 3 = some (3, 1) := by and_intros <;> kernel_rfl
theorem pl54 : E.P.places 54 0 = some (0, 1) ∧ E.P.places 54 1 = some (1, 1) ∧ E.P.places 54 2 = some (2, 1) ∧ E.P.places 54 3 = some (3, 1) ∧ E.P.places 54 4 = some (4, 1) ∧ E.P.places 54 5 = some (5, 1) ∧ E.P.places 54 6 = some (6, 1) ∧ E.P.places 54 7 = some (7, 1) := by and_intros <;> kernel_rfl
theorem pl60 : E.P.places 60 0 = some (0, 1) ∧ E.P.places 60 1 = some (1, 1) ∧ E.P.places 60 5 = some (5, 1) ∧ E.P.places 60 6 = some (6, 1) ∧ E.P.places 60 9 = some (14, 4) ∧ E.P.places 60 13 = some (21, 6) ∧ E.P.places 60 14 = some (27, 1) ∧ E.P.places 60 15 = some (28, 1) := by and_intros <;> kernel_rfl
theorem pl104 : E.P.places 104 0 = some (0, 22) := by kernel_rfl
theorem pl106 : E.P.places 106 0 = some (0, 1) ∧ E.P.places 106 1 = some (1, 6) ∧ E.P.places 106 2 = some (7, 11) ∧ E.P.places 106 3 = some (18, 1) ∧ E.P.places 106 4 = some (19, 1) := by and_intros <;> kernel_rfl
theorem pl122 : E.P.places 122 0 = some (0, 22) := by kernel_rfl
theorem pl141 : E.P.places 141 0 = some (0, 1) ∧ E.P.places 141 1 = some (1, 1) ∧ E.P.places 141 2 = some (2, 1) ∧ E.P.places 141 3 = some (3, 1) ∧ E.P.places 141 4 = some (4, 1) ∧ E.P.places 141 5 = some (5, 1) ∧ E.P.places 141 6 = some (6, 1) ∧ E.P.places 141 7 = some (7, 1) := by and_intros <;> kernel_rfl
theorem fq3 : Fq E M 3 822752278612712535247019602866082885653318166582264561833771008 [] [] [[0, 0, 0, 0, 0, 0, 0, 0, 0, 0, 0, 9, 9, 10, 21, 24, 5, 30, 0, 0, 2, 9], [0], [0]] [[0]] := .of (by kernel_rfl)
theorem fq4 : Fq E M 4 2854321160839376741287475067844508287242336768 [] [] [[0, 0, 0, 0, 0, 0, 0, 0, 0, 0, 0, 9, 9, 10, 21, 24, 5, 30, 0, 0, 2, 9], [0]] [[0]] := .of (by kernel_rfl)
theorem fq5 : Fq E M 5 18889465931474285887328 [] [] [] [[0]] := .of (by kernel_rfl)
theorem fq6 : Fq E M 6 383123508400083696730193447178714151623171820446809856 [] [] [[0, 0, 0, 0, 0, 0, 0, 0, 0, 0, 0, 9, 9, 10, 21, 24, 5, 30, 0, 0, 2, 9]] [[0]] := .of (by kernel_rfl)
theorem fq7 : Fq E M 7 131040 [] [] [[0, 0, 0, 0, 0, 0, 0, 0, 0, 0, 0, 9, 9, 10, 21, 24, 5, 30, 0, 0, 2, 9], [0, 0, 0, 0, 0, 0, 0, 0, 0, 7, 5]] [[0]] := .of (by kernel_rfl)
theorem fq8 : Fq E M 8 133955344 [] [] [[0]] [[0]] := .of (by kernel_rfl)
theorem fq9 : Fq E M 9 56 [] [] [[0]] [[0]] := .of (by kernel_rfl)
theorem fq10 : Fq E M 10 16642997760 [] [] [[5]] [[0]] := .of (by kernel_rfl)
theorem fq11 : Fq E M 11 128896 [] [] [[5], [0]] [[0, 0, 0, 0], [0]] := .of (by kernel_rfl)
theorem fq12 : Fq E M 12 618969982740194756415447040 [] [] [[0, 0, 0, 0, 0, 0, 0, 0, 0, 0, 0, 9, 9, 10, 21, 24, 5, 30, 0, 0, 2, 9], [0], [0], [0]] [[0, 0, 0, 0, 0, 0, 0, 0, 0, 0, 0, 9, 9, 10, 21, 24, 5, 30, 0, 0, 2, 9], [21], [0]] := .of (by kernel_rfl)
theorem fq13 : Fq E M 13 65464 [] [] [[0, 0, 0, 0, 0, 0, 0, 0, 0, 0, 0, 9, 9, 10, 21, 24, 5, 30, 0, 0, 2, 9]] [[0, 0, 0, 0, 0, 0, 0, 0]] := .of (by kernel_rfl)
theorem fq14 : Fq E M 14 224 [] [] [[30], [0]] [[0]] := .of (by kernel_rfl)
theorem fq15 : Fq E M 15 2080512 [] [] [[0, 0, 0, 0, 0, 0, 0, 0, 0, 0, 0, 9, 9, 10, 21, 24, 5, 30, 0, 0, 2, 9], [0]] [[0, 0, 0, 0, 0, 0, 0, 0, 0, 0, 0, 9, 9, 10, 21, 24, 5, 30, 0, 0, 2, 9], [21]] := .of (by kernel_rfl)
theorem fq16 : Fq E M 16 8184 [] [] [[0, 0, 0, 0, 0, 0]] [[0]] := .of (by kernel_rfl)
theorem fq17 : Fq E M 17 261040 [] [] [[9]] [[0]] := .of (by kernel_rfl)
theorem fq18 : Fq E M 18 129968 [] [] [[21]] [[0]] := .of (by kernel_rfl)
theorem fq19 : Fq E M 19 67107760 [] [] [[24]] [[0]] := .of (by kernel_rfl)
theorem fq20 : Fq E M 20 268434352 [] [] [[5]] [[0]] := .of (by kernel_rfl)
theorem fq21 : Fq E M 21 18446725929553100768 [] [] [[0, 0, 0, 0, 0, 0, 0, 0, 0, 7, 5]] [[0]] := .of (by kernel_rfl)
theorem fq22 : Fq E M 22 2097144 [] [] [[0, 0, 0, 0]] [[0]] := .of (by kernel_rfl)
theorem fq23 : Fq E M 23 224 [] [] [[5], [0]] [[0]] := .of (by kernel_rfl)
theorem fq24 : Fq E M 24 65528 [] [] [[0, 0, 0, 0, 0, 0, 0, 0, 0, 0, 0, 0, 0, 0, 0, 0, 0, 0, 0, 0, 2, 0, 0, 0, 0, 0, 0, 0, 0]] [[0]] := .of (by kernel_rfl)
theorem fq25 : Fq E M 25 1152890718281269232 [] [1] [[0, 0, 0, 0, 0, 0, 0, 0, 0, 0, 0, 9, 9, 10, 21, 24, 5, 30, 0, 0, 2, 9]] [[0, 0, 0, 0, 0, 0, 0, 0, 0, 0, 0, 9, 9, 10, 21, 24, 5, 30, 0, 0, 2, 9]] := .of (by kernel_rfl)
theorem fq26 : Fq E M 26 480 [] [] [[30], [0]] [[0]] := .of (by kernel_rfl)
theorem fq27 : Fq E M 27 2080512 [] [] [[0, 0, 0, 0, 0, 0, 0, 0, 0, 0, 0, 9, 9, 10, 21, 24, 5, 30, 0, 0, 2, 9], [0]] [[0, 0, 0, 0, 0, 0, 0, 0, 0, 0, 0, 9, 9, 10, 21, 24, 5, 30, 0, 0, 2, 9], [21]] := .of (by kernel_rfl)
theorem fq28 : Fq E M 28 457792 [] [] [[30], [0]] [[0]] := .of (by kernel_rfl)
theorem fq29 : Fq E M 29 240 [] [] [[0, 0, 0, 0, 0, 0, 0, 0, 0, 0, 0, 0, 0, 0, 0, 0, 0, 0, 0, 0, 2, 0, 0, 0, 0, 0, 0, 0, 0]] [[0]] := .of (by kernel_rfl)
theorem fq30 : Fq E M 30 562881233944320 [] [] [[0, 0, 0, 0, 0, 0, 0, 0, 0, 0, 0, 9, 9, 10, 21, 24, 5, 30, 0, 0, 2, 9], [0]] [[0], [0]] := .of (by kernel_rfl)
theorem fq31 : Fq E M 31 134215664 [] [] [[0], [0]] [] := .of (by kernel_rfl)
theorem fq32 : Fq E M 32 4080 [] [] [[0]] [[0, 0, 0, 0, 0, 0, 0, 0, 0, 0, 0, 9, 9, 10, 21, 24, 5, 30, 0, 0, 2, 9], [21]] := .of (by kernel_rfl)
theorem fq33 : Fq E M 33 262136 [] [] [[0, 0, 0, 0, 0, 0, 0, 0, 0, 0, 0, 0, 0, 0, 0, 0, 0, 0, 0, 0]] [[0]] := .of (by kernel_rfl)
theorem fq34 : Fq E M 34 457792 [] [] [[5], [0]] [[0]] := .of (by kernel_rfl)
theorem fq35 : Fq E M 35 240 [] [] [[0, 0, 0, 0]] [[0]] := .of (by kernel_rfl)
theorem fq36 : Fq E M 36 232 [] [1] [[9]] [[9]] := .of (by kernel_rfl)
theorem fq37 : Fq E M 37 232 [] [1] [[10]] [[10]] := .of (by kernel_rfl)
theorem fq38 : Fq E M 38 232 [] [1] [[21]] [[21]] := .of (by kernel_rfl)
theorem fq39 : Fq E M 39 16775392 [] [1] [[24]] [[24]] := .of (by kernel_rfl)
theorem fq40 : Fq E M 40 232 [] [] [[5]] [[5]] := .of (by kernel_rfl)
theorem fq41 : Fq E M 41 232 [] [1] [[30]] [[30]] := .of (by kernel_rfl)
theorem fq42 : Fq E M 42 232 [] [] [[2]] [[2]] := .of (by kernel_rfl)
theorem fq43 : Fq E M 43 232 [] [1] [[9]] [[9]] := .of (by kernel_rfl)
theorem fq44 : Fq E M 44 232 [] [1] [[2]] [[2]] := .of (by kernel_rfl)
theorem fq45 : Fq E M 45 649037107279056074959281169891072 [] [] [[0]] [] := .of (by kernel_rfl)
theorem fq46 : Fq E M 46 4194048 [] [] [[0, 0, 0, 0, 0, 0], [0, 0, 0, 0, 0, 0, 0, 0, 0, 7, 5], [0]] [] := .of (by kernel_rfl)
theorem fq47 : Fq E M 47 240 [] [] [[0], [0]] [] := .of (by kernel_rfl)
theorem fq48 : Fq E M 48 232 [] [1] [[24]] [[24]] := .of (by kernel_rfl)
theorem fq49 : Fq E M 49 4088 [] [] [[0, 0, 0, 0, 0, 0, 0, 0, 0, 7, 5]] [[0, 0, 0, 0, 0, 0, 0, 0, 0, 7, 5]] := .of (by kernel_rfl)
theorem fq50 : Fq E M 50 2080343040 [] [] [[0, 0, 0, 0, 0, 0], [9], [0]] [[0, 0, 0, 0, 0, 0]] := .of (by kernel_rfl)
theorem fq51 : Fq E M 51 2040 [] [] [[0]] [[0]] := .of (by kernel_rfl)
theorem fq52 : Fq E M 52 67108848 [] [] [[0], [0, 0, 0, 0, 0, 0]] [] := .of (by kernel_rfl)
theorem fq53 : Fq E M 53 67108608 [] [] [[0], [0, 0, 0, 0], [0], [0]] [] := .of (by kernel_rfl)
theorem fq54 : Fq E M 54 324518553658426726772160903249920 [] [1, 1] [[0, 0, 0, 0, 0, 0, 0, 0, 0, 0, 0, 9, 9, 10, 21, 24, 5, 30, 0, 0, 2, 9], [0], [0], [0], [0, 0, 0, 0, 0, 0], [0], [0]] [[0, 0, 0, 0, 0, 0, 0, 0, 0, 0, 0, 9, 9, 10, 21, 24, 5, 30, 0, 0, 2, 9], [21]] := .of (by kernel_rfl)
theorem fq55 : Fq E M 55 232 [] [] [[7]] [[7]] := .of (by kernel_rfl)
theorem fq56 : Fq E M 56 224 [] [] [[0], [0]] [[0]] := .of (by kernel_rfl)
theorem fq57 : Fq E M 57 120 [] [] [[0]] [[0]] := .of (by kernel_rfl)
theorem fq58 : Fq E M 58 16773120 [] [1] [[0, 0, 0, 0, 0, 0, 0, 0, 0, 0, 0, 9, 9, 10, 21, 24, 5, 30, 0, 0, 2, 9], [0], [0, 0, 0, 0], [0], [0]] [[0, 0, 0, 0, 0, 0, 0, 0, 0, 0, 0, 9, 9, 10, 21, 24, 5, 30, 0, 0, 2, 9]] := .of (by kernel_rfl)
theorem fq59 : Fq E M 59 120 [] [1] [[0, 0, 0, 0, 0, 0, 0, 0, 0, 0, 0, 9, 9, 10, 21, 24, 5, 30, 0, 0, 2, 9]] [[0]] := .of (by kernel_rfl)
theorem fq60 : Fq E M 60 72634050390035251200 [] [] [[5], [0], [0], [0]] [[5], [0, 0, 0, 0], [0]] := .of (by kernel_rfl)
theorem fq61 : Fq E M 61 274877857792 [1] [] [[0], [0, 0, 0, 0, 0, 0], [0], [0], [0, 0, 0, 0], [0], [0]] [] := .of (by kernel_rfl)
theorem fq62 : Fq E M 62 4080 [] [] [[0]] [[0, 0, 0, 0, 0, 0, 0, 0, 0, 0, 0, 9, 9, 10, 21, 24, 5, 30, 0, 0, 2, 9], [21]] := .of (by kernel_rfl)
theorem fq63 : Fq E M 63 1784 [] [] [[0]] [[0]] := .of (by kernel_rfl)
theorem fq64 : Fq E M 64 9982748476797305406488081063424 [] [] [[0], [0]] [] := .of (by kernel_rfl)
theorem fq65 : Fq E M 65 2093248 [] [] [[2]] [[0]] := .of (by kernel_rfl)
theorem fq66 : Fq E M 66 590295810358704599040 [1] [] [[0], [0], [0, 0, 0, 0], [0], [0]] [] := .of (by kernel_rfl)
theorem fq67 : Fq E M 67 24 [] [] [[5]] [[5]] := .of (by kernel_rfl)
theorem fq68 : Fq E M 68 70093865746176 [] [] [[5], [0, 0, 0, 0]] [[5]] := .of (by kernel_rfl)
theorem fq69 : Fq E M 69 201326528 [] [] [[0], [0]] [[0]] := .of (by kernel_rfl)
theorem fq70 : Fq E M 70 56 [] [] [[0]] [[0]] := .of (by kernel_rfl)
theorem fq71 : Fq E M 71 480 [] [] [[2], [0]] [[0]] := .of (by kernel_rfl)
theorem fq72 : Fq E M 72 262128 [1] [] [[0], [0, 0, 0, 0, 0, 0, 0, 0, 0, 0, 0, 0, 0, 0, 0, 0, 0, 0, 0, 0, 2, 0, 0, 0, 0, 0, 0, 0, 0]] [] := .of (by kernel_rfl)
theorem fq73 : Fq E M 73 268435392 [1] [] [[0], [0]] [[0, 0, 0, 0, 0, 0, 0, 0, 0, 0, 0, 0, 0, 0, 0, 0, 0, 0, 0, 0, 2, 0, 0, 0, 0, 0, 0, 0, 0]] := .of (by kernel_rfl)
theorem fq74 : Fq E M 74 4503569561550336 [] [] [[2]] [[2]] := .of (by kernel_rfl)
theorem fq75 : Fq E M 75 39614080961984263615267404800 [1] [] [[5], [0], [5]] [[5]] := .of (by kernel_rfl)
theorem fq76 : Fq E M 76 457792 [] [] [[2], [0]] [[0]] := .of (by kernel_rfl)
theorem fq77 : Fq E M 77 8589868800 [1] [1] [[30], [0], [0]] [[30]] := .of (by kernel_rfl)
theorem fq78 : Fq E M 78 68215103488 [] [] [[2]] [[2]] := .of (by kernel_rfl)
theorem fq79 : Fq E M 79 1073676096 [] [] [[0]] [[2]] := .of (by kernel_rfl)
theorem fq80 : Fq E M 80 2 [] [] [] [[0, 0, 0, 0, 0, 0, 0, 0]] := .of (by kernel_rfl)
theorem fq81 : Fq E M 81 2595197691317242642214125633929216 [] [] [[0, 0, 0, 0, 0, 0, 0, 0], [0, 0, 0, 0, 0, 0, 0, 0, 0, 0, 0, 0, 0, 0, 0, 0, 0, 0, 0, 0, 0, 0, 0, 0, 0, 0, 0, 0, 0, 0, 0, 0, 0, 0, 0, 0, 0, 0, 0, 0, 0, 0, 0, 0, 0, 0, 0, 0, 0, 0, 0, 0, 0, 0, 0, 0, 0, 0, 0, 0, 0, 0, 0, 0]] [[0, 0, 0, 0, 0, 0, 0, 0]] := .of (by kernel_rfl)
theorem fq83 : Fq E M 83 1008 [] [] [[5], [0]] [] := .of (by kernel_rfl)
theorem fq84 : Fq E M 84 134152096 [] [] [[2], [0]] [[2]] := .of (by kernel_rfl)
theorem fq85 : Fq E M 85 38685626227650541404552192 [] [] [[0, 0, 0, 0, 0, 0, 0, 0, 0, 0, 0, 0, 0, 0, 0, 0, 0, 0, 0, 0, 0, 0, 0, 0, 0, 0, 0, 0, 0, 0, 0, 0, 0, 0, 0, 0, 0, 0, 0, 0, 0, 0, 0, 0, 0, 0, 0, 0, 0, 0, 0, 0, 0, 0, 0, 0, 0, 0, 0, 0, 0, 0, 0, 0]] [[0, 0, 0, 0, 0, 0, 0, 0, 0, 0, 0, 0, 0, 0, 0, 0, 0, 0, 0, 0, 0, 0, 0, 0, 0, 0, 0, 0, 0, 0, 0, 0, 0, 0, 0, 0, 0, 0, 0, 0, 0, 0, 0, 0, 0, 0, 0, 0, 0, 0, 0, 0, 0, 0, 0, 0, 0, 0, 0, 0, 0, 0, 0, 0]] := .of (by kernel_rfl)
theorem fq86 : Fq E M 86 480 [] [] [[0], [0]] [[0]] := .of (by kernel_rfl)
theorem fq87 : Fq E M 87 16368 [] [] [[5], [0]] [] := .of (by kernel_rfl)
theorem fq88 : Fq E M 88 131008 [] [] [[0], [0]] [[0]] := .of (by kernel_rfl)
theorem fq89 : Fq E M 89 268434928 [] [] [[5]] [] := .of (by kernel_rfl)
attribute [go_sem] tq3 tq4 tq5 tq9 tq22 tq24 uq24 tq26 uq26 tq27 uq27 tq28 uq28 tq29 uq29 tq30 uq30 tq31 uq31 tq32 uq32 tq33 uq33 tq34 uq34 tq36 uq36 tq40 tq41 uq41 tq43 uq43 tq47 uq47 tq50 uq50 tq54 uq54 tq58 uq58 tq60 uq60 tq69 uq69 tq71 uq71 tq73 tq75 tq79 uq79 tq88 uq88 tq90 uq90 tq101 uq101 tq102 tq104 uq104 tq106 uq106 tq117 uq117 tq122 uq122 tq127 uq127 tq134 tq140 tq141 uq141 tq144 uq144 tq147 uq147 tq149 uq149 fl24 fl26 fl36 fl43 fl47 fl54 fl60 fl69 fl71 fl88 fl90 fl104 fl122 pl36 pl43 pl47 pl54 pl60 pl104 pl106 pl122 pl141 fq3 fq4 fq5 fq6 fq7 fq8 fq9 fq10 fq11 fq12 fq13 fq14 fq15 fq16 fq17 fq18 fq19 fq20 fq21 fq22 fq23 fq24 fq25 fq26 fq27 fq28 fq29 fq30 fq31 fq32 fq33 fq34 fq35 fq36 fq37 fq38 fq39 fq40 fq41 fq42 fq43 fq44 fq45 fq46 fq47 fq48 fq49 fq50 fq51 fq52 fq53 fq54 fq55 fq56 fq57 fq58 fq59 fq60 fq61 fq62 fq63 fq64 fq65 fq66 fq67 fq68 fq69 fq70 fq71 fq72 fq73 fq74 fq75 fq76 fq77 fq78 fq79 fq80 fq81 fq83 fq84 fq85 fq86 fq87 fq88 fq89
end Go.Proofs.YtnpkhdjgedeppaaDoor
