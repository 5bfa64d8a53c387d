import Derived.Test.YtgbmhicpkbmeaaaDoorProg
import Derived.Test.YtgbmhicpkbmeaaaDoorFc
namespace Go.Proofs.YtgbmhicpkbmeaaaDoor
open Go.Am
set_option maxRecDepth 100000
def parM : FuncId → List Nat
  | 80 => [2]
  | _ => []
def resM : FuncId → List Nat
  | 49 => [1]
  | 67 => [1]
  | 80 => [1]
  | _ => []
def locM : FuncId → Nat
  | 3 => 32760
  | 4 => 72057589742960512
  | 5 => 8796093022120
  | 6 => 8388576
  | 7 => 1152921504468631296
  | 8 => 309484862247388081001856640
  | 9 => 383123508400083696730193447178714151623171820446809856
  | 10 => 33536960
  | 11 => 144114080511163648
  | 12 => 4171340420538929061768787066287716575001753371798475634267108147769045672896129248312476762112
  | 13 => 2097148
  | 14 => 8184
  | 15 => 524280
  | 16 => 33554424
  | 17 => 67108856
  | 18 => 71916852246216688
  | 19 => 65528
  | 20 => 33554416
  | 21 => 50301888
  | 22 => 8587837376
  | 23 => 1658655738275038494673370141118986213918072740584526836090904903680
  | 24 => 536870908
  | 25 => 8384512
  | 26 => 7863168
  | 27 => 523264
  | 28 => 18740739021925047598528
  | 29 => 17871444681637824
  | 30 => 1162108839048438079456
  | 31 => 272678883686400
  | 32 => 16642997760
  | 33 => 261040
  | 34 => 129968
  | 35 => 67107760
  | 36 => 268434352
  | 37 => 24
  | 38 => 24
  | 39 => 9221116113369106432
  | 40 => 216
  | 41 => 20245271384764230482814457221120
  | 42 => 24
  | 43 => 2199023222624
  | 44 => 4194112
  | 45 => 262048
  | 46 => 64768
  | 47 => 5448
  | 48 => 4063224
  | 49 => 2475880077417697276893986816
  | 50 => 18444492209467097088
  | 52 => 1572288
  | 53 => 785856
  | 54 => 33028992
  | 55 => 34351341296
  | 56 => 24
  | 57 => 37640580711207508330496
  | 58 => 68702682872
  | 59 => 224
  | 60 => 17171480064
  | 61 => 2097144
  | 62 => 262136
  | 63 => 18446725929553100768
  | 64 => 16352
  | 65 => 4193280
  | 66 => 4063224
  | 67 => 68215103488
  | 68 => 224
  | 69 => 128896
  | 70 => 24
  | 71 => 31457136
  | 72 => 524224
  | 73 => 16376
  | 74 => 457792
  | 75 => 496
  | 76 => 224
  | 77 => 133955344
  | 78 => 56
  | 79 => 131040
  | 80 => 134152096
  | 81 => 457792
  | 82 => 240
  | 83 => 24
  | 84 => 524220
  | 85 => 1073741792
  | 86 => 18014381321090304
  | 89 => 32744
  | 90 => 32752
  | 91 => 184149205606795480238948490449146349755637850570752
  | 92 => 5050176389969560855884357697536
  | 93 => 56
  | 94 => 33537768
  | 96 => 248
  | 97 => 248
  | 98 => 16360
  | 99 => 16360
  | _ => 0
def tabL2 : List Int := [0, 1, 28, 2, 29, 14, 24, 3, 30, 22, 20, 15, 25, 17, 4, 8, 31, 27, 13, 23, 21, 19, 16, 7, 26, 12, 18, 6, 11, 5, 10, 9]
def tabL3 : List Int := [0, 1, 56, 2, 57, 49, 28, 3, 61, 58, 42, 50, 38, 29, 17, 4, 62, 47, 59, 36, 45, 43, 51, 22, 53, 39, 33, 30, 24, 18, 12, 5, 63, 55, 48, 27, 60, 41, 37, 16, 46, 35, 44, 21, 52, 32, 23, 11, 54, 26, 40, 15, 34, 20, 31, 10, 25, 14, 19, 9, 13, 8, 7, 6]
def tabL1 : List Int := [1, 10, 100, 1000, 10000, 100000, 1000000, 10000000, 100000000, 1000000000, 10000000000, 100000000000, 1000000000000, 10000000000000, 100000000000000, 1000000000000000, 10000000000000000, 100000000000000000, 1000000000000000000, 10000000000000000000]
def tabs : Tabs := [(2, "math/bits.deBruijn32tab", .u8, tabL2), (3, "math/bits.deBruijn64tab", .u8, tabL3), (1, "internal/strconv.uint64pow10", .u64, tabL1)]
noncomputable def E : Env := ⟨Tryd.prog, gamma tabs⟩
def nlM : FuncId → List (Nat × Nat)
  | 7 => [(5, 4)]
  | 23 => [(5, 4)]
  | 27 => [(3, 4)]
  | 28 => [(3, 4)]
  | 39 => [(3, 1)]
  | 41 => [(3, 1)]
  | 49 => [(5, 4), (6, 4), (7, 4)]
  | 50 => [(5, 4)]
  | _ => []
noncomputable def M : Mds := ⟨parM, resM, locM, nlM, []⟩
@[go_sem] theorem M_cur : M.cur = [] := Eq.trans rfl rfl
@[go_sem] theorem nl7 : M.nl 7 = [(5, 4)] := Eq.trans rfl rfl
@[go_sem] theorem nl23 : M.nl 23 = [(5, 4)] := Eq.trans rfl rfl
@[go_sem] theorem nl27 : M.nl 27 = [(3, 4)] := Eq.trans rfl rfl
@[go_sem] theorem nl28 : M.nl 28 = [(3, 4)] := Eq.trans rfl rfl
@[go_sem] theorem nl39 : M.nl 39 = [(3, 1)] := Eq.trans rfl rfl
@[go_sem] theorem nl41 : M.nl 41 = [(3, 1)] := Eq.trans rfl rfl
@[go_sem] theorem nl49 : M.nl 49 = [(5, 4), (6, 4), (7, 4)] := Eq.trans rfl rfl
@[go_sem] theorem nl50 : M.nl 50 = [(5, 4)] := Eq.trans rfl rfl
noncomputable def C0 : Cf := ⟨E, M, fun _ => none⟩
@[go_sem] theorem C0_E : C0.E = E := rfl
@[go_sem] theorem C0_M : C0.M = M := rfl
theorem mixed : E.P.follows .mixedOrders = true := by kernel_rfl
@[go_sem] theorem ev_g2 (f) : ev E.Γ f (.global 2) = .iptr (tabV .u8 tabL2) := rfl
@[go_sem] theorem ev_g3 (f) : ev E.Γ f (.global 3) = .iptr (tabV .u8 tabL3) := rfl
@[go_sem] theorem ev_g1 (f) : ev E.Γ f (.global 1) = .iptr (tabV .u64 tabL1) := rfl
theorem tq2 : Tq E 2 (some 1) (some false) (some [.int .i64 (0)]) false true false (some .i64) true false := .of (by kernel_rfl)
theorem tq3 : Tq E 3 (some 1) (some false) (some [.int .i64 (0)]) false true false (some .i64) true false := .of (by kernel_rfl)
theorem tq4 : Tq E 4 (some 1) (some false) (some [.bool false]) false false true none true false := .of (by kernel_rfl)
theorem tq5 : Tq E 5 (some 1) (some false) (some [.int .u8 (0)]) false true false (some .u8) true false := .of (by kernel_rfl)
theorem tq9 : Tq E 9 (some 1) (some false) (some [.str []]) true false false none true false := .of (by kernel_rfl)
theorem tq22 : Tq E 22 (some 1) (some false) (some [.int .u64 (0)]) false true false (some .u64) true false := .of (by kernel_rfl)
theorem tq24 : Tq E 24 (some 6) (some true) (some [.str [], .int .u64 (0), .int .i64 (0), .int .i64 (0), .int .i64 (0), .str []]) false false false none true false := .of (by kernel_rfl)
theorem uq24 : Uq E 24 none none none false false true none := .of (by kernel_rfl)
theorem tq26 : Tq E 26 (some 2) (some true) (some [.int .i64 (0), .str []]) false false false none true false := .of (by kernel_rfl)
theorem uq26 : Uq E 26 none none none false false true none := .of (by kernel_rfl)
theorem tq27 : Tq E 27 (some 1) (some false) (some [.sc (.slice none 0 0)]) false false false none true false := .of (by kernel_rfl)
theorem uq27 : Uq E 27 (some 8) (some 80) (some [.str [], .int .u64 (0), .int .i64 (0), .int .i64 (0), .int .i64 (0), .str [], .int .i64 (0), .int .i64 (0)]) false false false none := .of (by kernel_rfl)
theorem tq28 : Tq E 28 (some 1) (some false) (some [.sc (.slice none 0 0)]) false false false none true false := .of (by kernel_rfl)
theorem uq28 : Uq E 28 (some 9) (some 88) (some [.int .i64 (0), .str [], .int .u64 (0), .int .i64 (0), .int .i64 (0), .int .i64 (0), .str [], .int .i64 (0), .int .i64 (0)]) false false false none := .of (by kernel_rfl)
theorem tq29 : Tq E 29 (some 1) (some false) (some [.sc (.slice none 0 0)]) false false false none true false := .of (by kernel_rfl)
theorem uq29 : Uq E 29 (some 20) (some 192) (some [.int .u64 (0), .int .u64 (0), .str [], .int .u64 (0), .int .i64 (0), .int .i64 (0), .int .i64 (0), .str [], .int .i64 (0), .int .i64 (0), .str [], .str [], .int .i64 (0), .int .i64 (0), .int .i64 (0), .int .i64 (0), .int .i64 (0), .int .u64 (0), .int .u64 (0), .int .i64 (0)]) false false false none := .of (by kernel_rfl)
theorem tq30 : Tq E 30 (some 1) (some false) (some [.sc (.slice none 0 0)]) false false false none true false := .of (by kernel_rfl)
theorem uq30 : Uq E 30 (some 23) (some 240) (some [.int .i64 (0), .int .i64 (0), .int .i64 (0), .int .i64 (0), .int .i64 (0), .int .u64 (0), .str [], .int .u64 (0), .int .i64 (0), .int .i64 (0), .int .i64 (0), .str [], .int .i64 (0), .int .i64 (0), .int .i64 (0), .int .i64 (0), .int .u64 (0), .bool false, .bool false, .str [], .str [], .sc (.slice none 0 0), .sc (.slice none 0 0)]) false false false none := .of (by kernel_rfl)
theorem tq31 : Tq E 31 (some 1) (some false) (some [.sc (.slice none 0 0)]) false false false none true false := .of (by kernel_rfl)
theorem uq31 : Uq E 31 (some 4) (some 48) (some [.str [], .str [], .int .i64 (0), .bool false]) false false false none := .of (by kernel_rfl)
theorem tq32 : Tq E 32 (some 1) (some false) (some [.sc (.slice none 0 0)]) false false false none true false := .of (by kernel_rfl)
theorem uq32 : Uq E 32 (some 29) (some 312) (some [.int .i64 (0), .int .i64 (0), .int .i64 (0), .int .i64 (0), .int .i64 (0), .int .i64 (0), .str [], .str [], .str [], .int .u64 (0), .int .i64 (0), .int .i64 (0), .int .i64 (0), .str [], .str [], .str [], .int .i64 (0), .bool false, .int .i64 (0), .int .i64 (0), .sc (.slice none 0 0), .str [], .int .u64 (0), .int .i64 (0), .int .i64 (0), .int .i64 (0), .str [], .int .i64 (0), .int .i64 (0)]) false false false none := .of (by kernel_rfl)
theorem tq33 : Tq E 33 (some 1) (some false) (some [.sc (.slice none 0 0)]) false false false none true false := .of (by kernel_rfl)
theorem uq33 : Uq E 33 (some 1) (some 8) (some [.int .u64 (0)]) false false false none := .of (by kernel_rfl)
theorem tq34 : Tq E 34 (some 1) (some false) (some [.sc (.slice none 0 0)]) false false false none true false := .of (by kernel_rfl)
theorem uq34 : Uq E 34 (some 8) (some 72) (some [.int .i64 (0), .int .i64 (0), .int .i64 (0), .str [], .str [], .bool false, .bool false, .int .i64 (0)]) false false false none := .of (by kernel_rfl)
theorem tq36 : Tq E 36 (some 22) (some true) (some [.str [], .int .u64 (0), .int .i64 (0), .int .i64 (0), .int .i64 (0), .str [], .int .i64 (0), .str [], .int .i64 (0), .str [], .bool false, .sc (.slice none 0 0), .sc (.slice none 0 0), .sc (.slice none 0 0), .sc (.slice none 0 0), .sc (.slice none 0 0), .sc (.slice none 0 0), .sc (.slice none 0 0), .int .i64 (0), .int .i64 (0), .sc (.slice none 0 0), .sc (.slice none 0 0)]) false false false none true false := .of (by kernel_rfl)
theorem uq36 : Uq E 36 none none none false false true none := .of (by kernel_rfl)
theorem tq39 : Tq E 39 (some 1) (some false) (some [.sc (.slice none 0 0)]) false false false none true false := .of (by kernel_rfl)
theorem uq39 : Uq E 39 (some 1) (some 16) (some [.str []]) false false false none := .of (by kernel_rfl)
theorem tq42 : Tq E 42 (some 1) (some false) (some [.int .i64 (0)]) false true false (some .i64) true false := .of (by kernel_rfl)
theorem tq44 : Tq E 44 (some 8) (some true) (some [.int .i64 (0), .int .i64 (0), .int .i64 (0), .str [], .str [], .bool false, .bool false, .int .i64 (0)]) false false false none true false := .of (by kernel_rfl)
theorem uq44 : Uq E 44 none none none false false true none := .of (by kernel_rfl)
theorem tq45 : Tq E 45 (some 1) (some false) (some [.sc (.slice none 0 0)]) false false false none true false := .of (by kernel_rfl)
theorem uq45 : Uq E 45 (some 1) (some 1) (some [.int .u8 (0)]) true false false none := .of (by kernel_rfl)
theorem tq47 : Tq E 47 (some 3) (some true) (some [.str [], .str [], .sc (.slice none 0 0)]) false false false none true false := .of (by kernel_rfl)
theorem uq47 : Uq E 47 none none none false false true none := .of (by kernel_rfl)
theorem tq54 : Tq E 54 (some 1) (some false) (some [.sc (.slice none 0 0)]) false false false none true false := .of (by kernel_rfl)
theorem uq54 : Uq E 54 (some 4) (some 40) (some [.int .i64 (0), .str [], .int .i64 (0), .int .i64 (0)]) false false false none := .of (by kernel_rfl)
theorem tq56 : Tq E 56 (some 1) (some false) (some [.sc (.slice none 0 0)]) false false false none true false := .of (by kernel_rfl)
theorem uq56 : Uq E 56 (some 4) (some 40) (some [.int .i64 (0), .str [], .int .i64 (0), .int .i64 (0)]) false false false none := .of (by kernel_rfl)
theorem tq60 : Tq E 60 (some 4) (some true) (some [.int .i64 (0), .str [], .int .i64 (0), .int .i64 (0)]) false false false none true false := .of (by kernel_rfl)
theorem uq60 : Uq E 60 none none none false false true none := .of (by kernel_rfl)
theorem tq61 : Tq E 61 (some 4) (some true) (some [.int .i64 (0), .str [], .int .i64 (0), .int .i64 (0)]) false false false none true false := .of (by kernel_rfl)
theorem uq61 : Uq E 61 none none none false false true none := .of (by kernel_rfl)
theorem tq75 : Tq E 75 (some 8) (some true) (some [.str [], .int .u64 (0), .int .i64 (0), .int .i64 (0), .int .i64 (0), .str [], .int .i64 (0), .int .i64 (0)]) false false false none true false := .of (by kernel_rfl)
theorem uq75 : Uq E 75 none none none false false true none := .of (by kernel_rfl)
theorem tq77 : Tq E 77 (some 9) (some true) (some [.int .i64 (0), .str [], .int .u64 (0), .int .i64 (0), .int .i64 (0), .int .i64 (0), .str [], .int .i64 (0), .int .i64 (0)]) false false false none true false := .of (by kernel_rfl)
theorem uq77 : Uq E 77 none none none false false true none := .of (by kernel_rfl)
theorem tq79 : Tq E 79 (some 4) (some true) (some [.str [], .str [], .int .i64 (0), .bool false]) false false false none true false := .of (by kernel_rfl)
theorem uq79 : Uq E 79 none none none false false true none := .of (by kernel_rfl)
theorem tq81 : Tq E 81 (some 29) (some true) (some [.int .i64 (0), .int .i64 (0), .int .i64 (0), .int .i64 (0), .int .i64 (0), .int .i64 (0), .str [], .str [], .str [], .int .u64 (0), .int .i64 (0), .int .i64 (0), .int .i64 (0), .str [], .str [], .str [], .int .i64 (0), .bool false, .int .i64 (0), .int .i64 (0), .sc (.slice none 0 0), .str [], .int .u64 (0), .int .i64 (0), .int .i64 (0), .int .i64 (0), .str [], .int .i64 (0), .int .i64 (0)]) false false false none true false := .of (by kernel_rfl)
theorem uq81 : Uq E 81 none none none false false true none := .of (by kernel_rfl)
theorem tq86 : Tq E 86 (some 3) (some true) (some [.int .i64 (0), .int .u64 (0), .int .u64 (0)]) false false false none true false := .of (by kernel_rfl)
theorem uq86 : Uq E 86 none none none false false true none := .of (by kernel_rfl)
theorem tq88 : Tq E 88 (some 20) (some true) (some [.int .u64 (0), .int .u64 (0), .str [], .int .u64 (0), .int .i64 (0), .int .i64 (0), .int .i64 (0), .str [], .int .i64 (0), .int .i64 (0), .str [], .str [], .int .i64 (0), .int .i64 (0), .int .i64 (0), .int .i64 (0), .int .i64 (0), .int .u64 (0), .int .u64 (0), .int .i64 (0)]) false false false none true false := .of (by kernel_rfl)
theorem uq88 : Uq E 88 none none none false false true none := .of (by kernel_rfl)
theorem tq90 : Tq E 90 (some 1) (some false) (some [.sc (.slice none 0 0)]) false false false none true false := .of (by kernel_rfl)
theorem uq90 : Uq E 90 (some 6) (some 64) (some [.str [], .int .u64 (0), .int .i64 (0), .int .i64 (0), .int .i64 (0), .str []]) false false false none := .of (by kernel_rfl)
theorem tq92 : Tq E 92 (some 11) (some true) (some [.int .i64 (0), .int .i64 (0), .int .i64 (0), .int .i64 (0), .int .u64 (0), .bool false, .bool false, .str [], .str [], .sc (.slice none 0 0), .sc (.slice none 0 0)]) false false false none true false := .of (by kernel_rfl)
theorem uq92 : Uq E 92 none none none false false true none := .of (by kernel_rfl)
theorem tq94 : Tq E 94 (some 23) (some true) (some [.int .i64 (0), .int .i64 (0), .int .i64 (0), .int .i64 (0), .int .i64 (0), .int .u64 (0), .str [], .int .u64 (0), .int .i64 (0), .int .i64 (0), .int .i64 (0), .str [], .int .i64 (0), .int .i64 (0), .int .i64 (0), .int .i64 (0), .int .u64 (0), .bool false, .bool false, .str [], .str [], .sc (.slice none 0 0), .sc (.slice none 0 0)]) false false false none true false := .of (by kernel_rfl)
theorem uq94 : Uq E 94 none none none false false true none := .of (by kernel_rfl)
theorem tq107 : Tq E 107 (some 1) (some false) (some [.sc .nilFunc]) false false false none true false := .of (by kernel_rfl)
theorem tq112 : Tq E 112 (some 1) (some false) (some [.sc (.pointer none)]) false false false none true false := .of (by kernel_rfl)
theorem uq112 : Uq E 112 none none none false true false none := .of (by kernel_rfl)
theorem tq114 : Tq E 114 (some 2) (some true) (some [.sc (.pointer none), .sc (.slice none 0 0)]) false false false none true false := .of (by kernel_rfl)
theorem uq114 : Uq E 114 none none none false false true none := .of (by kernel_rfl)
theorem tq122 : Tq E 122 (some 1) (some false) (some [.sc .nilFunc]) false false false none true false := .of (by kernel_rfl)
theorem tq126 : Tq E 126 (some 1) (some false) (some [.int .u64 (0)]) false true false (some .u64) true false := .of (by kernel_rfl)
theorem tq127 : Tq E 127 (some 1) (some false) (some [.sc (.slice none 0 0)]) false false false none true false := .of (by kernel_rfl)
theorem uq127 : Uq E 127 (some 1) (some 24) (some [.sc (.slice none 0 0)]) false false false none := .of (by kernel_rfl)
theorem tq130 : Tq E 130 (some 1) (some false) (some [.sc (.pointer none)]) false false false none true false := .of (by kernel_rfl)
theorem uq130 : Uq E 130 none none none false true false none := .of (by kernel_rfl)
theorem tq132 : Tq E 132 (some 1) (some false) (some [.sc (.pointer none)]) false false false none true false := .of (by kernel_rfl)
theorem tq135 : Tq E 135 (some 24) (some true) (some [.int .u8 (0), .int .u8 (0), .int .u8 (0), .int .u8 (0), .int .u8 (0), .int .u8 (0), .int .u8 (0), .int .u8 (0), .int .u8 (0), .int .u8 (0), .int .u8 (0), .int .u8 (0), .int .u8 (0), .int .u8 (0), .int .u8 (0), .int .u8 (0), .int .u8 (0), .int .u8 (0), .int .u8 (0), .int .u8 (0), .int .u8 (0), .int .u8 (0), .int .u8 (0), .int .u8 (0)]) false false false none true false := .of (by kernel_rfl)
theorem uq135 : Uq E 135 none none none false false true (some (24, 1, false)) := .of (by kernel_rfl)
theorem tq141 : Tq E 141 (some 20) (some true) (some [.int .u64 (0), .int .u64 (0), .int .u64 (0), .int .u64 (0), .int .u64 (0), .int .u64 (0), .int .u64 (0), .int .u64 (0), .int .u64 (0), .int .u64 (0), .int .u64 (0), .int .u64 (0), .int .u64 (0), .int .u64 (0), .int .u64 (0), .int .u64 (0), .int .u64 (0), .int .u64 (0), .int .u64 (0), .int .u64 (0)]) false false false none true false := .of (by kernel_rfl)
theorem uq141 : Uq E 141 none none none false false true (some (20, 1, false)) := .of (by kernel_rfl)
theorem tq142 : Tq E 142 (some 1) (some false) (some [.int .u32 (0)]) false true false (some .u32) true false := .of (by kernel_rfl)
theorem tq143 : Tq E 143 (some 65) (some true) (some [.int .u8 (0), .int .u8 (0), .int .u8 (0), .int .u8 (0), .int .u8 (0), .int .u8 (0), .int .u8 (0), .int .u8 (0), .int .u8 (0), .int .u8 (0), .int .u8 (0), .int .u8 (0), .int .u8 (0), .int .u8 (0), .int .u8 (0), .int .u8 (0), .int .u8 (0), .int .u8 (0), .int .u8 (0), .int .u8 (0), .int .u8 (0), .int .u8 (0), .int .u8 (0), .int .u8 (0), .int .u8 (0), .int .u8 (0), .int .u8 (0), .int .u8 (0), .int .u8 (0), .int .u8 (0), .int .u8 (0), .int .u8 (0), .int .u8 (0), .int .u8 (0), .int .u8 (0), .int .u8 (0), .int .u8 (0), .int .u8 (0), .int .u8 (0), .int .u8 (0), .int .u8 (0), .int .u8 (0), .int .u8 (0), .int .u8 (0), .int .u8 (0), .int .u8 (0), .int .u8 (0), .int .u8 (0), .int .u8 (0), .int .u8 (0), .int .u8 (0), .int .u8 (0), .int .u8 (0), .int .u8 (0), .int .u8 (0), .int .u8 (0), .int .u8 (0), .int .u8 (0), .int .u8 (0), .int .u8 (0), .int .u8 (0), .int .u8 (0), .int .u8 (0), .int .u8 (0), .int .u8 (0)]) false false false none true false := .of (by kernel_rfl)
theorem uq143 : Uq E 143 none none none false false true (some (65, 1, false)) := .of (by kernel_rfl)
theorem tq147 : Tq E 147 (some 32) (some true) (some [.int .u8 (0), .int .u8 (0), .int .u8 (0), .int .u8 (0), .int .u8 (0), .int .u8 (0), .int .u8 (0), .int .u8 (0), .int .u8 (0), .int .u8 (0), .int .u8 (0), .int .u8 (0), .int .u8 (0), .int .u8 (0), .int .u8 (0), .int .u8 (0), .int .u8 (0), .int .u8 (0), .int .u8 (0), .int .u8 (0), .int .u8 (0), .int .u8 (0), .int .u8 (0), .int .u8 (0), .int .u8 (0), .int .u8 (0), .int .u8 (0), .int .u8 (0), .int .u8 (0), .int .u8 (0), .int .u8 (0), .int .u8 (0)]) false false false none true false := .of (by kernel_rfl)
theorem uq147 : Uq E 147 none none none false false true (some (32, 1, false)) := .of (by kernel_rfl)
theorem tq148 : Tq E 148 (some 64) (some true) (some [.int .u8 (0), .int .u8 (0), .int .u8 (0), .int .u8 (0), .int .u8 (0), .int .u8 (0), .int .u8 (0), .int .u8 (0), .int .u8 (0), .int .u8 (0), .int .u8 (0), .int .u8 (0), .int .u8 (0), .int .u8 (0), .int .u8 (0), .int .u8 (0), .int .u8 (0), .int .u8 (0), .int .u8 (0), .int .u8 (0), .int .u8 (0), .int .u8 (0), .int .u8 (0), .int .u8 (0), .int .u8 (0), .int .u8 (0), .int .u8 (0), .int .u8 (0), .int .u8 (0), .int .u8 (0), .int .u8 (0), .int .u8 (0), .int .u8 (0), .int .u8 (0), .int .u8 (0), .int .u8 (0), .int .u8 (0), .int .u8 (0), .int .u8 (0), .int .u8 (0), .int .u8 (0), .int .u8 (0), .int .u8 (0), .int .u8 (0), .int .u8 (0), .int .u8 (0), .int .u8 (0), .int .u8 (0), .int .u8 (0), .int .u8 (0), .int .u8 (0), .int .u8 (0), .int .u8 (0), .int .u8 (0), .int .u8 (0), .int .u8 (0), .int .u8 (0), .int .u8 (0), .int .u8 (0), .int .u8 (0), .int .u8 (0), .int .u8 (0), .int .u8 (0), .int .u8 (0)]) false false false none true false := .of (by kernel_rfl)
theorem uq148 : Uq E 148 none none none false false true (some (64, 1, false)) := .of (by kernel_rfl)
theorem fl24 : E.P.fldO 24 0 = some (0, 1, false) ∧ E.P.fldO 24 1 = some (1, 1, false) ∧ E.P.fldO 24 2 = some (2, 1, false) ∧ E.P.fldO 24 3 = some (3, 1, false) ∧ E.P.fldO 24 4 = some (4, 1, false) ∧ E.P.fldO 24 5 = some (5, 1, false) := by and_intros <;> kernel_rfl
theorem fl26 : E.P.fldO 26 0 = some (0, 1, false) ∧ E.P.fldO 26 1 = some (1, 1, false) := by and_intros <;> kernel_rfl
theorem fl36 : E.P.fldO 36 0 = some (0, 6, true) ∧ E.P.fldO 36 1 = some (6, 1, false) ∧ E.P.fldO 36 2 = some (7, 1, false) ∧ E.P.fldO 36 3 = some (8, 2, true) ∧ E.P.fldO 36 4 = some (10, 1, false) ∧ E.P.fldO 36 5 = some (11, 1, false) ∧ E.P.fldO 36 6 = some (12, 1, false) ∧ E.P.fldO 36 7 = some (13, 1, false) ∧ E.P.fldO 36 8 = some (14, 1, false) ∧ E.P.fldO 36 9 = some (15, 1, false) ∧ E.P.fldO 36 10 = some (16, 1, false) ∧ E.P.fldO 36 11 = some (17, 1, false) ∧ E.P.fldO 36 14 = some (20, 1, false) ∧ E.P.fldO 36 15 = some (21, 1, false) := by and_intros <;> kernel_rfl
theorem fl44 : E.P.fldO 44 0 = some (0, 1, false) ∧ E.P.fldO 44 1 = some (1, 1, false) ∧ E.P.fldO 44 2 = some (2, 1, false) ∧ E.P.fldO 44 3 = some (3, 1, false) ∧ E.P.fldO 44 4 = some (4, 1, false) ∧ E.P.fldO 44 5 = some (5, 1, false) ∧ E.P.fldO 44 6 = some (6, 1, false) ∧ E.P.fldO 44 7 = some (7, 1, false) := by and_intros <;> kernel_rfl
theorem fl47 : E.P.fldO 47 0 = some (0, 1, false) ∧ E.P.fldO 47 1 = some (1, 1, false) ∧ E.P.fldO 47 2 = some (2, 1, false) := by and_intros <;> kernel_rfl
theorem fl60 : E.P.fldO 60 0 = some (0, 1, false) ∧ E.P.fldO 60 1 = some (1, 1, false) ∧ E.P.fldO 60 2 = some (2, 1, false) ∧ E.P.fldO 60 3 = some (3, 1, false) := by and_intros <;> kernel_rfl
theorem fl61 : E.P.fldO 61 0 = some (0, 1, false) ∧ E.P.fldO 61 1 = some (1, 1, false) ∧ E.P.fldO 61 2 = some (2, 1, false) ∧ E.P.fldO 61 3 = some (3, 1, false) := by and_intros <;> kernel_rfl
theorem fl75 : E.P.fldO 75 0 = some (0, 6, true) ∧ E.P.fldO 75 1 = some (6, 1, false) := by and_intros <;> kernel_rfl
theorem fl77 : E.P.fldO 77 0 = some (0, 1, false) ∧ E.P.fldO 77 1 = some (1, 8, true) := by and_intros <;> kernel_rfl
theorem fl79 : E.P.fldO 79 0 = some (0, 1, false) ∧ E.P.fldO 79 1 = some (1, 1, false) ∧ E.P.fldO 79 2 = some (2, 1, false) ∧ E.P.fldO 79 3 = some (3, 1, false) := by and_intros <;> kernel_rfl
theorem fl81 : E.P.fldO 81 0 = some (0, 1, false) ∧ E.P.fldO 81 1 = some (1, 1, false) ∧ E.P.fldO 81 6 = some (6, 1, false) ∧ E.P.fldO 81 7 = some (7, 1, false) ∧ E.P.fldO 81 8 = some (8, 6, true) ∧ E.P.fldO 81 9 = some (14, 4, true) ∧ E.P.fldO 81 12 = some (20, 1, false) ∧ E.P.fldO 81 13 = some (21, 6, true) := by and_intros <;> kernel_rfl
theorem fl86 : E.P.fldO 86 0 = some (0, 1, false) := by kernel_rfl
theorem fl88 : E.P.fldO 88 0 = some (0, 1, false) ∧ E.P.fldO 88 2 = some (2, 6, true) ∧ E.P.fldO 88 3 = some (8, 1, false) ∧ E.P.fldO 88 4 = some (9, 1, false) ∧ E.P.fldO 88 5 = some (10, 1, false) ∧ E.P.fldO 88 6 = some (11, 1, false) ∧ E.P.fldO 88 7 = some (12, 1, false) ∧ E.P.fldO 88 10 = some (15, 1, false) ∧ E.P.fldO 88 11 = some (16, 3, true) := by and_intros <;> kernel_rfl
theorem fl92 : E.P.fldO 92 7 = some (7, 1, false) ∧ E.P.fldO 92 8 = some (8, 1, false) ∧ E.P.fldO 92 9 = some (9, 1, false) ∧ E.P.fldO 92 10 = some (10, 1, false) := by and_intros <;> kernel_rfl
theorem fl94 : E.P.fldO 94 0 = some (0, 1, false) ∧ E.P.fldO 94 1 = some (1, 1, false) ∧ E.P.fldO 94 6 = some (6, 6, true) ∧ E.P.fldO 94 7 = some (12, 11, true) := by and_intros <;> kernel_rfl
theorem fl114 : E.P.fldO 114 0 = some (0, 1, false) ∧ E.P.fldO 114 1 = some (1, 1, false) := by and_intros <;> kernel_rfl
theorem pl24 : E.P.places 24 0 = some (0, 1) ∧ E.P.places 24 1 = some (1, 1) := by and_intros <;> kernel_rfl
theorem pl36 : E.P.places 36 0 = some (0, 6) ∧ E.P.places 36 6 = some (12, 1) := by and_intros <;> kernel_rfl
theorem pl47 : E.P.places 47 0 = some (0, 1) ∧ E.P.places 47 1 = some (1, 1) ∧ E.P.places 47 2 = some (2, 1) := by and_intros <;> kernel_rfl
theorem pl60 : E.P.places 60 0 = some (0, 1) ∧ E.P.places 60 1 = some (1, 1) ∧ E.P.places 60 2 = some (2, 1) ∧ E.P.places 60 3 = some (3, 1) := by and_intros <;> kernel_rfl
theorem pl61 : E.P.places 61 0 = some (0, 1) ∧ E.P.places 61 1 = some (1, 1) ∧ E.P.places 61 2 = some (2, 1) ∧ E.P.places 61 3 = some (3, 1) := by and_intros <;> kernel_rfl
theorem pl75 : E.P.places 75 0 = some (0, 6) := by kernel_rfl
theorem fq3 : Fq E M 3 32760 [] [] [[0, 0, 0, 0, 0, 0, 0, 0, 0, 0, 0, 9, 9, 10, 21, 24, 5, 30, 0, 0, 2, 9]] [[0]] := .of (by kernel_rfl)
theorem fq4 : Fq E M 4 72057589742960512 [] [] [[0, 0, 0, 0, 0, 0], [0, 0, 0, 0, 0, 0, 0, 0], [0, 0, 2]] [[0]] := .of (by kernel_rfl)
theorem fq5 : Fq E M 5 8796093022120 [] [] [[0, 0, 0, 0, 0, 0, 0, 0, 0, 0, 0, 9, 9, 10, 21, 24, 5, 30, 0, 0, 2, 9]] [[0]] := .of (by kernel_rfl)
theorem fq6 : Fq E M 6 8388576 [] [] [[0, 0, 0, 0, 0, 0, 0, 0, 0, 0, 0, 9, 9, 10, 21, 24, 5, 30, 0, 0, 2, 9], [0, 0, 0, 0, 0, 0, 0, 0, 0, 0, 0, 9, 9, 10, 21, 24, 5, 30, 0, 0, 2, 9]] [[0]] := .of (by kernel_rfl)
theorem fq7 : Fq E M 7 1152921504468631296 [] [] [[5], [0, 0, 0, 0]] [[0]] := .of (by kernel_rfl)
theorem fq8 : Fq E M 8 309484862247388081001856640 [] [] [[0, 0, 0, 0, 0, 0, 0, 0, 0, 0, 0, 9, 9, 10, 21, 24, 5, 30, 0, 0, 2, 9], [0, 0, 0, 0, 0, 0, 0, 0, 0, 0, 0, 9, 9, 10, 21, 24, 5, 30, 0, 0, 2, 9]] [[0]] := .of (by kernel_rfl)
theorem fq9 : Fq E M 9 383123508400083696730193447178714151623171820446809856 [] [] [[0, 0, 0, 0, 0, 0, 0, 0, 0, 0, 0, 9, 9, 10, 21, 24, 5, 30, 0, 0, 2, 9]] [[0]] := .of (by kernel_rfl)
theorem fq10 : Fq E M 10 33536960 [] [] [[2], [2]] [[0]] := .of (by kernel_rfl)
theorem fq11 : Fq E M 11 144114080511163648 [] [] [[0, 0, 0, 0, 0, 0, 0, 0, 0, 0, 0, 9, 9, 10, 21, 24, 5, 30, 0, 0, 2, 9]] [[2]] := .of (by kernel_rfl)
theorem fq12 : Fq E M 12 4171340420538929061768787066287716575001753371798475634267108147769045672896129248312476762112 [] [] [[0, 0, 0, 0, 0, 0, 0, 0, 0, 0, 0, 9, 9, 10, 21, 24, 5, 30, 0, 0, 2, 9]] [[2]] := .of (by kernel_rfl)
theorem fq13 : Fq E M 13 2097148 [] [] [] [[0]] := .of (by kernel_rfl)
theorem fq14 : Fq E M 14 8184 [] [] [[0, 0, 0, 0, 0, 0]] [[0]] := .of (by kernel_rfl)
theorem fq15 : Fq E M 15 524280 [] [] [[0, 0, 0, 0, 0, 0]] [[0]] := .of (by kernel_rfl)
theorem fq16 : Fq E M 16 33554424 [] [] [[0, 0, 0, 0, 0, 0]] [[0]] := .of (by kernel_rfl)
theorem fq17 : Fq E M 17 67108856 [] [] [[0, 0, 0, 0, 0, 0, 0, 0]] [[0]] := .of (by kernel_rfl)
theorem fq18 : Fq E M 18 71916852246216688 [] [] [[0, 0, 0, 0, 0, 0, 0, 0]] [[0]] := .of (by kernel_rfl)
theorem fq19 : Fq E M 19 65528 [] [] [[0, 0, 2]] [[0]] := .of (by kernel_rfl)
theorem fq20 : Fq E M 20 33554416 [] [] [[0, 0, 2]] [[0]] := .of (by kernel_rfl)
theorem fq21 : Fq E M 21 50301888 [] [] [[5], [5]] [[0]] := .of (by kernel_rfl)
theorem fq22 : Fq E M 22 8587837376 [] [] [[0, 0, 0, 0, 0, 0, 0, 0, 0, 0, 0, 9, 9, 10, 21, 24, 5, 30, 0, 0, 2, 9], [0, 0, 0, 0, 0, 0, 0, 0, 0, 0, 0, 9, 9, 10, 21, 24, 5, 30, 0, 0, 2, 9]] [[5]] := .of (by kernel_rfl)
theorem fq23 : Fq E M 23 1658655738275038494673370141118986213918072740584526836090904903680 [] [] [[0, 0, 0, 0, 0, 0, 0, 0, 0, 0, 0, 9, 9, 10, 21, 24, 5, 30, 0, 0, 2, 9], [0, 0, 0, 0, 0, 0, 0, 0, 0, 0, 0, 9, 9, 10, 21, 24, 5, 30, 0, 0, 2, 9]] [[5]] := .of (by kernel_rfl)
theorem fq24 : Fq E M 24 536870908 [] [] [] [[0]] := .of (by kernel_rfl)
theorem fq25 : Fq E M 25 8384512 [] [] [[5], [0]] [[0]] := .of (by kernel_rfl)
theorem fq26 : Fq E M 26 7863168 [] [] [[5], [0]] [[0]] := .of (by kernel_rfl)
theorem fq27 : Fq E M 27 523264 [] [] [[5]] [[5]] := .of (by kernel_rfl)
theorem fq28 : Fq E M 28 18740739021925047598528 [] [] [[5]] [[5]] := .of (by kernel_rfl)
theorem fq29 : Fq E M 29 17871444681637824 [] [] [[0, 0, 0, 0]] [[0]] := .of (by kernel_rfl)
theorem fq30 : Fq E M 30 1162108839048438079456 [] [] [[0, 0, 0, 0]] [[0]] := .of (by kernel_rfl)
theorem fq31 : Fq E M 31 272678883686400 [] [] [[0, 0, 0, 0, 0, 0], [9]] [[0]] := .of (by kernel_rfl)
theorem fq32 : Fq E M 32 16642997760 [] [] [[5]] [[0]] := .of (by kernel_rfl)
theorem fq33 : Fq E M 33 261040 [] [] [[9]] [[0]] := .of (by kernel_rfl)
theorem fq34 : Fq E M 34 129968 [] [] [[21]] [[0]] := .of (by kernel_rfl)
theorem fq35 : Fq E M 35 67107760 [] [] [[24]] [[0]] := .of (by kernel_rfl)
theorem fq36 : Fq E M 36 268434352 [] [] [[5]] [[0]] := .of (by kernel_rfl)
theorem fq37 : Fq E M 37 24 [] [] [[2]] [[0]] := .of (by kernel_rfl)
theorem fq38 : Fq E M 38 24 [] [] [[0]] [[0]] := .of (by kernel_rfl)
theorem fq39 : Fq E M 39 9221116113369106432 [] [] [[0, 0, 0, 0, 0, 0, 0, 0, 0, 0, 0, 9, 9, 10, 21, 24, 5, 30, 0, 0, 2, 9]] [[2]] := .of (by kernel_rfl)
theorem fq40 : Fq E M 40 216 [] [] [[2]] [[0]] := .of (by kernel_rfl)
theorem fq41 : Fq E M 41 20245271384764230482814457221120 [] [] [[0, 0, 0, 0, 0, 0, 0, 0, 0, 0, 0, 9, 9, 10, 21, 24, 5, 30, 0, 0, 2, 9]] [[2]] := .of (by kernel_rfl)
theorem fq42 : Fq E M 42 24 [] [] [[0]] [[0]] := .of (by kernel_rfl)
theorem fq43 : Fq E M 43 2199023222624 [] [] [[2]] [[0]] := .of (by kernel_rfl)
theorem fq44 : Fq E M 44 4194112 [] [] [[0]] [[0]] := .of (by kernel_rfl)
theorem fq45 : Fq E M 45 262048 [] [] [[0]] [[0]] := .of (by kernel_rfl)
theorem fq46 : Fq E M 46 64768 [] [] [[0], [0], [0]] [[0]] := .of (by kernel_rfl)
theorem fq47 : Fq E M 47 5448 [] [] [[2]] [[0]] := .of (by kernel_rfl)
theorem fq48 : Fq E M 48 4063224 [] [] [[2]] [[0]] := .of (by kernel_rfl)
theorem fq49 : Fq E M 49 2475880077417697276893986816 [] [1] [[9], [9]] [[5]] := .of (by kernel_rfl)
theorem fq50 : Fq E M 50 18444492209467097088 [] [] [[5], [5]] [[5]] := .of (by kernel_rfl)
theorem fq51 : Fq E M 51 0 [] [] [[0]] [[0]] := .of (by kernel_rfl)
theorem fq52 : Fq E M 52 1572288 [] [] [[9], [0]] [[0]] := .of (by kernel_rfl)
theorem fq53 : Fq E M 53 785856 [] [] [[5], [0]] [[0]] := .of (by kernel_rfl)
theorem fq54 : Fq E M 54 33028992 [] [] [[5], [0]] [[0, 0, 0, 0], [0]] := .of (by kernel_rfl)
theorem fq55 : Fq E M 55 34351341296 [] [] [[0, 0, 0, 0]] [[0, 0, 0, 0]] := .of (by kernel_rfl)
theorem fq56 : Fq E M 56 24 [] [] [[0]] [[0]] := .of (by kernel_rfl)
theorem fq57 : Fq E M 57 37640580711207508330496 [] [] [[2], [0]] [[0]] := .of (by kernel_rfl)
theorem fq58 : Fq E M 58 68702682872 [] [] [[0]] [[0]] := .of (by kernel_rfl)
theorem fq59 : Fq E M 59 224 [] [] [[9], [0]] [[0]] := .of (by kernel_rfl)
theorem fq60 : Fq E M 60 17171480064 [] [] [[0, 0, 0, 0, 0, 0], [0, 0, 0, 0, 0, 0, 0, 0], [0, 0, 0, 0, 0, 0, 0, 0]] [[0]] := .of (by kernel_rfl)
theorem fq61 : Fq E M 61 2097144 [] [] [[0, 0, 0, 0]] [[0]] := .of (by kernel_rfl)
theorem fq62 : Fq E M 62 262136 [] [] [[0, 0, 0, 0, 0, 0, 0, 0, 0, 0, 0, 0, 0, 0, 0, 0, 0, 0, 0, 0]] [[0]] := .of (by kernel_rfl)
theorem fq63 : Fq E M 63 18446725929553100768 [] [] [[0, 0, 0, 0, 0, 0, 0, 0, 0, 7, 5]] [[0]] := .of (by kernel_rfl)
theorem fq64 : Fq E M 64 16352 [] [] [[0], [0, 0, 0, 0, 0, 0, 0, 0]] [[0]] := .of (by kernel_rfl)
theorem fq65 : Fq E M 65 4193280 [] [] [[2]] [[0]] := .of (by kernel_rfl)
theorem fq66 : Fq E M 66 4063224 [] [] [[2]] [[0]] := .of (by kernel_rfl)
theorem fq67 : Fq E M 67 68215103488 [] [1] [[2]] [[5]] := .of (by kernel_rfl)
theorem fq68 : Fq E M 68 224 [] [] [[5], [0]] [[0]] := .of (by kernel_rfl)
theorem fq69 : Fq E M 69 128896 [] [] [[5], [0]] [[0, 0, 0, 0], [0]] := .of (by kernel_rfl)
theorem fq70 : Fq E M 70 24 [] [] [[0]] [[0]] := .of (by kernel_rfl)
theorem fq71 : Fq E M 71 31457136 [] [] [[0], [0]] [] := .of (by kernel_rfl)
theorem fq72 : Fq E M 72 524224 [] [] [[0], [0]] [[0], [0]] := .of (by kernel_rfl)
theorem fq73 : Fq E M 73 16376 [] [] [[0]] [[0]] := .of (by kernel_rfl)
theorem fq74 : Fq E M 74 457792 [] [] [[9], [0]] [[0]] := .of (by kernel_rfl)
theorem fq75 : Fq E M 75 496 [] [] [[0, 0, 0, 0, 0, 0, 0, 0]] [[0]] := .of (by kernel_rfl)
theorem fq76 : Fq E M 76 224 [] [] [[0], [0]] [[0]] := .of (by kernel_rfl)
theorem fq77 : Fq E M 77 133955344 [] [] [[0]] [[0]] := .of (by kernel_rfl)
theorem fq78 : Fq E M 78 56 [] [] [[0]] [[0]] := .of (by kernel_rfl)
theorem fq79 : Fq E M 79 131040 [] [] [[0], [0]] [[0]] := .of (by kernel_rfl)
theorem fq80 : Fq E M 80 134152096 [2] [1] [[5], [0]] [[5]] := .of (by kernel_rfl)
theorem fq81 : Fq E M 81 457792 [] [] [[5], [0]] [[0]] := .of (by kernel_rfl)
theorem fq82 : Fq E M 82 240 [] [] [[0, 0, 0, 0]] [[0]] := .of (by kernel_rfl)
theorem fq83 : Fq E M 83 24 [] [] [[0]] [[0]] := .of (by kernel_rfl)
theorem fq84 : Fq E M 84 524220 [] [] [[0]] [] := .of (by kernel_rfl)
theorem fq85 : Fq E M 85 1073741792 [] [] [[0], [0]] [] := .of (by kernel_rfl)
theorem fq86 : Fq E M 86 18014381321090304 [] [] [[0], [0]] [[0]] := .of (by kernel_rfl)
theorem fq89 : Fq E M 89 32744 [] [] [[0]] [[0]] := .of (by kernel_rfl)
theorem fq90 : Fq E M 90 32752 [] [] [[0]] [[0]] := .of (by kernel_rfl)
theorem fq91 : Fq E M 91 184149205606795480238948490449146349755637850570752 [] [] [[2], [0]] [] := .of (by kernel_rfl)
theorem fq92 : Fq E M 92 5050176389969560855884357697536 [] [] [[2], [0], [0], [0], [0]] [[2], [0]] := .of (by kernel_rfl)
theorem fq93 : Fq E M 93 56 [] [] [[0]] [[0]] := .of (by kernel_rfl)
theorem fq94 : Fq E M 94 33537768 [] [] [[0]] [[0]] := .of (by kernel_rfl)
theorem fq95 : Fq E M 95 0 [] [] [[0]] [[0]] := .of (by kernel_rfl)
theorem fq96 : Fq E M 96 248 [] [] [[0]] [[0]] := .of (by kernel_rfl)
theorem fq97 : Fq E M 97 248 [] [] [[0]] [[0]] := .of (by kernel_rfl)
theorem fq98 : Fq E M 98 16360 [] [] [[0]] [[0]] := .of (by kernel_rfl)
theorem fq99 : Fq E M 99 16360 [] [] [[0]] [[0]] := .of (by kernel_rfl)
attribute [go_sem] tq2 tq3 tq4 tq5 tq9 tq22 tq24 uq24 tq26 uq26 tq27 uq27 tq28 uq28 tq29 uq29 tq30 uq30 tq31 uq31 tq32 uq32 tq33 uq33 tq34 uq34 tq36 uq36 tq39 uq39 tq42 tq44 uq44 tq45 uq45 tq47 uq47 tq54 uq54 tq56 uq56 tq60 uq60 tq61 uq61 tq75 uq75 tq77 uq77 tq79 uq79 tq81 uq81 tq86 uq86 tq88 uq88 tq90 uq90 tq92 uq92 tq94 uq94 tq107 tq112 uq112 tq114 uq114 tq122 tq126 tq127 uq127 tq130 uq130 tq132 tq135 uq135 tq141 uq141 tq142 tq143 uq143 tq147 uq147 tq148 uq148 fl24 fl26 fl36 fl44 fl47 fl60 fl61 fl75 fl77 fl79 fl81 fl86 fl88 fl92 fl94 fl114 pl24 pl36 pl47 pl60 pl61 pl75 fq3 fq4 fq5 fq6 fq7 fq8 fq9 fq10 fq11 fq12 fq13 fq14 fq15 fq16 fq17 fq18 fq19 fq20 fq21 fq22 fq23 fq24 fq25 fq26 fq27 fq28 fq29 fq30 fq31 fq32 fq33 fq34 fq35 fq36 fq37 fq38 fq39 fq40 fq41 fq42 fq43 fq44 fq45 fq46 fq47 fq48 fq49 fq50 fq51 fq52 fq53 fq54 fq55 fq56 fq57 fq58 fq59 fq60 fq61 fq62 fq63 fq64 fq65 fq66 fq67 fq68 fq69 fq70 fq71 fq72 fq73 fq74 fq75 fq76 fq77 fq78 fq79 fq80 fq81 fq82 fq83 fq84 fq85 fq86 fq89 fq90 fq91 fq92 fq93 fq94 fq95 fq96 fq97 fq98 fq99
end Go.Proofs.YtgbmhicpkbmeaaaDoor
