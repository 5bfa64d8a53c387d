import Derived.Test.YtmfcabokoijcdaaProg
import Derived.Test.YtmfcabokoijcdaaFc
namespace Go.Proofs.Ytmfcabokoijcdaa
open Go.Am
set_option maxRecDepth 100000
def parM : FuncId → List Nat
  | 45 => [1]
  | 68 => [1]
  | 75 => [1]
  | 76 => [1]
  | 88 => [1]
  | 91 => [1]
  | _ => []
def resM : FuncId → List Nat
  | 11 => [1]
  | 12 => [1, 1]
  | 20 => [1, 1]
  | 21 => [1]
  | 23 => [1, 1]
  | 26 => [1, 1]
  | 28 => [1, 1]
  | 37 => [1]
  | 38 => [1]
  | 40 => [1]
  | 42 => [1]
  | 43 => [1]
  | 44 => [1]
  | 67 => [1, 1]
  | 78 => [1]
  | 91 => [1]
  | _ => []
def locM : FuncId → Nat
  | 3 => 9903520314283041099680317440
  | 4 => 904625697166505458799722314524496820855999485040823316558903210818391801856
  | 5 => 4398029731840
  | 6 => 1329227995784915872903807059735085056
  | 7 => 383123508400083696730193447178714151623171820446809856
  | 8 => 131040
  | 9 => 8184
  | 10 => 2596148428965182359291222126755832
  | 11 => 1152890718281269232
  | 12 => 324518553658426726772160903249920
  | 13 => 4951760152529826285066649600
  | 14 => 41538335254187919160857634757672928
  | 15 => 1208925819614629174688704
  | 16 => 224
  | 17 => 785856
  | 18 => 72634050390035251200
  | 19 => 128896
  | 20 => 32512
  | 21 => 16773120
  | 22 => 4539628424388919296
  | 23 => 65408
  | 24 => 5316911981901723415436355420689526784
  | 25 => 1047808
  | 26 => 1984
  | 27 => 1984
  | 28 => 34359476096
  | 29 => 576460752034979328
  | 30 => 261040
  | 31 => 129968
  | 32 => 67107760
  | 33 => 268434352
  | 34 => 18446725929553100768
  | 35 => 232
  | 36 => 232
  | 37 => 232
  | 38 => 16775392
  | 39 => 232
  | 40 => 232
  | 41 => 232
  | 42 => 232
  | 43 => 232
  | 44 => 120
  | 45 => 274877857792
  | 46 => 4080
  | 47 => 1784
  | 48 => 9982748476797305406488081063424
  | 49 => 34359345152
  | 50 => 2269741575705706496
  | 51 => 33536960
  | 52 => 33536960
  | 53 => 33536960
  | 54 => 67091392
  | 55 => 33536960
  | 56 => 11417981541647597918827873148909761135493635584
  | 57 => 33536960
  | 58 => 33536960
  | 59 => 302231454903519854723040
  | 60 => 457792
  | 61 => 240
  | 62 => 133955344
  | 63 => 56
  | 64 => 24
  | 65 => 70093865746176
  | 66 => 224
  | 67 => 4503565267499008
  | 68 => 590295810358704599040
  | 69 => 16743296
  | 70 => 168
  | 71 => 130496
  | 72 => 262016
  | 73 => 9006924360055808
  | 74 => 131056
  | 75 => 262128
  | 76 => 268435392
  | 77 => 262136
  | 78 => 232
  | 79 => 4088
  | 80 => 201326528
  | 81 => 56
  | 82 => 480
  | 83 => 134182896
  | 84 => 33028992
  | 85 => 4503565267623680
  | 86 => 144115050636902368
  | 87 => 33536960
  | 88 => 39614080961984263615267404800
  | 89 => 457792
  | 90 => 240
  | 91 => 8589868800
  | 92 => 232
  | 93 => 457792
  | 94 => 785856
  | 95 => 137422143424
  | 97 => 1008
  | 98 => 16368
  | 99 => 268434928
  | _ => 0
def tabs : Tabs := []
noncomputable def E : Env := ⟨Try.prog, gamma tabs⟩
def nlM : FuncId → List (Nat × Nat)
  | 13 => [(77, 2001)]
  | 24 => [(8, 20), (71, 906), (70, 0)]
  | 29 => [(4, 20)]
  | 45 => [(32, 906), (32, 1004)]
  | 48 => [(77, 906), (76, 0)]
  | 49 => [(29, 906), (29, 1004)]
  | 69 => [(5, 29)]
  | 91 => [(13, 1), (26, 1)]
  | _ => []
def inlsM : List (FuncId × Nat) := [(46, 20000)]
noncomputable def M : Mds := ⟨parM, resM, locM, nlM, [], inlsM, 0, none⟩
@[go_sem] theorem M_cur : M.cur = [] := Eq.trans rfl rfl
@[go_sem] theorem M_inls : M.inls = [(46, 20000)] := Eq.trans rfl rfl
@[go_sem] theorem M_base : M.base = 0 := Eq.trans rfl rfl
@[go_sem] theorem M_gh : M.gh = none := Eq.trans rfl rfl
@[go_sem] theorem nl13 : M.nl 13 = [(77, 2001)] := Eq.trans rfl rfl
@[go_sem] theorem nl24 : M.nl 24 = [(8, 20), (71, 906), (70, 0)] := Eq.trans rfl rfl
@[go_sem] theorem nl29 : M.nl 29 = [(4, 20)] := Eq.trans rfl rfl
@[go_sem] theorem nl45 : M.nl 45 = [(32, 906), (32, 1004)] := Eq.trans rfl rfl
@[go_sem] theorem nl48 : M.nl 48 = [(77, 906), (76, 0)] := Eq.trans rfl rfl
@[go_sem] theorem nl49 : M.nl 49 = [(29, 906), (29, 1004)] := Eq.trans rfl rfl
@[go_sem] theorem nl69 : M.nl 69 = [(5, 29)] := Eq.trans rfl rfl
@[go_sem] theorem nl91 : M.nl 91 = [(13, 1), (26, 1)] := Eq.trans rfl rfl
noncomputable def C0 : Cf := ⟨E, M, fun _ => none⟩
@[go_sem] theorem C0_E : C0.E = E := rfl
@[go_sem] theorem C0_M : C0.M = M := rfl
theorem mixed : E.P.follows .mixedOrders = true := by kernel_rfl
theorem tq3 : Tq E 3 (some 1) (some false) (some [.int .i64 (0)]) false true false (some .i64) true false := .of (by kernel_rfl)
theorem tq4 : Tq E 4 (some 1) (some false) (some [.bool false]) false false true none true false := .of (by kernel_rfl)
theorem tq5 : Tq E 5 (some 1) (some false) (some [.int .u8 (0)]) false true false (some .u8) true false := .of (by kernel_rfl)
theorem tq9 : Tq E 9 (some 1) (some false) (some [.str []]) true false false none true false := .of (by kernel_rfl)
theorem tq22 : Tq E 22 (some 1) (some false) (some [.int .u64 (0)]) false true false (some .u64) true false := .of (by kernel_rfl)
theorem tq24 : Tq E 24 (some 6) (some true) (some [.str [], .int .u64 (0), .int .i64 (0), .int .i64 (0), .int .i64 (0), .str []]) false false false none true false := .of (by kernel_rfl)
theorem uq24 : Uq E 24 none none none false false true none := .of (by kernel_rfl)
theorem tq26 : Tq E 26 (some 2) (some true) (some [.int .i64 (0), .str []]) false false false none true false := .of (by kernel_rfl)
theorem uq26 : Uq E 26 none none none false false true none := .of (by kernel_rfl)
theorem tq27 : Tq E 27 (some 1) (some false) (some [.sc (.slice none 0 0)]) false false false none true false := .of (by kernel_rfl)
theorem uq27 : Uq E 27 (some 8) (some 80) (some [.str [], .int .u64 (0), .int .i64 (0), .int .i64 (0), .int .i64 (0), .str [], .int .i64 (0), .int .i64 (0)]) false false false none := .of (by kernel_rfl)
theorem tq28 : Tq E 28 (some 1) (some false) (some [.sc (.slice none 0 0)]) false false false none true false := .of (by kernel_rfl)
theorem uq28 : Uq E 28 (some 9) (some 88) (some [.int .i64 (0), .str [], .int .u64 (0), .int .i64 (0), .int .i64 (0), .int .i64 (0), .str [], .int .i64 (0), .int .i64 (0)]) false false false none := .of (by kernel_rfl)
theorem tq29 : Tq E 29 (some 1) (some false) (some [.sc (.slice none 0 0)]) false false false none true false := .of (by kernel_rfl)
theorem uq29 : Uq E 29 (some 20) (some 192) (some [.int .u64 (0), .int .u64 (0), .str [], .int .u64 (0), .int .i64 (0), .int .i64 (0), .int .i64 (0), .str [], .int .i64 (0), .int .i64 (0), .str [], .str [], .int .i64 (0), .int .i64 (0), .int .i64 (0), .int .i64 (0), .int .i64 (0), .int .u64 (0), .int .u64 (0), .int .i64 (0)]) false false false none := .of (by kernel_rfl)
theorem tq30 : Tq E 30 (some 1) (some false) (some [.sc (.slice none 0 0)]) false false false none true false := .of (by kernel_rfl)
theorem uq30 : Uq E 30 (some 23) (some 240) (some [.int .i64 (0), .int .i64 (0), .int .i64 (0), .int .i64 (0), .int .i64 (0), .int .u64 (0), .str [], .int .u64 (0), .int .i64 (0), .int .i64 (0), .int .i64 (0), .str [], .int .i64 (0), .int .i64 (0), .int .i64 (0), .int .i64 (0), .int .u64 (0), .bool false, .bool false, .str [], .str [], .sc (.slice none 0 0), .sc (.slice none 0 0)]) false false false none := .of (by kernel_rfl)
theorem tq31 : Tq E 31 (some 1) (some false) (some [.sc (.slice none 0 0)]) false false false none true false := .of (by kernel_rfl)
theorem uq31 : Uq E 31 (some 4) (some 48) (some [.str [], .str [], .int .i64 (0), .bool false]) false false false none := .of (by kernel_rfl)
theorem tq32 : Tq E 32 (some 1) (some false) (some [.sc (.slice none 0 0)]) false false false none true false := .of (by kernel_rfl)
theorem uq32 : Uq E 32 (some 29) (some 312) (some [.int .i64 (0), .int .i64 (0), .int .i64 (0), .int .i64 (0), .int .i64 (0), .int .i64 (0), .str [], .str [], .str [], .int .u64 (0), .int .i64 (0), .int .i64 (0), .int .i64 (0), .str [], .str [], .str [], .int .i64 (0), .bool false, .int .i64 (0), .int .i64 (0), .sc (.slice none 0 0), .str [], .int .u64 (0), .int .i64 (0), .int .i64 (0), .int .i64 (0), .str [], .int .i64 (0), .int .i64 (0)]) false false false none := .of (by kernel_rfl)
theorem tq33 : Tq E 33 (some 1) (some false) (some [.sc (.slice none 0 0)]) false false false none true false := .of (by kernel_rfl)
theorem uq33 : Uq E 33 (some 1) (some 8) (some [.int .u64 (0)]) false false false none := .of (by kernel_rfl)
theorem tq34 : Tq E 34 (some 1) (some false) (some [.sc (.slice none 0 0)]) false false false none true false := .of (by kernel_rfl)
theorem uq34 : Uq E 34 (some 8) (some 72) (some [.int .i64 (0), .int .i64 (0), .int .i64 (0), .str [], .str [], .bool false, .bool false, .int .i64 (0)]) false false false none := .of (by kernel_rfl)
theorem tq36 : Tq E 36 (some 22) (some true) (some [.str [], .int .u64 (0), .int .i64 (0), .int .i64 (0), .int .i64 (0), .str [], .int .i64 (0), .str [], .int .i64 (0), .str [], .bool false, .sc (.slice none 0 0), .sc (.slice none 0 0), .sc (.slice none 0 0), .sc (.slice none 0 0), .sc (.slice none 0 0), .sc (.slice none 0 0), .sc (.slice none 0 0), .int .i64 (0), .int .i64 (0), .sc (.slice none 0 0), .sc (.slice none 0 0)]) false false false none true false := .of (by kernel_rfl)
theorem uq36 : Uq E 36 none none none false false true none := .of (by kernel_rfl)
theorem tq39 : Tq E 39 (some 1) (some false) (some [.int .i64 (0)]) false true false (some .i64) true false := .of (by kernel_rfl)
theorem tq40 : Tq E 40 (some 1) (some false) (some [.sc (.slice none 0 0)]) false false false none true false := .of (by kernel_rfl)
theorem uq40 : Uq E 40 (some 6) (some 64) (some [.str [], .int .u64 (0), .int .i64 (0), .int .i64 (0), .int .i64 (0), .str []]) false false false none := .of (by kernel_rfl)
theorem tq42 : Tq E 42 (some 11) (some true) (some [.int .i64 (0), .int .i64 (0), .int .i64 (0), .int .i64 (0), .int .u64 (0), .bool false, .bool false, .str [], .str [], .sc (.slice none 0 0), .sc (.slice none 0 0)]) false false false none true false := .of (by kernel_rfl)
theorem uq42 : Uq E 42 none none none false false true none := .of (by kernel_rfl)
theorem tq46 : Tq E 46 (some 1) (some false) (some [.sc (.slice none 0 0)]) false false false none true false := .of (by kernel_rfl)
theorem uq46 : Uq E 46 (some 20) (some 216) (some [.bool false, .str [], .int .u64 (0), .int .i64 (0), .int .i64 (0), .int .i64 (0), .str [], .int .i64 (0), .int .i64 (0), .int .i64 (0), .int .i64 (0), .int .u64 (0), .bool false, .bool false, .str [], .str [], .sc (.slice none 0 0), .sc (.slice none 0 0), .int .i64 (0), .int .i64 (0)]) false false false none := .of (by kernel_rfl)
theorem tq54 : Tq E 54 (some 8) (some true) (some [.str [], .int .u64 (0), .int .i64 (0), .int .i64 (0), .int .i64 (0), .str [], .int .i64 (0), .int .i64 (0)]) false false false none true false := .of (by kernel_rfl)
theorem uq54 : Uq E 54 none none none false false true none := .of (by kernel_rfl)
theorem tq56 : Tq E 56 (some 4) (some true) (some [.str [], .str [], .int .i64 (0), .bool false]) false false false none true false := .of (by kernel_rfl)
theorem uq56 : Uq E 56 none none none false false true none := .of (by kernel_rfl)
theorem tq60 : Tq E 60 (some 20) (some true) (some [.bool false, .str [], .int .u64 (0), .int .i64 (0), .int .i64 (0), .int .i64 (0), .str [], .int .i64 (0), .int .i64 (0), .int .i64 (0), .int .i64 (0), .int .u64 (0), .bool false, .bool false, .str [], .str [], .sc (.slice none 0 0), .sc (.slice none 0 0), .int .i64 (0), .int .i64 (0)]) false false false none true false := .of (by kernel_rfl)
theorem uq60 : Uq E 60 none none none false false true none := .of (by kernel_rfl)
theorem tq77 : Tq E 77 (some 9) (some true) (some [.int .i64 (0), .str [], .int .u64 (0), .int .i64 (0), .int .i64 (0), .int .i64 (0), .str [], .int .i64 (0), .int .i64 (0)]) false false false none true false := .of (by kernel_rfl)
theorem uq77 : Uq E 77 none none none false false true none := .of (by kernel_rfl)
theorem tq78 : Tq E 78 (some 1) (some false) (some [.sc (.slice none 0 0)]) false false false none true false := .of (by kernel_rfl)
theorem uq78 : Uq E 78 (some 1) (some 16) (some [.str []]) false false false none := .of (by kernel_rfl)
theorem tq80 : Tq E 80 (some 29) (some true) (some [.int .i64 (0), .int .i64 (0), .int .i64 (0), .int .i64 (0), .int .i64 (0), .int .i64 (0), .str [], .str [], .str [], .int .u64 (0), .int .i64 (0), .int .i64 (0), .int .i64 (0), .str [], .str [], .str [], .int .i64 (0), .bool false, .int .i64 (0), .int .i64 (0), .sc (.slice none 0 0), .str [], .int .u64 (0), .int .i64 (0), .int .i64 (0), .int .i64 (0), .str [], .int .i64 (0), .int .i64 (0)]) false false false none true false := .of (by kernel_rfl)
theorem uq80 : Uq E 80 none none none false false true none := .of (by kernel_rfl)
theorem tq82 : Tq E 82 (some 8) (some true) (some [.int .i64 (0), .int .i64 (0), .int .i64 (0), .str [], .str [], .bool false, .bool false, .int .i64 (0)]) false false false none true false := .of (by kernel_rfl)
theorem uq82 : Uq E 82 none none none false false true none := .of (by kernel_rfl)
theorem tq90 : Tq E 90 (some 20) (some true) (some [.int .u64 (0), .int .u64 (0), .str [], .int .u64 (0), .int .i64 (0), .int .i64 (0), .int .i64 (0), .str [], .int .i64 (0), .int .i64 (0), .str [], .str [], .int .i64 (0), .int .i64 (0), .int .i64 (0), .int .i64 (0), .int .i64 (0), .int .u64 (0), .int .u64 (0), .int .i64 (0)]) false false false none true false := .of (by kernel_rfl)
theorem uq90 : Uq E 90 none none none false false true none := .of (by kernel_rfl)
theorem tq97 : Tq E 97 (some 1) (some false) (some [.sc (.pointer none)]) false false false none true false := .of (by kernel_rfl)
theorem uq97 : Uq E 97 none none none false true false none := .of (by kernel_rfl)
theorem tq100 : Tq E 100 (some 23) (some true) (some [.str [], .int .u64 (0), .int .i64 (0), .int .i64 (0), .int .i64 (0), .str [], .int .i64 (0), .str [], .int .i64 (0), .str [], .bool false, .sc (.slice none 0 0), .sc (.slice none 0 0), .sc (.slice none 0 0), .sc (.slice none 0 0), .sc (.slice none 0 0), .sc (.slice none 0 0), .sc (.slice none 0 0), .int .i64 (0), .int .i64 (0), .sc (.slice none 0 0), .sc (.slice none 0 0), .sc (.slice none 0 0)]) false false false none true false := .of (by kernel_rfl)
theorem uq100 : Uq E 100 none none none false false true none := .of (by kernel_rfl)
theorem tq118 : Tq E 118 (some 1) (some false) (some [.sc .nilFunc]) false false false none true false := .of (by kernel_rfl)
theorem tq131 : Tq E 131 (some 23) (some true) (some [.int .i64 (0), .int .i64 (0), .int .i64 (0), .int .i64 (0), .int .i64 (0), .int .u64 (0), .str [], .int .u64 (0), .int .i64 (0), .int .i64 (0), .int .i64 (0), .str [], .int .i64 (0), .int .i64 (0), .int .i64 (0), .int .i64 (0), .int .u64 (0), .bool false, .bool false, .str [], .str [], .sc (.slice none 0 0), .sc (.slice none 0 0)]) false false false none true false := .of (by kernel_rfl)
theorem uq131 : Uq E 131 none none none false false true none := .of (by kernel_rfl)
theorem tq138 : Tq E 138 (some 1) (some false) (some [.sc .nilFunc]) false false false none true false := .of (by kernel_rfl)
theorem fl24 : E.P.fldO 24 0 = some (0, 1, false) ∧ E.P.fldO 24 5 = some (5, 1, false) := by and_intros <;> kernel_rfl
theorem fl26 : E.P.fldO 26 1 = some (1, 1, false) := by kernel_rfl
theorem fl36 : E.P.fldO 36 0 = some (0, 6, true) ∧ E.P.fldO 36 1 = some (6, 1, false) ∧ E.P.fldO 36 2 = some (7, 1, false) ∧ E.P.fldO 36 3 = some (8, 2, true) ∧ E.P.fldO 36 4 = some (10, 1, false) ∧ E.P.fldO 36 5 = some (11, 1, false) ∧ E.P.fldO 36 6 = some (12, 1, false) ∧ E.P.fldO 36 7 = some (13, 1, false) ∧ E.P.fldO 36 8 = some (14, 1, false) ∧ E.P.fldO 36 9 = some (15, 1, false) ∧ E.P.fldO 36 10 = some (16, 1, false) ∧ E.P.fldO 36 11 = some (17, 1, false) ∧ E.P.fldO 36 12 = some (18, 1, false) ∧ E.P.fldO 36 13 = some (19, 1, false) ∧ E.P.fldO 36 14 = some (20, 1, false) ∧ E.P.fldO 36 15 = some (21, 1, false) := by and_intros <;> kernel_rfl
theorem fl42 : E.P.fldO 42 0 = some (0, 1, false) ∧ E.P.fldO 42 1 = some (1, 1, false) ∧ E.P.fldO 42 2 = some (2, 1, false) ∧ E.P.fldO 42 3 = some (3, 1, false) ∧ E.P.fldO 42 4 = some (4, 1, false) ∧ E.P.fldO 42 5 = some (5, 1, false) ∧ E.P.fldO 42 6 = some (6, 1, false) ∧ E.P.fldO 42 7 = some (7, 1, false) ∧ E.P.fldO 42 8 = some (8, 1, false) ∧ E.P.fldO 42 9 = some (9, 1, false) ∧ E.P.fldO 42 10 = some (10, 1, false) := by and_intros <;> kernel_rfl
theorem fl54 : E.P.fldO 54 0 = some (0, 6, true) := by kernel_rfl
theorem fl56 : E.P.fldO 56 0 = some (0, 1, false) ∧ E.P.fldO 56 1 = some (1, 1, false) ∧ E.P.fldO 56 2 = some (2, 1, false) ∧ E.P.fldO 56 3 = some (3, 1, false) := by and_intros <;> kernel_rfl
theorem fl60 : E.P.fldO 60 0 = some (0, 1, false) ∧ E.P.fldO 60 1 = some (1, 6, true) ∧ E.P.fldO 60 2 = some (7, 11, true) ∧ E.P.fldO 60 3 = some (18, 1, false) ∧ E.P.fldO 60 4 = some (19, 1, false) := by and_intros <;> kernel_rfl
theorem fl77 : E.P.fldO 77 1 = some (1, 8, true) := by kernel_rfl
theorem fl80 : E.P.fldO 80 0 = some (0, 1, false) ∧ E.P.fldO 80 1 = some (1, 1, false) ∧ E.P.fldO 80 2 = some (2, 1, false) ∧ E.P.fldO 80 3 = some (3, 1, false) ∧ E.P.fldO 80 4 = some (4, 1, false) ∧ E.P.fldO 80 5 = some (5, 1, false) ∧ E.P.fldO 80 6 = some (6, 1, false) ∧ E.P.fldO 80 7 = some (7, 1, false) ∧ E.P.fldO 80 8 = some (8, 6, true) ∧ E.P.fldO 80 9 = some (14, 4, true) ∧ E.P.fldO 80 10 = some (18, 1, false) ∧ E.P.fldO 80 11 = some (19, 1, false) ∧ E.P.fldO 80 12 = some (20, 1, false) ∧ E.P.fldO 80 13 = some (21, 6, true) ∧ E.P.fldO 80 14 = some (27, 1, false) ∧ E.P.fldO 80 15 = some (28, 1, false) := by and_intros <;> kernel_rfl
theorem fl82 : E.P.fldO 82 3 = some (3, 1, false) ∧ E.P.fldO 82 4 = some (4, 1, false) := by and_intros <;> kernel_rfl
theorem fl90 : E.P.fldO 90 2 = some (2, 6, true) ∧ E.P.fldO 90 5 = some (10, 1, false) ∧ E.P.fldO 90 6 = some (11, 1, false) := by and_intros <;> kernel_rfl
theorem fl100 : E.P.fldO 100 0 = some (0, 22, true) ∧ E.P.fldO 100 1 = some (22, 1, false) := by and_intros <;> kernel_rfl
theorem fl131 : E.P.fldO 131 0 = some (0, 1, false) ∧ E.P.fldO 131 1 = some (1, 1, false) ∧ E.P.fldO 131 2 = some (2, 1, false) ∧ E.P.fldO 131 3 = some (3, 1, false) ∧ E.P.fldO 131 4 = some (4, 1, false) ∧ E.P.fldO 131 5 = some (5, 1, false) ∧ E.P.fldO 131 6 = some (6, 6, true) ∧ E.P.fldO 131 7 = some (12, 11, true) := by and_intros <;> kernel_rfl
theorem pl24 : E.P.places 24 0 = some (0, 1) := by kernel_rfl
theorem pl42 : E.P.places 42 0 = some (0, 1) ∧ E.P.places 42 1 = some (1, 1) ∧ E.P.places 42 2 = some (2, 1) ∧ E.P.places 42 3 = some (3, 1) ∧ E.P.places 42 10 = some (10, 1) := by and_intros <;> kernel_rfl
theorem pl54 : E.P.places 54 0 = some (0, 6) := by kernel_rfl
theorem pl56 : E.P.places 56 0 = some (0, 1) ∧ E.P.places 56 1 = some (1, 1) ∧ E.P.places 56 2 = some (2, 1) ∧ E.P.places 56 3 = some (3, 1) := by and_intros <;> kernel_rfl
theorem pl60 : E.P.places 60 0 = some (0, 1) ∧ E.P.places 60 1 = some (1, 6) ∧ E.P.places 60 2 = some (7, 11) ∧ E.P.places 60 3 = some (18, 1) ∧ E.P.places 60 4 = some (19, 1) := by and_intros <;> kernel_rfl
theorem pl80 : E.P.places 80 0 = some (0, 1) ∧ E.P.places 80 1 = some (1, 1) ∧ E.P.places 80 5 = some (5, 1) ∧ E.P.places 80 9 = some (14, 4) ∧ E.P.places 80 13 = some (21, 6) ∧ E.P.places 80 14 = some (27, 1) ∧ E.P.places 80 15 = some (28, 1) := by and_intros <;> kernel_rfl
theorem pl82 : E.P.places 82 0 = some (0, 1) ∧ E.P.places 82 1 = some (1, 1) ∧ E.P.places 82 2 = some (2, 1) ∧ E.P.places 82 3 = some (3, 1) ∧ E.P.places 82 4 = some (4, 1) ∧ E.P.places 82 5 = some (5, 1) ∧ E.P.places 82 6 = some (6, 1) ∧ E.P.places 82 7 = some (7, 1) := by and_intros <;> kernel_rfl
theorem pl100 : E.P.places 100 0 = some (0, 22) := by kernel_rfl
theorem fq3 : Fq E M 3 9903520314283041099680317440 [] [] [[0, 0, 0, 0, 0, 0, 0, 0, 0, 0, 0, 9, 9, 10, 21, 24, 5, 30, 0, 0, 2, 9], [0], [0], [0], [0, 0, 0, 0, 0, 0], [0], [0]] [[0]] := .of (by kernel_rfl)
theorem fq4 : Fq E M 4 904625697166505458799722314524496820855999485040823316558903210818391801856 [] [] [[0, 0, 0, 0, 0, 0, 0, 0, 0, 0, 0, 9, 9, 10, 21, 24, 5, 30, 0, 0, 2, 9], [0], [0], [0, 0, 0, 0, 0, 0], [0]] [[0]] := .of (by kernel_rfl)
theorem fq5 : Fq E M 5 4398029731840 [] [] [[0, 0, 0, 0, 0, 0, 0, 0, 0, 0, 0, 9, 9, 10, 21, 24, 5, 30, 0, 0, 2, 9], [0], [0, 0, 0, 0], [0], [0]] [[0]] := .of (by kernel_rfl)
theorem fq6 : Fq E M 6 1329227995784915872903807059735085056 [] [] [[0, 0, 0, 0, 0, 0, 0, 0, 0, 0, 0, 9, 9, 10, 21, 24, 5, 30, 0, 0, 2, 9], [0], [0]] [[0]] := .of (by kernel_rfl)
theorem fq7 : Fq E M 7 383123508400083696730193447178714151623171820446809856 [] [] [[0, 0, 0, 0, 0, 0, 0, 0, 0, 0, 0, 9, 9, 10, 21, 24, 5, 30, 0, 0, 2, 9]] [[0]] := .of (by kernel_rfl)
theorem fq8 : Fq E M 8 131040 [] [] [[0, 0, 0, 0, 0, 0, 0, 0, 0, 0, 0, 9, 9, 10, 21, 24, 5, 30, 0, 0, 2, 9], [0, 0, 0, 0, 0, 0, 0, 0, 0, 7, 5]] [[0]] := .of (by kernel_rfl)
theorem fq9 : Fq E M 9 8184 [] [] [[0, 0, 0, 0, 0, 0]] [[0]] := .of (by kernel_rfl)
theorem fq10 : Fq E M 10 2596148428965182359291222126755832 [] [] [] [[0]] := .of (by kernel_rfl)
theorem fq11 : Fq E M 11 1152890718281269232 [] [1] [[0, 0, 0, 0, 0, 0, 0, 0, 0, 0, 0, 9, 9, 10, 21, 24, 5, 30, 0, 0, 2, 9]] [[0, 0, 0, 0, 0, 0, 0, 0, 0, 0, 0, 9, 9, 10, 21, 24, 5, 30, 0, 0, 2, 9]] := .of (by kernel_rfl)
theorem fq12 : Fq E M 12 324518553658426726772160903249920 [] [1, 1] [[0, 0, 0, 0, 0, 0, 0, 0, 0, 0, 0, 9, 9, 10, 21, 24, 5, 30, 0, 0, 2, 9], [0], [0], [0], [0, 0, 0, 0, 0, 0], [0], [0]] [[0, 0, 0, 0, 0, 0, 0, 0, 0, 0, 0, 9, 9, 10, 21, 24, 5, 30, 0, 0, 2, 9], [21]] := .of (by kernel_rfl)
theorem fq13 : Fq E M 13 4951760152529826285066649600 [] [] [[0, 0, 0, 0, 0, 0, 0, 0, 0, 0, 0, 9, 9, 10, 21, 24, 5, 30, 0, 0, 2, 9], [0], [0], [0], [0, 0, 0, 0, 0, 0], [0], [0]] [[0, 0, 0, 0, 0, 0, 0, 0, 0, 0, 0, 9, 9, 10, 21, 24, 5, 30, 0, 0, 2, 9], [21]] := .of (by kernel_rfl)
theorem fq14 : Fq E M 14 41538335254187919160857634757672928 [] [] [[0, 0, 0, 0, 0, 0, 0, 0, 0, 0, 0, 9, 9, 10, 21, 24, 5, 30, 0, 0, 2, 9], [0, 0, 0, 0, 0, 0, 0, 0, 0, 0, 0, 9, 9, 10, 21, 24, 5, 30, 0, 0, 2, 9]] [[0]] := .of (by kernel_rfl)
theorem fq15 : Fq E M 15 1208925819614629174688704 [] [] [[21], [21]] [[0]] := .of (by kernel_rfl)
theorem fq16 : Fq E M 16 224 [] [] [[30], [0]] [[0]] := .of (by kernel_rfl)
theorem fq17 : Fq E M 17 785856 [] [] [[30], [0]] [[0]] := .of (by kernel_rfl)
theorem fq18 : Fq E M 18 72634050390035251200 [] [] [[5], [0], [0], [0]] [[5], [0, 0, 0, 0], [0]] := .of (by kernel_rfl)
theorem fq19 : Fq E M 19 128896 [] [] [[5], [0]] [[0, 0, 0, 0], [0]] := .of (by kernel_rfl)
theorem fq20 : Fq E M 20 32512 [] [1, 1] [[0, 0, 0, 0, 0, 0, 0, 0, 0, 0, 0, 9, 9, 10, 21, 24, 5, 30, 0, 0, 2, 9], [0], [0]] [[0, 0, 0, 0, 0, 0, 0, 0, 0, 0, 0, 9, 9, 10, 21, 24, 5, 30, 0, 0, 2, 9], [21]] := .of (by kernel_rfl)
theorem fq21 : Fq E M 21 16773120 [] [1] [[0, 0, 0, 0, 0, 0, 0, 0, 0, 0, 0, 9, 9, 10, 21, 24, 5, 30, 0, 0, 2, 9], [0], [0, 0, 0, 0], [0], [0]] [[0, 0, 0, 0, 0, 0, 0, 0, 0, 0, 0, 9, 9, 10, 21, 24, 5, 30, 0, 0, 2, 9]] := .of (by kernel_rfl)
theorem fq22 : Fq E M 22 4539628424388919296 [] [] [[0, 0, 0, 0, 0, 0, 0, 0, 0, 0, 0, 9, 9, 10, 21, 24, 5, 30, 0, 0, 2, 9], [0], [0, 0, 0, 0], [0], [0]] [[0, 0, 0, 0, 0, 0, 0, 0, 0, 0, 0, 9, 9, 10, 21, 24, 5, 30, 0, 0, 2, 9]] := .of (by kernel_rfl)
theorem fq23 : Fq E M 23 65408 [] [1, 1] [[0, 0, 0, 0, 0, 0, 0, 0, 0, 0, 0, 9, 9, 10, 21, 24, 5, 30, 0, 0, 2, 9], [0]] [[0, 0, 0, 0, 0, 0, 0, 0, 0, 0, 0, 9, 9, 10, 21, 24, 5, 30, 0, 0, 2, 9], [21]] := .of (by kernel_rfl)
theorem fq24 : Fq E M 24 5316911981901723415436355420689526784 [] [] [[0, 0, 0, 0, 0, 0, 0, 0, 0, 0, 0, 9, 9, 10, 21, 24, 5, 30, 0, 0, 2, 9], [0]] [[0, 0, 0, 0, 0, 0, 0, 0, 0, 0, 0, 9, 9, 10, 21, 24, 5, 30, 0, 0, 2, 9], [21]] := .of (by kernel_rfl)
theorem fq25 : Fq E M 25 1047808 [] [] [[0, 0, 0, 0, 0, 0, 0, 0, 0, 0, 0, 9, 9, 10, 21, 24, 5, 30, 0, 0, 2, 9], [0], [0]] [[0, 0, 0, 0, 0, 0, 0, 0, 0, 0, 0, 9, 9, 10, 21, 24, 5, 30, 0, 0, 2, 9], [21]] := .of (by kernel_rfl)
theorem fq26 : Fq E M 26 1984 [] [1, 1] [[0, 0, 0, 0, 0, 0, 0, 0, 0, 0, 0, 9, 9, 10, 21, 24, 5, 30, 0, 0, 2, 9], [0]] [[0, 0, 0, 0, 0, 0, 0, 0, 0, 0, 0, 9, 9, 10, 21, 24, 5, 30, 0, 0, 2, 9], [21]] := .of (by kernel_rfl)
theorem fq27 : Fq E M 27 1984 [] [] [[0, 0, 0, 0, 0, 0, 0, 0, 0, 0, 0, 9, 9, 10, 21, 24, 5, 30, 0, 0, 2, 9], [0]] [[0, 0, 0, 0, 0, 0, 0, 0, 0, 0, 0, 9, 9, 10, 21, 24, 5, 30, 0, 0, 2, 9], [21]] := .of (by kernel_rfl)
theorem fq28 : Fq E M 28 34359476096 [] [1, 1] [[0, 0, 0, 0, 0, 0, 0, 0, 0, 0, 0, 9, 9, 10, 21, 24, 5, 30, 0, 0, 2, 9]] [[0, 0, 0, 0, 0, 0, 0, 0, 0, 0, 0, 9, 9, 10, 21, 24, 5, 30, 0, 0, 2, 9], [21]] := .of (by kernel_rfl)
theorem fq29 : Fq E M 29 576460752034979328 [] [] [[0, 0, 0, 0, 0, 0, 0, 0, 0, 0, 0, 9, 9, 10, 21, 24, 5, 30, 0, 0, 2, 9]] [[0, 0, 0, 0, 0, 0, 0, 0, 0, 0, 0, 9, 9, 10, 21, 24, 5, 30, 0, 0, 2, 9], [21]] := .of (by kernel_rfl)
theorem fq30 : Fq E M 30 261040 [] [] [[9]] [[0]] := .of (by kernel_rfl)
theorem fq31 : Fq E M 31 129968 [] [] [[21]] [[0]] := .of (by kernel_rfl)
theorem fq32 : Fq E M 32 67107760 [] [] [[24]] [[0]] := .of (by kernel_rfl)
theorem fq33 : Fq E M 33 268434352 [] [] [[5]] [[0]] := .of (by kernel_rfl)
theorem fq34 : Fq E M 34 18446725929553100768 [] [] [[0, 0, 0, 0, 0, 0, 0, 0, 0, 7, 5]] [[0]] := .of (by kernel_rfl)
theorem fq35 : Fq E M 35 232 [] [] [[9]] [[9]] := .of (by kernel_rfl)
theorem fq36 : Fq E M 36 232 [] [] [[10]] [[10]] := .of (by kernel_rfl)
theorem fq37 : Fq E M 37 232 [] [1] [[21]] [[21]] := .of (by kernel_rfl)
theorem fq38 : Fq E M 38 16775392 [] [1] [[24]] [[24]] := .of (by kernel_rfl)
theorem fq39 : Fq E M 39 232 [] [] [[5]] [[5]] := .of (by kernel_rfl)
theorem fq40 : Fq E M 40 232 [] [1] [[30]] [[30]] := .of (by kernel_rfl)
theorem fq41 : Fq E M 41 232 [] [] [[2]] [[2]] := .of (by kernel_rfl)
theorem fq42 : Fq E M 42 232 [] [1] [[9]] [[9]] := .of (by kernel_rfl)
theorem fq43 : Fq E M 43 232 [] [1] [[2]] [[2]] := .of (by kernel_rfl)
theorem fq44 : Fq E M 44 120 [] [1] [[0, 0, 0, 0, 0, 0, 0, 0, 0, 0, 0, 9, 9, 10, 21, 24, 5, 30, 0, 0, 2, 9]] [[0]] := .of (by kernel_rfl)
theorem fq45 : Fq E M 45 274877857792 [1] [] [[0], [0, 0, 0, 0, 0, 0], [0], [0], [0, 0, 0, 0], [0], [0]] [] := .of (by kernel_rfl)
theorem fq46 : Fq E M 46 4080 [] [] [[0]] [[0, 0, 0, 0, 0, 0, 0, 0, 0, 0, 0, 9, 9, 10, 21, 24, 5, 30, 0, 0, 2, 9], [21]] := .of (by kernel_rfl)
theorem fq47 : Fq E M 47 1784 [] [] [[0]] [[0]] := .of (by kernel_rfl)
theorem fq48 : Fq E M 48 9982748476797305406488081063424 [] [] [[0], [0]] [] := .of (by kernel_rfl)
theorem fq49 : Fq E M 49 34359345152 [] [] [[0, 0, 0, 0, 0, 0, 0, 0, 0, 0, 0, 9, 9, 10, 21, 24, 5, 30, 0, 0, 2, 9], [0, 0, 0, 0, 0, 0], [0], [0], [0, 0, 0, 0], [0], [0]] [[0, 0, 0, 0, 0, 0, 0, 0, 0, 0, 0, 9, 9, 10, 21, 24, 5, 30, 0, 0, 2, 9], [21]] := .of (by kernel_rfl)
theorem fq50 : Fq E M 50 2269741575705706496 [] [] [[5], [0], [0], [0]] [[5], [0, 0, 0, 0], [0]] := .of (by kernel_rfl)
theorem fq51 : Fq E M 51 33536960 [] [] [[9], [9]] [[0]] := .of (by kernel_rfl)
theorem fq52 : Fq E M 52 33536960 [] [] [[10], [10]] [[0]] := .of (by kernel_rfl)
theorem fq53 : Fq E M 53 33536960 [] [] [[21], [21]] [[0]] := .of (by kernel_rfl)
theorem fq54 : Fq E M 54 67091392 [] [] [[24], [24]] [[0]] := .of (by kernel_rfl)
theorem fq55 : Fq E M 55 33536960 [] [] [[5], [5]] [[0]] := .of (by kernel_rfl)
theorem fq56 : Fq E M 56 11417981541647597918827873148909761135493635584 [] [] [[30], [30]] [[0]] := .of (by kernel_rfl)
theorem fq57 : Fq E M 57 33536960 [] [] [[2], [2]] [[0]] := .of (by kernel_rfl)
theorem fq58 : Fq E M 58 33536960 [] [] [[9], [9]] [[0]] := .of (by kernel_rfl)
theorem fq59 : Fq E M 59 302231454903519854723040 [] [] [[0, 0, 0, 0, 0, 0, 0, 0, 0, 7, 5], [0, 0, 0, 0, 0, 0, 0, 0, 0, 7, 5]] [[0]] := .of (by kernel_rfl)
theorem fq60 : Fq E M 60 457792 [] [] [[30], [0]] [[0]] := .of (by kernel_rfl)
theorem fq61 : Fq E M 61 240 [] [] [[0, 0, 0, 0, 0, 0, 0, 0, 0, 0, 0, 0, 0, 0, 0, 0, 0, 0, 0, 0, 2, 0, 0, 0, 0, 0, 0, 0, 0]] [[0]] := .of (by kernel_rfl)
theorem fq62 : Fq E M 62 133955344 [] [] [[0]] [[0]] := .of (by kernel_rfl)
theorem fq63 : Fq E M 63 56 [] [] [[0]] [[0]] := .of (by kernel_rfl)
theorem fq64 : Fq E M 64 24 [] [] [[5]] [[5]] := .of (by kernel_rfl)
theorem fq65 : Fq E M 65 70093865746176 [] [] [[5], [0, 0, 0, 0]] [[5]] := .of (by kernel_rfl)
theorem fq66 : Fq E M 66 224 [] [] [[5], [0]] [[0]] := .of (by kernel_rfl)
theorem fq67 : Fq E M 67 4503565267499008 [] [1, 1] [[0, 0, 0, 0, 0, 0, 0, 0, 0, 0, 0, 9, 9, 10, 21, 24, 5, 30, 0, 0, 2, 9], [0], [0]] [[0, 0, 0, 0, 0, 0, 0, 0, 0, 0, 0, 9, 9, 10, 21, 24, 5, 30, 0, 0, 2, 9], [21]] := .of (by kernel_rfl)
theorem fq68 : Fq E M 68 590295810358704599040 [1] [] [[0], [0], [0, 0, 0, 0], [0], [0]] [] := .of (by kernel_rfl)
theorem fq69 : Fq E M 69 16743296 [] [] [[30], [0]] [[30]] := .of (by kernel_rfl)
theorem fq70 : Fq E M 70 168 [] [] [[0]] [[0]] := .of (by kernel_rfl)
theorem fq71 : Fq E M 71 130496 [] [] [[2], [0]] [[0]] := .of (by kernel_rfl)
theorem fq72 : Fq E M 72 262016 [] [] [[0, 0, 0, 0, 0, 0, 0, 0, 0, 0, 0, 9, 9, 10, 21, 24, 5, 30, 0, 0, 2, 9], [0], [0, 0, 0, 0, 0, 0, 0, 0, 0, 0, 0, 0, 0, 0, 0, 0, 0, 0, 0, 0, 2, 0, 0, 0, 0, 0, 0, 0, 0]] [[0, 0, 0, 0, 0, 0, 0, 0, 0, 0, 0, 9, 9, 10, 21, 24, 5, 30, 0, 0, 2, 9]] := .of (by kernel_rfl)
theorem fq73 : Fq E M 73 9006924360055808 [] [] [[0, 0, 0, 0, 0, 0, 0, 0, 0, 0, 0, 9, 9, 10, 21, 24, 5, 30, 0, 0, 2, 9], [0], [0]] [[0, 0, 0, 0, 0, 0, 0, 0, 0, 0, 0, 9, 9, 10, 21, 24, 5, 30, 0, 0, 2, 9], [21]] := .of (by kernel_rfl)
theorem fq74 : Fq E M 74 131056 [] [] [[0, 0, 0, 0, 0, 0, 0, 0, 0, 0, 0, 0, 0, 0, 0, 0, 0, 0, 0, 0, 2, 0, 0, 0, 0, 0, 0, 0, 0]] [[0]] := .of (by kernel_rfl)
theorem fq75 : Fq E M 75 262128 [1] [] [[0], [0, 0, 0, 0, 0, 0, 0, 0, 0, 0, 0, 0, 0, 0, 0, 0, 0, 0, 0, 0, 2, 0, 0, 0, 0, 0, 0, 0, 0]] [] := .of (by kernel_rfl)
theorem fq76 : Fq E M 76 268435392 [1] [] [[0], [0]] [[0, 0, 0, 0, 0, 0, 0, 0, 0, 0, 0, 0, 0, 0, 0, 0, 0, 0, 0, 0, 2, 0, 0, 0, 0, 0, 0, 0, 0]] := .of (by kernel_rfl)
theorem fq77 : Fq E M 77 262136 [] [] [[0, 0, 0, 0, 0, 0, 0, 0, 0, 0, 0, 0, 0, 0, 0, 0, 0, 0, 0, 0]] [[0]] := .of (by kernel_rfl)
theorem fq78 : Fq E M 78 232 [] [1] [[24]] [[24]] := .of (by kernel_rfl)
theorem fq79 : Fq E M 79 4088 [] [] [[0, 0, 0, 0, 0, 0, 0, 0, 0, 7, 5]] [[0, 0, 0, 0, 0, 0, 0, 0, 0, 7, 5]] := .of (by kernel_rfl)
theorem fq80 : Fq E M 80 201326528 [] [] [[0], [0]] [[0]] := .of (by kernel_rfl)
theorem fq81 : Fq E M 81 56 [] [] [[0]] [[0]] := .of (by kernel_rfl)
theorem fq82 : Fq E M 82 480 [] [] [[2], [0]] [[0]] := .of (by kernel_rfl)
theorem fq83 : Fq E M 83 134182896 [] [] [[0]] [[0]] := .of (by kernel_rfl)
theorem fq84 : Fq E M 84 33028992 [] [] [[5], [0]] [[0, 0, 0, 0], [0]] := .of (by kernel_rfl)
theorem fq85 : Fq E M 85 4503565267623680 [] [] [[5], [0, 0, 0, 0]] [[5]] := .of (by kernel_rfl)
theorem fq86 : Fq E M 86 144115050636902368 [] [] [[0, 0, 0, 0, 0, 0, 0, 0, 0, 0, 0, 0, 0, 0, 0, 0, 0, 0, 0, 0, 0, 7, 5], [0, 0, 0, 0, 0, 0, 0, 0, 0, 0, 0, 0, 0, 0, 0, 0, 0, 0, 0, 0, 0, 7, 5]] [[0]] := .of (by kernel_rfl)
theorem fq87 : Fq E M 87 33536960 [] [] [[7], [7]] [[0]] := .of (by kernel_rfl)
theorem fq88 : Fq E M 88 39614080961984263615267404800 [1] [] [[5], [0], [5]] [[5]] := .of (by kernel_rfl)
theorem fq89 : Fq E M 89 457792 [] [] [[5], [0]] [[0]] := .of (by kernel_rfl)
theorem fq90 : Fq E M 90 240 [] [] [[0, 0, 0, 0]] [[0]] := .of (by kernel_rfl)
theorem fq91 : Fq E M 91 8589868800 [1] [1] [[30], [0], [0]] [[30]] := .of (by kernel_rfl)
theorem fq92 : Fq E M 92 232 [] [] [[7]] [[7]] := .of (by kernel_rfl)
theorem fq93 : Fq E M 93 457792 [] [] [[2], [0]] [[0]] := .of (by kernel_rfl)
theorem fq94 : Fq E M 94 785856 [] [] [[5], [0]] [[0]] := .of (by kernel_rfl)
theorem fq95 : Fq E M 95 137422143424 [] [] [[0], [0]] [[0]] := .of (by kernel_rfl)
theorem fq97 : Fq E M 97 1008 [] [] [[5], [0]] [] := .of (by kernel_rfl)
theorem fq98 : Fq E M 98 16368 [] [] [[5], [0]] [] := .of (by kernel_rfl)
theorem fq99 : Fq E M 99 268434928 [] [] [[5]] [] := .of (by kernel_rfl)
attribute [go_sem] tq3 tq4 tq5 tq9 tq22 tq24 uq24 tq26 uq26 tq27 uq27 tq28 uq28 tq29 uq29 tq30 uq30 tq31 uq31 tq32 uq32 tq33 uq33 tq34 uq34 tq36 uq36 tq39 tq40 uq40 tq42 uq42 tq46 uq46 tq54 uq54 tq56 uq56 tq60 uq60 tq77 uq77 tq78 uq78 tq80 uq80 tq82 uq82 tq90 uq90 tq97 uq97 tq100 uq100 tq118 tq131 uq131 tq138 fl24 fl26 fl36 fl42 fl54 fl56 fl60 fl77 fl80 fl82 fl90 fl100 fl131 pl24 pl42 pl54 pl56 pl60 pl80 pl82 pl100 fq3 fq4 fq5 fq6 fq7 fq8 fq9 fq10 fq11 fq12 fq13 fq14 fq15 fq16 fq17 fq18 fq19 fq20 fq21 fq22 fq23 fq24 fq25 fq26 fq27 fq28 fq29 fq30 fq31 fq32 fq33 fq34 fq35 fq36 fq37 fq38 fq39 fq40 fq41 fq42 fq43 fq44 fq45 fq46 fq47 fq48 fq49 fq50 fq51 fq52 fq53 fq54 fq55 fq56 fq57 fq58 fq59 fq60 fq61 fq62 fq63 fq64 fq65 fq66 fq67 fq68 fq69 fq70 fq71 fq72 fq73 fq74 fq75 fq76 fq77 fq78 fq79 fq80 fq81 fq82 fq83 fq84 fq85 fq86 fq87 fq88 fq89 fq90 fq91 fq92 fq93 fq94 fq95 fq97 fq98 fq99
end Go.Proofs.Ytmfcabokoijcdaa
