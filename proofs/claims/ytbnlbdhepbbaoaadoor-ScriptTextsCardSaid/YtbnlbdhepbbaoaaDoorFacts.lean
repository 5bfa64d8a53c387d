import Derived.Test.YtbnlbdhepbbaoaaDoorProg
import Derived.Test.YtbnlbdhepbbaoaaDoorFc
namespace Go.Proofs.YtbnlbdhepbbaoaaDoor
open Go.Am
set_option maxRecDepth 100000
def parM : FuncId → List Nat
  | 22 => [1]
  | 35 => [1]
  | 36 => [1]
  | 37 => [1]
  | 40 => [1]
  | 41 => [1]
  | 55 => [1]
  | 57 => [1]
  | _ => []
def resM : FuncId → List Nat
  | _ => []
def locM : FuncId → Nat
  | 3 => 4294966656
  | 4 => 1099511626624
  | 5 => 151115727451828512587776
  | 6 => 1208907228755366307119104
  | 7 => 1152921504606846752
  | 8 => 150965845685355163941888
  | 9 => 2398508217336836654834348032
  | 10 => 9444732948147104382944
  | 11 => 1099511625568
  | 12 => 402653056
  | 13 => 7083477666418372050432
  | 14 => 4072
  | 15 => 140565555194880
  | 16 => 9212104240619302912
  | 17 => 266330112
  | 18 => 528480000
  | 19 => 67091392
  | 20 => 224
  | 21 => 4611498942452612736
  | 22 => 4575374638262511456
  | 23 => 137438920160
  | 24 => 2
  | 25 => 2
  | 26 => 18870946847232033225728
  | 27 => 37640580711207508330496
  | 28 => 15344
  | 29 => 163334206853450166811166887803480105287568
  | 30 => 151115727451828646838208
  | 31 => 70859056553115072
  | 32 => 524224
  | 33 => 16376
  | 34 => 73786974027094380544
  | 35 => 571921691261663680
  | 36 => 61408
  | 37 => 30656
  | 38 => 274806996960
  | 39 => 133955344
  | 40 => 15728512
  | 41 => 33553904
  | 42 => 25165568
  | 43 => 8264132302079772311552
  | 44 => 31457136
  | 45 => 24
  | 46 => 262048
  | 47 => 216
  | 48 => 68702682872
  | 49 => 4194112
  | 50 => 2199023222624
  | 51 => 524220
  | 52 => 1117103780003072
  | 53 => 17163058560
  | 54 => 224
  | 55 => 125828992
  | 56 => 17147362816
  | 57 => 7920
  | 58 => 504
  | 59 => 6274880
  | 60 => 8706863201686967516928
  | 61 => 266207216
  | 62 => 134182896
  | 63 => 134085312
  | 64 => 144114088528576320
  | 65 => 1073741792
  | 66 => 24
  | 67 => 4193280
  | 69 => 936
  | 70 => 523248
  | 72 => 10448029773009037967681152029858612457160704
  | 73 => 54042094942125824
  | 74 => 8795556146944
  | 75 => 6096
  | 76 => 64960
  | 78 => 24
  | 79 => 131040
  | 80 => 166153182560275531675699597790863360
  | 81 => 224
  | 83 => 56
  | 84 => 2266735911759287759665152
  | 85 => 1984
  | 86 => 224
  | 87 => 18014381321090304
  | 89 => 548648513024
  | 90 => 32192
  | 91 => 32744
  | 92 => 32752
  | 93 => 184149205606795480238948490449146349755637850570752
  | 94 => 5050176389969560855884357697536
  | 95 => 262112
  | 96 => 56
  | 97 => 33537768
  | 99 => 248
  | 100 => 248
  | 101 => 16360
  | 102 => 16360
  | _ => 0
def tabL4 : List Int := [0, 1, 28, 2, 29, 14, 24, 3, 30, 22, 20, 15, 25, 17, 4, 8, 31, 27, 13, 23, 21, 19, 16, 7, 26, 12, 18, 6, 11, 5, 10, 9]
def tabL5 : List Int := [0, 1, 56, 2, 57, 49, 28, 3, 61, 58, 42, 50, 38, 29, 17, 4, 62, 47, 59, 36, 45, 43, 51, 22, 53, 39, 33, 30, 24, 18, 12, 5, 63, 55, 48, 27, 60, 41, 37, 16, 46, 35, 44, 21, 52, 32, 23, 11, 54, 26, 40, 15, 34, 20, 31, 10, 25, 14, 19, 9, 13, 8, 7, 6]
def tabL3 : List Int := [1, 10, 100, 1000, 10000, 100000, 1000000, 10000000, 100000000, 1000000000, 10000000000, 100000000000, 1000000000000, 10000000000000, 100000000000000, 1000000000000000, 10000000000000000, 100000000000000000, 1000000000000000000, 10000000000000000000]
def tabs : Tabs := [(4, "math/bits.deBruijn32tab", .u8, tabL4), (5, "math/bits.deBruijn64tab", .u8, tabL5), (3, "internal/strconv.uint64pow10", .u64, tabL3)]
noncomputable def E : Env := ⟨Tryd.prog, gammaJ [0] tabs⟩
def nlM : FuncId → List (Nat × Nat)
  | 15 => [(5, 10)]
  | 16 => [(5, 10)]
  | _ => []
def inlsM : List (FuncId × Nat) := []
noncomputable def M : Mds := ⟨parM, resM, locM, nlM, [], inlsM, 0, none⟩
@[go_sem] theorem M_cur : M.cur = [] := Eq.trans rfl rfl
@[go_sem] theorem M_inls : M.inls = [] := Eq.trans rfl rfl
@[go_sem] theorem M_base : M.base = 0 := Eq.trans rfl rfl
@[go_sem] theorem M_gh : M.gh = none := Eq.trans rfl rfl
@[go_sem] theorem nl15 : M.nl 15 = [(5, 10)] := Eq.trans rfl rfl
@[go_sem] theorem nl16 : M.nl 16 = [(5, 10)] := Eq.trans rfl rfl
noncomputable def C0 : Cf := ⟨E, M, fun _ => none⟩
@[go_sem] theorem C0_E : C0.E = E := rfl
@[go_sem] theorem C0_M : C0.M = M := rfl
theorem mixed : E.P.follows .mixedOrders = true := by kernel_rfl
@[go_sem] theorem ev_g4 (f) : ev E.Γ f (.global 4) = .iptr (tabV .u8 tabL4) := rfl
@[go_sem] theorem ev_g5 (f) : ev E.Γ f (.global 5) = .iptr (tabV .u8 tabL5) := rfl
@[go_sem] theorem ev_g3 (f) : ev E.Γ f (.global 3) = .iptr (tabV .u64 tabL3) := rfl
theorem tq2 : Tq E 2 (some 1) (some false) (some [.int .i64 (0)]) false true false (some .i64) true false := .of (by kernel_rfl)
theorem tq3 : Tq E 3 (some 1) (some false) (some [.int .i64 (0)]) false true false (some .i64) true false := .of (by kernel_rfl)
theorem tq4 : Tq E 4 (some 1) (some false) (some [.bool false]) false false true none true false := .of (by kernel_rfl)
theorem tq5 : Tq E 5 (some 1) (some false) (some [.int .u8 (0)]) false true false (some .u8) true false := .of (by kernel_rfl)
theorem tq9 : Tq E 9 (some 1) (some false) (some [.str []]) true false false none true false := .of (by kernel_rfl)
theorem tq21 : Tq E 21 (some 1) (some false) (some [.int .i32 (0)]) false true false (some .i32) true false := .of (by kernel_rfl)
theorem tq23 : Tq E 23 (some 1) (some false) (some [.int .u64 (0)]) false true false (some .u64) true false := .of (by kernel_rfl)
theorem tq24 : Tq E 24 (some 1) (some false) (some [.sc (.slice none 0 0)]) false false false none true false := .of (by kernel_rfl)
theorem uq24 : Uq E 24 (some 1) (some 1) (some [.int .u8 (0)]) true false false none := .of (by kernel_rfl)
theorem tq26 : Tq E 26 (some 10) (some true) (some [.int .i64 (0), .int .i64 (0), .int .i64 (0), .int .i64 (0), .int .i64 (0), .int .i64 (0), .int .u64 (0), .str [], .str [], .sc (.slice none 0 0)]) false false false none true false := .of (by kernel_rfl)
theorem uq26 : Uq E 26 none none none false false true none := .of (by kernel_rfl)
theorem tq27 : Tq E 27 (some 1) (some false) (some [.int .i64 (0)]) false true false (some .i64) true false := .of (by kernel_rfl)
theorem tq33 : Tq E 33 (some 1) (some false) (some [.sc .nilFunc]) false false false none true false := .of (by kernel_rfl)
theorem tq35 : Tq E 35 (some 1) (some false) (some [.sc (.slice none 0 0)]) false false false none true false := .of (by kernel_rfl)
theorem uq35 : Uq E 35 (some 10) (some 112) (some [.int .i64 (0), .int .i64 (0), .int .i64 (0), .int .i64 (0), .int .i64 (0), .int .i64 (0), .int .u64 (0), .str [], .str [], .sc (.slice none 0 0)]) false false false none := .of (by kernel_rfl)
theorem tq50 : Tq E 50 (some 1) (some false) (some [.sc (.slice none 0 0)]) false false false none true false := .of (by kernel_rfl)
theorem uq50 : Uq E 50 (some 1) (some 16) (some [.str []]) false false false none := .of (by kernel_rfl)
theorem tq54 : Tq E 54 (some 1) (some false) (some [.sc (.pointer none)]) false false false none true false := .of (by kernel_rfl)
theorem uq54 : Uq E 54 none none none false true false none := .of (by kernel_rfl)
theorem tq56 : Tq E 56 (some 12) (some true) (some [.sc (.slice none 0 0), .int .i64 (0), .int .i64 (0), .int .i64 (0), .int .i64 (0), .int .i64 (0), .int .i64 (0), .int .u64 (0), .str [], .str [], .sc (.slice none 0 0), .int .i64 (0)]) false false false none true false := .of (by kernel_rfl)
theorem uq56 : Uq E 56 none none none false false true none := .of (by kernel_rfl)
theorem tq65 : Tq E 65 (some 1) (some false) (some [.sc (.pointer none)]) false false false none true false := .of (by kernel_rfl)
theorem uq65 : Uq E 65 none none none false true false none := .of (by kernel_rfl)
theorem tq67 : Tq E 67 (some 2) (some true) (some [.sc (.pointer none), .sc (.slice none 0 0)]) false false false none true false := .of (by kernel_rfl)
theorem uq67 : Uq E 67 none none none false false true none := .of (by kernel_rfl)
theorem tq82 : Tq E 82 (some 20) (some true) (some [.str [], .str [], .str [], .str [], .str [], .str [], .str [], .str [], .str [], .str [], .str [], .str [], .str [], .str [], .str [], .str [], .str [], .str [], .str [], .str []]) false false false none true false := .of (by kernel_rfl)
theorem uq82 : Uq E 82 none none none false false true (some (20, 1, false)) := .of (by kernel_rfl)
theorem tq85 : Tq E 85 (some 1) (some false) (some [.sc (.pointer none)]) false false false none true false := .of (by kernel_rfl)
theorem uq85 : Uq E 85 none none none false true false none := .of (by kernel_rfl)
theorem tq96 : Tq E 96 (some 1) (some false) (some [.sc (.pointer none)]) false false false none true false := .of (by kernel_rfl)
theorem tq102 : Tq E 102 (some 1) (some false) (some [.int .u64 (0)]) false true false (some .u64) true false := .of (by kernel_rfl)
theorem tq109 : Tq E 109 (some 256) (some true) (some [.int .u8 (0), .int .u8 (0), .int .u8 (0), .int .u8 (0), .int .u8 (0), .int .u8 (0), .int .u8 (0), .int .u8 (0), .int .u8 (0), .int .u8 (0), .int .u8 (0), .int .u8 (0), .int .u8 (0), .int .u8 (0), .int .u8 (0), .int .u8 (0), .int .u8 (0), .int .u8 (0), .int .u8 (0), .int .u8 (0), .int .u8 (0), .int .u8 (0), .int .u8 (0), .int .u8 (0), .int .u8 (0), .int .u8 (0), .int .u8 (0), .int .u8 (0), .int .u8 (0), .int .u8 (0), .int .u8 (0), .int .u8 (0), .int .u8 (0), .int .u8 (0), .int .u8 (0), .int .u8 (0), .int .u8 (0), .int .u8 (0), .int .u8 (0), .int .u8 (0), .int .u8 (0), .int .u8 (0), .int .u8 (0), .int .u8 (0), .int .u8 (0), .int .u8 (0), .int .u8 (0), .int .u8 (0), .int .u8 (0), .int .u8 (0), .int .u8 (0), .int .u8 (0), .int .u8 (0), .int .u8 (0), .int .u8 (0), .int .u8 (0), .int .u8 (0), .int .u8 (0), .int .u8 (0), .int .u8 (0), .int .u8 (0), .int .u8 (0), .int .u8 (0), .int .u8 (0), .int .u8 (0), .int .u8 (0), .int .u8 (0), .int .u8 (0), .int .u8 (0), .int .u8 (0), .int .u8 (0), .int .u8 (0), .int .u8 (0), .int .u8 (0), .int .u8 (0), .int .u8 (0), .int .u8 (0), .int .u8 (0), .int .u8 (0), .int .u8 (0), .int .u8 (0), .int .u8 (0), .int .u8 (0), .int .u8 (0), .int .u8 (0), .int .u8 (0), .int .u8 (0), .int .u8 (0), .int .u8 (0), .int .u8 (0), .int .u8 (0), .int .u8 (0), .int .u8 (0), .int .u8 (0), .int .u8 (0), .int .u8 (0), .int .u8 (0), .int .u8 (0), .int .u8 (0), .int .u8 (0), .int .u8 (0), .int .u8 (0), .int .u8 (0), .int .u8 (0), .int .u8 (0), .int .u8 (0), .int .u8 (0), .int .u8 (0), .int .u8 (0), .int .u8 (0), .int .u8 (0), .int .u8 (0), .int .u8 (0), .int .u8 (0), .int .u8 (0), .int .u8 (0), .int .u8 (0), .int .u8 (0), .int .u8 (0), .int .u8 (0), .int .u8 (0), .int .u8 (0), .int .u8 (0), .int .u8 (0), .int .u8 (0), .int .u8 (0), .int .u8 (0), .int .u8 (0), .int .u8 (0), .int .u8 (0), .int .u8 (0), .int .u8 (0), .int .u8 (0), .int .u8 (0), .int .u8 (0), .int .u8 (0), .int .u8 (0), .int .u8 (0), .int .u8 (0), .int .u8 (0), .int .u8 (0), .int .u8 (0), .int .u8 (0), .int .u8 (0), .int .u8 (0), .int .u8 (0), .int .u8 (0), .int .u8 (0), .int .u8 (0), .int .u8 (0), .int .u8 (0), .int .u8 (0), .int .u8 (0), .int .u8 (0), .int .u8 (0), .int .u8 (0), .int .u8 (0), .int .u8 (0), .int .u8 (0), .int .u8 (0), .int .u8 (0), .int .u8 (0), .int .u8 (0), .int .u8 (0), .int .u8 (0), .int .u8 (0), .int .u8 (0), .int .u8 (0), .int .u8 (0), .int .u8 (0), .int .u8 (0), .int .u8 (0), .int .u8 (0), .int .u8 (0), .int .u8 (0), .int .u8 (0), .int .u8 (0), .int .u8 (0), .int .u8 (0), .int .u8 (0), .int .u8 (0), .int .u8 (0), .int .u8 (0), .int .u8 (0), .int .u8 (0), .int .u8 (0), .int .u8 (0), .int .u8 (0), .int .u8 (0), .int .u8 (0), .int .u8 (0), .int .u8 (0), .int .u8 (0), .int .u8 (0), .int .u8 (0), .int .u8 (0), .int .u8 (0), .int .u8 (0), .int .u8 (0), .int .u8 (0), .int .u8 (0), .int .u8 (0), .int .u8 (0), .int .u8 (0), .int .u8 (0), .int .u8 (0), .int .u8 (0), .int .u8 (0), .int .u8 (0), .int .u8 (0), .int .u8 (0), .int .u8 (0), .int .u8 (0), .int .u8 (0), .int .u8 (0), .int .u8 (0), .int .u8 (0), .int .u8 (0), .int .u8 (0), .int .u8 (0), .int .u8 (0), .int .u8 (0), .int .u8 (0), .int .u8 (0), .int .u8 (0), .int .u8 (0), .int .u8 (0), .int .u8 (0), .int .u8 (0), .int .u8 (0), .int .u8 (0), .int .u8 (0), .int .u8 (0), .int .u8 (0), .int .u8 (0), .int .u8 (0), .int .u8 (0), .int .u8 (0), .int .u8 (0), .int .u8 (0), .int .u8 (0), .int .u8 (0), .int .u8 (0), .int .u8 (0), .int .u8 (0), .int .u8 (0), .int .u8 (0), .int .u8 (0), .int .u8 (0), .int .u8 (0), .int .u8 (0), .int .u8 (0), .int .u8 (0), .int .u8 (0), .int .u8 (0), .int .u8 (0)]) false false false none true false := .of (by kernel_rfl)
theorem uq109 : Uq E 109 none none none false false true (some (256, 1, false)) := .of (by kernel_rfl)
theorem tq111 : Tq E 111 (some 2) (some true) (some [.int .u8 (0), .int .u8 (0)]) false false false none true false := .of (by kernel_rfl)
theorem uq111 : Uq E 111 none none none false false true none := .of (by kernel_rfl)
theorem tq112 : Tq E 112 (some 32) (some true) (some [.int .u8 (0), .int .u8 (0), .int .u8 (0), .int .u8 (0), .int .u8 (0), .int .u8 (0), .int .u8 (0), .int .u8 (0), .int .u8 (0), .int .u8 (0), .int .u8 (0), .int .u8 (0), .int .u8 (0), .int .u8 (0), .int .u8 (0), .int .u8 (0), .int .u8 (0), .int .u8 (0), .int .u8 (0), .int .u8 (0), .int .u8 (0), .int .u8 (0), .int .u8 (0), .int .u8 (0), .int .u8 (0), .int .u8 (0), .int .u8 (0), .int .u8 (0), .int .u8 (0), .int .u8 (0), .int .u8 (0), .int .u8 (0)]) false false false none true false := .of (by kernel_rfl)
theorem uq112 : Uq E 112 none none none false false true (some (16, 2, true)) := .of (by kernel_rfl)
theorem tq113 : Tq E 113 (some 1) (some false) (some [.int .u32 (0)]) false true false (some .u32) true false := .of (by kernel_rfl)
theorem tq116 : Tq E 116 (some 24) (some true) (some [.int .u8 (0), .int .u8 (0), .int .u8 (0), .int .u8 (0), .int .u8 (0), .int .u8 (0), .int .u8 (0), .int .u8 (0), .int .u8 (0), .int .u8 (0), .int .u8 (0), .int .u8 (0), .int .u8 (0), .int .u8 (0), .int .u8 (0), .int .u8 (0), .int .u8 (0), .int .u8 (0), .int .u8 (0), .int .u8 (0), .int .u8 (0), .int .u8 (0), .int .u8 (0), .int .u8 (0)]) false false false none true false := .of (by kernel_rfl)
theorem uq116 : Uq E 116 none none none false false true (some (24, 1, false)) := .of (by kernel_rfl)
theorem tq123 : Tq E 123 (some 20) (some true) (some [.int .u64 (0), .int .u64 (0), .int .u64 (0), .int .u64 (0), .int .u64 (0), .int .u64 (0), .int .u64 (0), .int .u64 (0), .int .u64 (0), .int .u64 (0), .int .u64 (0), .int .u64 (0), .int .u64 (0), .int .u64 (0), .int .u64 (0), .int .u64 (0), .int .u64 (0), .int .u64 (0), .int .u64 (0), .int .u64 (0)]) false false false none true false := .of (by kernel_rfl)
theorem uq123 : Uq E 123 none none none false false true (some (20, 1, false)) := .of (by kernel_rfl)
theorem tq124 : Tq E 124 (some 65) (some true) (some [.int .u8 (0), .int .u8 (0), .int .u8 (0), .int .u8 (0), .int .u8 (0), .int .u8 (0), .int .u8 (0), .int .u8 (0), .int .u8 (0), .int .u8 (0), .int .u8 (0), .int .u8 (0), .int .u8 (0), .int .u8 (0), .int .u8 (0), .int .u8 (0), .int .u8 (0), .int .u8 (0), .int .u8 (0), .int .u8 (0), .int .u8 (0), .int .u8 (0), .int .u8 (0), .int .u8 (0), .int .u8 (0), .int .u8 (0), .int .u8 (0), .int .u8 (0), .int .u8 (0), .int .u8 (0), .int .u8 (0), .int .u8 (0), .int .u8 (0), .int .u8 (0), .int .u8 (0), .int .u8 (0), .int .u8 (0), .int .u8 (0), .int .u8 (0), .int .u8 (0), .int .u8 (0), .int .u8 (0), .int .u8 (0), .int .u8 (0), .int .u8 (0), .int .u8 (0), .int .u8 (0), .int .u8 (0), .int .u8 (0), .int .u8 (0), .int .u8 (0), .int .u8 (0), .int .u8 (0), .int .u8 (0), .int .u8 (0), .int .u8 (0), .int .u8 (0), .int .u8 (0), .int .u8 (0), .int .u8 (0), .int .u8 (0), .int .u8 (0), .int .u8 (0), .int .u8 (0), .int .u8 (0)]) false false false none true false := .of (by kernel_rfl)
theorem uq124 : Uq E 124 none none none false false true (some (65, 1, false)) := .of (by kernel_rfl)
theorem tq128 : Tq E 128 (some 32) (some true) (some [.int .u8 (0), .int .u8 (0), .int .u8 (0), .int .u8 (0), .int .u8 (0), .int .u8 (0), .int .u8 (0), .int .u8 (0), .int .u8 (0), .int .u8 (0), .int .u8 (0), .int .u8 (0), .int .u8 (0), .int .u8 (0), .int .u8 (0), .int .u8 (0), .int .u8 (0), .int .u8 (0), .int .u8 (0), .int .u8 (0), .int .u8 (0), .int .u8 (0), .int .u8 (0), .int .u8 (0), .int .u8 (0), .int .u8 (0), .int .u8 (0), .int .u8 (0), .int .u8 (0), .int .u8 (0), .int .u8 (0), .int .u8 (0)]) false false false none true false := .of (by kernel_rfl)
theorem uq128 : Uq E 128 none none none false false true (some (32, 1, false)) := .of (by kernel_rfl)
theorem tq129 : Tq E 129 (some 64) (some true) (some [.int .u8 (0), .int .u8 (0), .int .u8 (0), .int .u8 (0), .int .u8 (0), .int .u8 (0), .int .u8 (0), .int .u8 (0), .int .u8 (0), .int .u8 (0), .int .u8 (0), .int .u8 (0), .int .u8 (0), .int .u8 (0), .int .u8 (0), .int .u8 (0), .int .u8 (0), .int .u8 (0), .int .u8 (0), .int .u8 (0), .int .u8 (0), .int .u8 (0), .int .u8 (0), .int .u8 (0), .int .u8 (0), .int .u8 (0), .int .u8 (0), .int .u8 (0), .int .u8 (0), .int .u8 (0), .int .u8 (0), .int .u8 (0), .int .u8 (0), .int .u8 (0), .int .u8 (0), .int .u8 (0), .int .u8 (0), .int .u8 (0), .int .u8 (0), .int .u8 (0), .int .u8 (0), .int .u8 (0), .int .u8 (0), .int .u8 (0), .int .u8 (0), .int .u8 (0), .int .u8 (0), .int .u8 (0), .int .u8 (0), .int .u8 (0), .int .u8 (0), .int .u8 (0), .int .u8 (0), .int .u8 (0), .int .u8 (0), .int .u8 (0), .int .u8 (0), .int .u8 (0), .int .u8 (0), .int .u8 (0), .int .u8 (0), .int .u8 (0), .int .u8 (0), .int .u8 (0)]) false false false none true false := .of (by kernel_rfl)
theorem uq129 : Uq E 129 none none none false false true (some (64, 1, false)) := .of (by kernel_rfl)
theorem fl26 : E.P.fldO 26 0 = some (0, 1, false) ∧ E.P.fldO 26 1 = some (1, 1, false) ∧ E.P.fldO 26 2 = some (2, 1, false) ∧ E.P.fldO 26 3 = some (3, 1, false) ∧ E.P.fldO 26 4 = some (4, 1, false) ∧ E.P.fldO 26 5 = some (5, 1, false) ∧ E.P.fldO 26 6 = some (6, 1, false) ∧ E.P.fldO 26 7 = some (7, 1, false) ∧ E.P.fldO 26 8 = some (8, 1, false) ∧ E.P.fldO 26 9 = some (9, 1, false) := by and_intros <;> kernel_rfl
theorem fl56 : E.P.fldO 56 0 = some (0, 1, false) ∧ E.P.fldO 56 1 = some (1, 10, true) ∧ E.P.fldO 56 2 = some (11, 1, false) := by and_intros <;> kernel_rfl
theorem fl67 : E.P.fldO 67 0 = some (0, 1, false) ∧ E.P.fldO 67 1 = some (1, 1, false) := by and_intros <;> kernel_rfl
theorem fl111 : E.P.fldO 111 0 = some (0, 1, false) ∧ E.P.fldO 111 1 = some (1, 1, false) := by and_intros <;> kernel_rfl
theorem pl26 : E.P.places 26 0 = some (0, 1) := by kernel_rfl
theorem pl56 : E.P.places 56 0 = some (0, 1) ∧ E.P.places 56 1 = some (1, 10) := by and_intros <;> kernel_rfl
theorem pl82 : E.P.places 82 0 = some (0, 1) ∧ E.P.places 82 1 = some (1, 1) ∧ E.P.places 82 2 = some (2, 1) ∧ E.P.places 82 3 = some (3, 1) ∧ E.P.places 82 4 = some (4, 1) ∧ E.P.places 82 5 = some (5, 1) ∧ E.P.places 82 6 = some (6, 1) ∧ E.P.places 82 7 = some (7, 1) ∧ E.P.places 82 8 = some (8, 1) ∧ E.P.places 82 9 = some (9, 1) ∧ E.P.places 82 10 = some (10, 1) ∧ E.P.places 82 11 = some (11, 1) ∧ E.P.places 82 12 = some (12, 1) ∧ E.P.places 82 13 = some (13, 1) ∧ E.P.places 82 14 = some (14, 1) ∧ E.P.places 82 15 = some (15, 1) ∧ E.P.places 82 16 = some (16, 1) ∧ E.P.places 82 17 = some (17, 1) ∧ E.P.places 82 18 = some (18, 1) ∧ E.P.places 82 19 = some (19, 1) := by and_intros <;> kernel_rfl
theorem fq3 : Fq E M 3 4294966656 [] [] [[0]] [[0]] := .of (by kernel_rfl)
theorem fq4 : Fq E M 4 1099511626624 [] [] [[0, 0, 0, 0, 0, 0, 0, 0, 0, 2]] [[0]] := .of (by kernel_rfl)
theorem fq5 : Fq E M 5 151115727451828512587776 [] [] [[0], [11]] [[0]] := .of (by kernel_rfl)
theorem fq6 : Fq E M 6 1208907228755366307119104 [] [] [[11], [0]] [[0]] := .of (by kernel_rfl)
theorem fq7 : Fq E M 7 1152921504606846752 [] [] [] [[0]] := .of (by kernel_rfl)
theorem fq8 : Fq E M 8 150965845685355163941888 [] [] [[0]] [[0, 0, 0, 0, 0, 0, 0, 0, 0, 2], [0]] := .of (by kernel_rfl)
theorem fq9 : Fq E M 9 2398508217336836654834348032 [] [] [[0]] [[0, 0, 0, 0, 0, 0, 0, 0, 0, 2], [0]] := .of (by kernel_rfl)
theorem fq10 : Fq E M 10 9444732948147104382944 [] [] [[0, 0, 0, 0, 0, 0, 0, 0, 0, 2], [0, 0, 0, 0, 0, 0, 0, 0, 0, 2]] [[0]] := .of (by kernel_rfl)
theorem fq11 : Fq E M 11 1099511625568 [] [] [[11]] [[0]] := .of (by kernel_rfl)
theorem fq12 : Fq E M 12 402653056 [] [] [[0, 0, 0, 0, 0, 0, 0, 0, 0, 2]] [[0], [0]] := .of (by kernel_rfl)
theorem fq13 : Fq E M 13 7083477666418372050432 [] [] [[0, 0, 0, 0, 0, 0, 0, 0, 0, 2]] [[0], [0]] := .of (by kernel_rfl)
theorem fq14 : Fq E M 14 4072 [] [] [[0, 0, 0, 0, 0, 0, 0, 0, 0, 2]] [[0]] := .of (by kernel_rfl)
theorem fq15 : Fq E M 15 140565555194880 [] [] [[0]] [[11], [0], [0]] := .of (by kernel_rfl)
theorem fq16 : Fq E M 16 9212104240619302912 [] [] [[0]] [[11], [0], [0]] := .of (by kernel_rfl)
theorem fq17 : Fq E M 17 266330112 [] [] [[11]] [[0], [0]] := .of (by kernel_rfl)
theorem fq18 : Fq E M 18 528480000 [] [] [[11]] [[0], [0]] := .of (by kernel_rfl)
theorem fq19 : Fq E M 19 67091392 [] [] [[11], [11]] [[0]] := .of (by kernel_rfl)
theorem fq20 : Fq E M 20 224 [] [] [[0], [0]] [[2]] := .of (by kernel_rfl)
theorem fq21 : Fq E M 21 4611498942452612736 [] [] [[0], [0]] [[0], [0], [0]] := .of (by kernel_rfl)
theorem fq22 : Fq E M 22 4575374638262511456 [1] [] [[0], [0]] [] := .of (by kernel_rfl)
theorem fq23 : Fq E M 23 137438920160 [] [] [[0]] [[2]] := .of (by kernel_rfl)
theorem fq24 : Fq E M 24 2 [] [] [] [[2]] := .of (by kernel_rfl)
theorem fq25 : Fq E M 25 2 [] [] [] [[2]] := .of (by kernel_rfl)
theorem fq26 : Fq E M 26 18870946847232033225728 [] [] [[0, 0, 0, 0, 0, 0, 0, 0, 0, 2], [0], [0]] [[0, 0, 0, 0, 0, 0, 0, 0, 0, 2], [0]] := .of (by kernel_rfl)
theorem fq27 : Fq E M 27 37640580711207508330496 [] [] [[2], [0]] [[0]] := .of (by kernel_rfl)
theorem fq28 : Fq E M 28 15344 [] [] [[0]] [[0]] := .of (by kernel_rfl)
theorem fq29 : Fq E M 29 163334206853450166811166887803480105287568 [] [] [[0, 0, 0, 0, 0, 0, 0, 0, 0, 2]] [[2]] := .of (by kernel_rfl)
theorem fq30 : Fq E M 30 151115727451828646838208 [] [] [[0, 0, 0, 0, 0, 0, 0, 0, 0, 2], [0, 0, 0, 0, 0, 0, 0, 0, 0, 2]] [[0]] := .of (by kernel_rfl)
theorem fq31 : Fq E M 31 70859056553115072 [] [] [[0, 0, 0, 0, 0, 0, 0, 0, 0, 2], [0]] [[0]] := .of (by kernel_rfl)
theorem fq32 : Fq E M 32 524224 [] [] [[0], [0]] [[0], [0]] := .of (by kernel_rfl)
theorem fq33 : Fq E M 33 16376 [] [] [[0]] [[0]] := .of (by kernel_rfl)
theorem fq34 : Fq E M 34 73786974027094380544 [] [] [[0], [0], [0], [0]] [[2]] := .of (by kernel_rfl)
theorem fq35 : Fq E M 35 571921691261663680 [1] [] [[0], [0]] [[0]] := .of (by kernel_rfl)
theorem fq36 : Fq E M 36 61408 [1] [] [[0]] [[0]] := .of (by kernel_rfl)
theorem fq37 : Fq E M 37 30656 [1] [] [[0], [0]] [[0]] := .of (by kernel_rfl)
theorem fq38 : Fq E M 38 274806996960 [] [] [[0]] [[0]] := .of (by kernel_rfl)
theorem fq39 : Fq E M 39 133955344 [] [] [[0]] [[0]] := .of (by kernel_rfl)
theorem fq40 : Fq E M 40 15728512 [1] [] [[0], [0]] [[2]] := .of (by kernel_rfl)
theorem fq41 : Fq E M 41 33553904 [1] [] [[0]] [[0]] := .of (by kernel_rfl)
theorem fq42 : Fq E M 42 25165568 [] [] [[0], [0]] [[0], [0]] := .of (by kernel_rfl)
theorem fq43 : Fq E M 43 8264132302079772311552 [] [] [[0, 0, 0, 0, 0, 0, 0, 0, 0, 2], [0], [0]] [[0, 0, 0, 0, 0, 0, 0, 0, 0, 2], [0]] := .of (by kernel_rfl)
theorem fq44 : Fq E M 44 31457136 [] [] [[0], [0]] [] := .of (by kernel_rfl)
theorem fq45 : Fq E M 45 24 [] [] [[0]] [[0]] := .of (by kernel_rfl)
theorem fq46 : Fq E M 46 262048 [] [] [[0]] [[0]] := .of (by kernel_rfl)
theorem fq47 : Fq E M 47 216 [] [] [[2]] [[0]] := .of (by kernel_rfl)
theorem fq48 : Fq E M 48 68702682872 [] [] [[0]] [[0]] := .of (by kernel_rfl)
theorem fq49 : Fq E M 49 4194112 [] [] [[0]] [[0]] := .of (by kernel_rfl)
theorem fq50 : Fq E M 50 2199023222624 [] [] [[2]] [[0]] := .of (by kernel_rfl)
theorem fq51 : Fq E M 51 524220 [] [] [[0]] [] := .of (by kernel_rfl)
theorem fq52 : Fq E M 52 1117103780003072 [] [] [[0], [0]] [[2]] := .of (by kernel_rfl)
theorem fq53 : Fq E M 53 17163058560 [] [] [[0], [0]] [[0]] := .of (by kernel_rfl)
theorem fq54 : Fq E M 54 224 [] [] [[0], [0]] [[0]] := .of (by kernel_rfl)
theorem fq55 : Fq E M 55 125828992 [1] [] [[0], [0]] [[0]] := .of (by kernel_rfl)
theorem fq56 : Fq E M 56 17147362816 [] [] [[0]] [[0], [0]] := .of (by kernel_rfl)
theorem fq57 : Fq E M 57 7920 [1] [] [[0], [0]] [] := .of (by kernel_rfl)
theorem fq58 : Fq E M 58 504 [] [] [[0]] [[0]] := .of (by kernel_rfl)
theorem fq59 : Fq E M 59 6274880 [] [] [[0]] [[2], [0]] := .of (by kernel_rfl)
theorem fq60 : Fq E M 60 8706863201686967516928 [] [] [[0]] [[0], [0]] := .of (by kernel_rfl)
theorem fq61 : Fq E M 61 266207216 [] [] [[0]] [[0]] := .of (by kernel_rfl)
theorem fq62 : Fq E M 62 134182896 [] [] [[0]] [[0]] := .of (by kernel_rfl)
theorem fq63 : Fq E M 63 134085312 [] [] [[0]] [[0], [0]] := .of (by kernel_rfl)
theorem fq64 : Fq E M 64 144114088528576320 [] [] [[0]] [[2], [0]] := .of (by kernel_rfl)
theorem fq65 : Fq E M 65 1073741792 [] [] [[0], [0]] [] := .of (by kernel_rfl)
theorem fq66 : Fq E M 66 24 [] [] [[0]] [[0]] := .of (by kernel_rfl)
theorem fq67 : Fq E M 67 4193280 [] [] [[2]] [[0]] := .of (by kernel_rfl)
theorem fq69 : Fq E M 69 936 [] [] [[0]] [[0]] := .of (by kernel_rfl)
theorem fq70 : Fq E M 70 523248 [] [] [[0]] [[0], [0]] := .of (by kernel_rfl)
theorem fq72 : Fq E M 72 10448029773009037967681152029858612457160704 [] [] [[0], [0]] [[0]] := .of (by kernel_rfl)
theorem fq73 : Fq E M 73 54042094942125824 [] [] [[0]] [[0], [0]] := .of (by kernel_rfl)
theorem fq74 : Fq E M 74 8795556146944 [] [] [[0]] [[2], [0]] := .of (by kernel_rfl)
theorem fq75 : Fq E M 75 6096 [] [] [[0]] [[0]] := .of (by kernel_rfl)
theorem fq76 : Fq E M 76 64960 [] [] [[0], [0]] [[0]] := .of (by kernel_rfl)
theorem fq78 : Fq E M 78 24 [] [] [[0]] [[0]] := .of (by kernel_rfl)
theorem fq79 : Fq E M 79 131040 [] [] [[0], [0]] [[0]] := .of (by kernel_rfl)
theorem fq80 : Fq E M 80 166153182560275531675699597790863360 [] [] [[0]] [[0], [0]] := .of (by kernel_rfl)
theorem fq81 : Fq E M 81 224 [] [] [[0], [0]] [[0]] := .of (by kernel_rfl)
theorem fq83 : Fq E M 83 56 [] [] [[0]] [[0]] := .of (by kernel_rfl)
theorem fq84 : Fq E M 84 2266735911759287759665152 [] [] [[0], [0]] [[0]] := .of (by kernel_rfl)
theorem fq85 : Fq E M 85 1984 [] [] [[0], [0]] [[0], [0]] := .of (by kernel_rfl)
theorem fq86 : Fq E M 86 224 [] [] [[0], [0]] [[0]] := .of (by kernel_rfl)
theorem fq87 : Fq E M 87 18014381321090304 [] [] [[0], [0]] [[0]] := .of (by kernel_rfl)
theorem fq89 : Fq E M 89 548648513024 [] [] [[0]] [[0], [0]] := .of (by kernel_rfl)
theorem fq90 : Fq E M 90 32192 [] [] [[0], [0]] [[0], [0]] := .of (by kernel_rfl)
theorem fq91 : Fq E M 91 32744 [] [] [[0]] [[0]] := .of (by kernel_rfl)
theorem fq92 : Fq E M 92 32752 [] [] [[0]] [[0]] := .of (by kernel_rfl)
theorem fq93 : Fq E M 93 184149205606795480238948490449146349755637850570752 [] [] [[2], [0]] [] := .of (by kernel_rfl)
theorem fq94 : Fq E M 94 5050176389969560855884357697536 [] [] [[2], [0], [0], [0], [0]] [[2], [0]] := .of (by kernel_rfl)
theorem fq95 : Fq E M 95 262112 [] [] [[0], [0]] [[0]] := .of (by kernel_rfl)
theorem fq96 : Fq E M 96 56 [] [] [[0]] [[0]] := .of (by kernel_rfl)
theorem fq97 : Fq E M 97 33537768 [] [] [[0]] [[0]] := .of (by kernel_rfl)
theorem fq98 : Fq E M 98 0 [] [] [[0]] [[0]] := .of (by kernel_rfl)
theorem fq99 : Fq E M 99 248 [] [] [[0]] [[0]] := .of (by kernel_rfl)
theorem fq100 : Fq E M 100 248 [] [] [[0]] [[0]] := .of (by kernel_rfl)
theorem fq101 : Fq E M 101 16360 [] [] [[0]] [[0]] := .of (by kernel_rfl)
theorem fq102 : Fq E M 102 16360 [] [] [[0]] [[0]] := .of (by kernel_rfl)
attribute [go_sem] tq2 tq3 tq4 tq5 tq9 tq21 tq23 tq24 uq24 tq26 uq26 tq27 tq33 tq35 uq35 tq50 uq50 tq54 uq54 tq56 uq56 tq65 uq65 tq67 uq67 tq82 uq82 tq85 uq85 tq96 tq102 tq109 uq109 tq111 uq111 tq112 uq112 tq113 tq116 uq116 tq123 uq123 tq124 uq124 tq128 uq128 tq129 uq129 fl26 fl56 fl67 fl111 pl26 pl56 pl82 fq3 fq4 fq5 fq6 fq7 fq8 fq9 fq10 fq11 fq12 fq13 fq14 fq15 fq16 fq17 fq18 fq19 fq20 fq21 fq22 fq23 fq24 fq25 fq26 fq27 fq28 fq29 fq30 fq31 fq32 fq33 fq34 fq35 fq36 fq37 fq38 fq39 fq40 fq41 fq42 fq43 fq44 fq45 fq46 fq47 fq48 fq49 fq50 fq51 fq52 fq53 fq54 fq55 fq56 fq57 fq58 fq59 fq60 fq61 fq62 fq63 fq64 fq65 fq66 fq67 fq69 fq70 fq72 fq73 fq74 fq75 fq76 fq78 fq79 fq80 fq81 fq83 fq84 fq85 fq86 fq87 fq89 fq90 fq91 fq92 fq93 fq94 fq95 fq96 fq97 fq98 fq99 fq100 fq101 fq102
end Go.Proofs.YtbnlbdhepbbaoaaDoor
