import Derived.Test.YtclgfgnhcakhdaaGreatDoorProg
import Derived.Test.YtclgfgnhcakhdaaGreatDoorFc
namespace Go.Proofs.YtclgfgnhcakhdaaGreatDoor
open Go.Am
set_option maxRecDepth 100000
def parM : FuncId → List Nat
  | 10 => [1]
  | 33 => [1]
  | 65 => [1]
  | 87 => [1]
  | 88 => [1]
  | 89 => [1]
  | 92 => [1]
  | 93 => [1]
  | 114 => [1]
  | 115 => [1]
  | _ => []
def resM : FuncId → List Nat
  | 8 => [1]
  | 37 => [1]
  | 56 => [1]
  | _ => []
def locM : FuncId → Nat
  | 3 => 4835702125536737180508672
  | 4 => 10631223222616633742084610791344963584
  | 5 => 20769187434138720218311592243052544
  | 6 => 1099511625568
  | 7 => 576460752303423456
  | 8 => 120
  | 9 => 7083477666418372050432
  | 10 => 1099511362560
  | 11 => 1152921367134322688
  | 12 => 33536960
  | 13 => 1000
  | 14 => 2024
  | 15 => 2199023222624
  | 16 => 261040
  | 17 => 2212456367340538208256
  | 18 => 158301431407890533223294298240
  | 19 => 1125898832594944
  | 20 => 1125897759220736
  | 21 => 67091392
  | 22 => 4260607307776
  | 23 => 131940321523712
  | 24 => 4072
  | 25 => 248
  | 26 => 2
  | 27 => 2
  | 28 => 70859056553115072
  | 29 => 2398508217336836654834348032
  | 30 => 9444732948147104382944
  | 31 => 402653056
  | 32 => 992
  | 33 => 2097120
  | 34 => 120
  | 35 => 68702682872
  | 36 => 4064
  | 37 => 232
  | 38 => 216
  | 39 => 68315766464
  | 40 => 8064
  | 41 => 54042094942125824
  | 42 => 17147362816
  | 43 => 150965845685355163941888
  | 44 => 134085312
  | 45 => 8706863201686967516928
  | 46 => 4503569561550336
  | 47 => 4194112
  | 48 => 137438920160
  | 49 => 18870946847232033225728
  | 50 => 37640580711207508330496
  | 51 => 15344
  | 52 => 163334206853450166811166887803480105287568
  | 53 => 151115727451828646838208
  | 54 => 24
  | 55 => 992
  | 56 => 1152921503532580608
  | 57 => 4193280
  | 58 => 392128
  | 59 => 116056878678360063387627520
  | 60 => 8384256
  | 61 => 1984
  | 62 => 8795556146944
  | 63 => 224
  | 64 => 4611498942452612736
  | 65 => 4575374638262511456
  | 66 => 6096
  | 67 => 68215103488
  | 68 => 1073676096
  | 69 => 2
  | 70 => 2595197691317242642214125633929216
  | 71 => 25165568
  | 72 => 8264132302079772311552
  | 73 => 31457136
  | 74 => 524224
  | 75 => 16376
  | 76 => 262048
  | 77 => 24
  | 78 => 68702633792
  | 79 => 2
  | 80 => 215679573337205118357336120696151728477114015716832964620587687215104
  | 81 => 131040
  | 82 => 1097297026560
  | 83 => 10448029773009037967681152029858612457160704
  | 84 => 32192
  | 85 => 224
  | 86 => 73786974027094380544
  | 87 => 571921691261663680
  | 88 => 61408
  | 89 => 30656
  | 90 => 274806996960
  | 91 => 133955344
  | 92 => 15728512
  | 93 => 33553904
  | 94 => 134152096
  | 95 => 38685626227650541404552192
  | 96 => 480
  | 97 => 266207216
  | 98 => 134182896
  | 99 => 144114088528576320
  | 100 => 524220
  | 101 => 1073741792
  | 102 => 24
  | 103 => 33554424
  | 104 => 8160
  | 105 => 2
  | 106 => 224
  | 108 => 56
  | 109 => 2266735911759287759665152
  | 110 => 262112
  | 111 => 1117103780003072
  | 112 => 17163058560
  | 113 => 224
  | 114 => 125828992
  | 115 => 7920
  | 116 => 504
  | 117 => 6274880
  | 118 => 131008
  | 119 => 64960
  | 122 => 18014381321090304
  | 124 => 548648513024
  | 125 => 936
  | 126 => 523248
  | 128 => 32744
  | 129 => 32752
  | 130 => 184149205606795480238948490449146349755637850570752
  | 131 => 5050176389969560855884357697536
  | 132 => 166153182560275531675699597790863360
  | 133 => 56
  | 134 => 33537768
  | 136 => 248
  | 137 => 248
  | 138 => 16360
  | 139 => 16360
  | _ => 0
def tabL5 : List Int := [0, 1, 28, 2, 29, 14, 24, 3, 30, 22, 20, 15, 25, 17, 4, 8, 31, 27, 13, 23, 21, 19, 16, 7, 26, 12, 18, 6, 11, 5, 10, 9]
def tabL6 : List Int := [0, 1, 56, 2, 57, 49, 28, 3, 61, 58, 42, 50, 38, 29, 17, 4, 62, 47, 59, 36, 45, 43, 51, 22, 53, 39, 33, 30, 24, 18, 12, 5, 63, 55, 48, 27, 60, 41, 37, 16, 46, 35, 44, 21, 52, 32, 23, 11, 54, 26, 40, 15, 34, 20, 31, 10, 25, 14, 19, 9, 13, 8, 7, 6]
def tabL2 : List Int := [1, 10, 100, 1000, 10000, 100000, 1000000, 10000000, 100000000, 1000000000, 10000000000, 100000000000, 1000000000000, 10000000000000, 100000000000000, 1000000000000000, 10000000000000000, 100000000000000000, 1000000000000000000, 10000000000000000000]
def tabL1 : List Int := [1116352408, 1899447441, 3049323471, 3921009573, 961987163, 1508970993, 2453635748, 2870763221, 3624381080, 310598401, 607225278, 1426881987, 1925078388, 2162078206, 2614888103, 3248222580, 3835390401, 4022224774, 264347078, 604807628, 770255983, 1249150122, 1555081692, 1996064986, 2554220882, 2821834349, 2952996808, 3210313671, 3336571891, 3584528711, 113926993, 338241895, 666307205, 773529912, 1294757372, 1396182291, 1695183700, 1986661051, 2177026350, 2456956037, 2730485921, 2820302411, 3259730800, 3345764771, 3516065817, 3600352804, 4094571909, 275423344, 430227734, 506948616, 659060556, 883997877, 958139571, 1322822218, 1537002063, 1747873779, 1955562222, 2024104815, 2227730452, 2361852424, 2428436474, 2756734187, 3204031479, 3329325298]
def tabs : Tabs := [(5, "math/bits.deBruijn32tab", .u8, tabL5), (6, "math/bits.deBruijn64tab", .u8, tabL6), (2, "internal/strconv.uint64pow10", .u64, tabL2), (1, "carcanet/digest.constants", .u32, tabL1)]
noncomputable def E : Env := ⟨Tryz.prog, gammaJ [0] tabs⟩
def nlM : FuncId → List (Nat × Nat)
  | 5 => [(8, 10)]
  | 10 => [(27, 7)]
  | 11 => [(9, 1)]
  | 19 => [(5, 10), (6, 1)]
  | 20 => [(5, 10), (6, 1)]
  | _ => []
def inlsM : List (FuncId × Nat) := []
noncomputable def M : Mds := ⟨parM, resM, locM, nlM, [], inlsM, 0, none⟩
@[go_sem] theorem M_cur : M.cur = [] := Eq.trans rfl rfl
@[go_sem] theorem M_inls : M.inls = [] := Eq.trans rfl rfl
@[go_sem] theorem M_base : M.base = 0 := Eq.trans rfl rfl
@[go_sem] theorem M_gh : M.gh = none := Eq.trans rfl rfl
@[go_sem] theorem nl5 : M.nl 5 = [(8, 10)] := Eq.trans rfl rfl
@[go_sem] theorem nl10 : M.nl 10 = [(27, 7)] := Eq.trans rfl rfl
@[go_sem] theorem nl11 : M.nl 11 = [(9, 1)] := Eq.trans rfl rfl
@[go_sem] theorem nl19 : M.nl 19 = [(5, 10), (6, 1)] := Eq.trans rfl rfl
@[go_sem] theorem nl20 : M.nl 20 = [(5, 10), (6, 1)] := Eq.trans rfl rfl
noncomputable def C0 : Cf := ⟨E, M, fun _ => none⟩
@[go_sem] theorem C0_E : C0.E = E := rfl
@[go_sem] theorem C0_M : C0.M = M := rfl
theorem mixed : E.P.follows .mixedOrders = true := by kernel_rfl
@[go_sem] theorem ev_g5 (f) : ev E.Γ f (.global 5) = .iptr (tabV .u8 tabL5) := rfl
@[go_sem] theorem ev_g6 (f) : ev E.Γ f (.global 6) = .iptr (tabV .u8 tabL6) := rfl
@[go_sem] theorem ev_g2 (f) : ev E.Γ f (.global 2) = .iptr (tabV .u64 tabL2) := rfl
@[go_sem] theorem ev_g1 (f) : ev E.Γ f (.global 1) = .iptr (tabV .u32 tabL1) := rfl
theorem tq3 : Tq E 3 (some 1) (some false) (some [.int .i64 (0)]) false true false (some .i64) true false := .of (by kernel_rfl)
theorem tq5 : Tq E 5 (some 1) (some false) (some [.int .u8 (0)]) false true false (some .u8) true false := .of (by kernel_rfl)
theorem tq9 : Tq E 9 (some 1) (some false) (some [.str []]) true false false none true false := .of (by kernel_rfl)
theorem uq22 : Uq E 22 (some 10) (some 112) (some [.int .i64 (0), .int .i64 (0), .int .i64 (0), .int .i64 (0), .int .i64 (0), .int .i64 (0), .int .u64 (0), .str [], .str [], .sc (.slice none 0 0)]) false false false none := .of (by kernel_rfl)
theorem uq23 : Uq E 23 (some 1) (some 8) (some [.int .i64 (0)]) false false false none := .of (by kernel_rfl)
theorem uq26 : Uq E 26 none none none false true false none := .of (by kernel_rfl)
theorem tq30 : Tq E 30 (some 1) (some false) (some [.int .u64 (0)]) false true false (some .u64) true false := .of (by kernel_rfl)
theorem tq31 : Tq E 31 (some 1) (some false) (some [.sc (.slice none 0 0)]) false false false none true false := .of (by kernel_rfl)
theorem uq31 : Uq E 31 (some 1) (some 1) (some [.int .u8 (0)]) true false false none := .of (by kernel_rfl)
theorem tq33 : Tq E 33 (some 10) (some true) (some [.int .i64 (0), .int .i64 (0), .int .i64 (0), .int .i64 (0), .int .i64 (0), .int .i64 (0), .int .u64 (0), .str [], .str [], .sc (.slice none 0 0)]) false false false none true false := .of (by kernel_rfl)
theorem uq33 : Uq E 33 none none none false false true none := .of (by kernel_rfl)
theorem tq34 : Tq E 34 (some 1) (some false) (some [.int .i64 (0)]) false true false (some .i64) true false := .of (by kernel_rfl)
theorem tq36 : Tq E 36 (some 1) (some false) (some [.sc (.slice none 0 0)]) false false false none true false := .of (by kernel_rfl)
theorem uq36 : Uq E 36 (some 1) (some 16) (some [.str []]) false false false none := .of (by kernel_rfl)
theorem tq59 : Tq E 59 (some 1) (some true) (some [.sc (.slice none 0 0)]) false false false none true false := .of (by kernel_rfl)
theorem uq59 : Uq E 59 none none none false false true none := .of (by kernel_rfl)
theorem tq62 : Tq E 62 (some 2) (some true) (some [.sc (.slice none 0 0), .sc (.slice none 0 0)]) false false false none true false := .of (by kernel_rfl)
theorem uq62 : Uq E 62 none none none false false true none := .of (by kernel_rfl)
theorem tq97 : Tq E 97 (some 1) (some false) (some [.int .u64 (0)]) false true false (some .u64) true false := .of (by kernel_rfl)
theorem tq103 : Tq E 103 (some 12) (some true) (some [.sc (.slice none 0 0), .int .i64 (0), .int .i64 (0), .int .i64 (0), .int .i64 (0), .int .i64 (0), .int .i64 (0), .int .u64 (0), .str [], .str [], .sc (.slice none 0 0), .int .i64 (0)]) false false false none true false := .of (by kernel_rfl)
theorem uq103 : Uq E 103 none none none false false true none := .of (by kernel_rfl)
theorem tq108 : Tq E 108 (some 1) (some false) (some [.int .u32 (0)]) false true false (some .u32) true false := .of (by kernel_rfl)
theorem tq109 : Tq E 109 (some 8) (some true) (some [.int .u32 (0), .int .u32 (0), .int .u32 (0), .int .u32 (0), .int .u32 (0), .int .u32 (0), .int .u32 (0), .int .u32 (0)]) false false false none true false := .of (by kernel_rfl)
theorem uq109 : Uq E 109 none none none false false true (some (8, 1, false)) := .of (by kernel_rfl)
theorem tq112 : Tq E 112 (some 64) (some true) (some [.int .u8 (0), .int .u8 (0), .int .u8 (0), .int .u8 (0), .int .u8 (0), .int .u8 (0), .int .u8 (0), .int .u8 (0), .int .u8 (0), .int .u8 (0), .int .u8 (0), .int .u8 (0), .int .u8 (0), .int .u8 (0), .int .u8 (0), .int .u8 (0), .int .u8 (0), .int .u8 (0), .int .u8 (0), .int .u8 (0), .int .u8 (0), .int .u8 (0), .int .u8 (0), .int .u8 (0), .int .u8 (0), .int .u8 (0), .int .u8 (0), .int .u8 (0), .int .u8 (0), .int .u8 (0), .int .u8 (0), .int .u8 (0), .int .u8 (0), .int .u8 (0), .int .u8 (0), .int .u8 (0), .int .u8 (0), .int .u8 (0), .int .u8 (0), .int .u8 (0), .int .u8 (0), .int .u8 (0), .int .u8 (0), .int .u8 (0), .int .u8 (0), .int .u8 (0), .int .u8 (0), .int .u8 (0), .int .u8 (0), .int .u8 (0), .int .u8 (0), .int .u8 (0), .int .u8 (0), .int .u8 (0), .int .u8 (0), .int .u8 (0), .int .u8 (0), .int .u8 (0), .int .u8 (0), .int .u8 (0), .int .u8 (0), .int .u8 (0), .int .u8 (0), .int .u8 (0)]) false false false none true false := .of (by kernel_rfl)
theorem uq112 : Uq E 112 none none none false false true (some (64, 1, false)) := .of (by kernel_rfl)
theorem tq123 : Tq E 123 (some 20) (some true) (some [.str [], .str [], .str [], .str [], .str [], .str [], .str [], .str [], .str [], .str [], .str [], .str [], .str [], .str [], .str [], .str [], .str [], .str [], .str [], .str []]) false false false none true false := .of (by kernel_rfl)
theorem uq123 : Uq E 123 none none none false false true (some (20, 1, false)) := .of (by kernel_rfl)
theorem tq124 : Tq E 124 (some 1) (some false) (some [.sc (.slice none 0 0)]) false false false none true false := .of (by kernel_rfl)
theorem uq124 : Uq E 124 (some 1) (some 4) (some [.int .u32 (0)]) false false false none := .of (by kernel_rfl)
theorem uq136 : Uq E 136 (some 1) (some 24) (some [.sc (.slice none 0 0)]) false false false none := .of (by kernel_rfl)
theorem tq138 : Tq E 138 (some 64) (some true) (some [.int .u32 (0), .int .u32 (0), .int .u32 (0), .int .u32 (0), .int .u32 (0), .int .u32 (0), .int .u32 (0), .int .u32 (0), .int .u32 (0), .int .u32 (0), .int .u32 (0), .int .u32 (0), .int .u32 (0), .int .u32 (0), .int .u32 (0), .int .u32 (0), .int .u32 (0), .int .u32 (0), .int .u32 (0), .int .u32 (0), .int .u32 (0), .int .u32 (0), .int .u32 (0), .int .u32 (0), .int .u32 (0), .int .u32 (0), .int .u32 (0), .int .u32 (0), .int .u32 (0), .int .u32 (0), .int .u32 (0), .int .u32 (0), .int .u32 (0), .int .u32 (0), .int .u32 (0), .int .u32 (0), .int .u32 (0), .int .u32 (0), .int .u32 (0), .int .u32 (0), .int .u32 (0), .int .u32 (0), .int .u32 (0), .int .u32 (0), .int .u32 (0), .int .u32 (0), .int .u32 (0), .int .u32 (0), .int .u32 (0), .int .u32 (0), .int .u32 (0), .int .u32 (0), .int .u32 (0), .int .u32 (0), .int .u32 (0), .int .u32 (0), .int .u32 (0), .int .u32 (0), .int .u32 (0), .int .u32 (0), .int .u32 (0), .int .u32 (0), .int .u32 (0), .int .u32 (0)]) false false false none true false := .of (by kernel_rfl)
theorem uq138 : Uq E 138 none none none false false true (some (64, 1, false)) := .of (by kernel_rfl)
theorem fl33 : E.P.fldO 33 0 = some (0, 1, false) ∧ E.P.fldO 33 1 = some (1, 1, false) ∧ E.P.fldO 33 2 = some (2, 1, false) ∧ E.P.fldO 33 3 = some (3, 1, false) ∧ E.P.fldO 33 4 = some (4, 1, false) ∧ E.P.fldO 33 5 = some (5, 1, false) ∧ E.P.fldO 33 6 = some (6, 1, false) ∧ E.P.fldO 33 7 = some (7, 1, false) ∧ E.P.fldO 33 8 = some (8, 1, false) ∧ E.P.fldO 33 9 = some (9, 1, false) := by and_intros <;> kernel_rfl
theorem fl59 : E.P.fldO 59 0 = some (0, 1, false) := by kernel_rfl
theorem fl62 : E.P.fldO 62 0 = some (0, 1, true) ∧ E.P.fldO 62 1 = some (1, 1, false) := by and_intros <;> kernel_rfl
theorem fl103 : E.P.fldO 103 0 = some (0, 1, false) ∧ E.P.fldO 103 1 = some (1, 10, true) ∧ E.P.fldO 103 2 = some (11, 1, false) := by and_intros <;> kernel_rfl
theorem pl33 : E.P.places 33 0 = some (0, 1) := by kernel_rfl
theorem pl59 : E.P.places 59 0 = some (0, 1) := by kernel_rfl
theorem pl62 : E.P.places 62 0 = some (0, 1) := by kernel_rfl
theorem pl103 : E.P.places 103 0 = some (0, 1) ∧ E.P.places 103 1 = some (1, 10) := by and_intros <;> kernel_rfl
theorem pl109 : E.P.places 109 0 = some (0, 1) ∧ E.P.places 109 1 = some (1, 1) ∧ E.P.places 109 2 = some (2, 1) ∧ E.P.places 109 3 = some (3, 1) ∧ E.P.places 109 4 = some (4, 1) ∧ E.P.places 109 5 = some (5, 1) ∧ E.P.places 109 6 = some (6, 1) ∧ E.P.places 109 7 = some (7, 1) := by and_intros <;> kernel_rfl
theorem pl123 : E.P.places 123 0 = some (0, 1) ∧ E.P.places 123 1 = some (1, 1) ∧ E.P.places 123 2 = some (2, 1) ∧ E.P.places 123 3 = some (3, 1) ∧ E.P.places 123 4 = some (4, 1) ∧ E.P.places 123 5 = some (5, 1) ∧ E.P.places 123 6 = some (6, 1) ∧ E.P.places 123 7 = some (7, 1) ∧ E.P.places 123 8 = some (8, 1) ∧ E.P.places 123 9 = some (9, 1) ∧ E.P.places 123 10 = some (10, 1) ∧ E.P.places 123 11 = some (11, 1) ∧ E.P.places 123 12 = some (12, 1) ∧ E.P.places 123 13 = some (13, 1) ∧ E.P.places 123 14 = some (14, 1) ∧ E.P.places 123 15 = some (15, 1) ∧ E.P.places 123 16 = some (16, 1) ∧ E.P.places 123 17 = some (17, 1) ∧ E.P.places 123 18 = some (18, 1) ∧ E.P.places 123 19 = some (19, 1) := by and_intros <;> kernel_rfl
theorem fq3 : Fq E M 3 4835702125536737180508672 [] [] [[0], [11], [2]] [[0]] := .of (by kernel_rfl)
theorem fq6 : Fq E M 6 1099511625568 [] [] [[11]] [[0]] := .of (by kernel_rfl)
theorem fq7 : Fq E M 7 576460752303423456 [] [] [] [[0]] := .of (by kernel_rfl)
theorem fq8 : Fq E M 8 120 [] [1] [[0]] [[0]] := .of (by kernel_rfl)
theorem fq9 : Fq E M 9 7083477666418372050432 [] [] [[0, 0, 0, 0, 0, 0, 0, 0, 0, 2]] [[0], [0]] := .of (by kernel_rfl)
theorem fq10 : Fq E M 10 1099511362560 [1] [] [[0], [0, 0, 0, 0, 0, 0, 0, 0, 0, 2], [0]] [[0]] := .of (by kernel_rfl)
theorem fq11 : Fq E M 11 1152921367134322688 [] [] [[0], [11], [2]] [[2], [2]] := .of (by kernel_rfl)
theorem fq12 : Fq E M 12 33536960 [] [] [[2], [2]] [[0]] := .of (by kernel_rfl)
theorem fq13 : Fq E M 13 1000 [] [] [[0]] [[2]] := .of (by kernel_rfl)
theorem fq14 : Fq E M 14 2024 [] [] [[0]] [[0]] := .of (by kernel_rfl)
theorem fq15 : Fq E M 15 2199023222624 [] [] [[2]] [[0]] := .of (by kernel_rfl)
theorem fq17 : Fq E M 17 2212456367340538208256 [] [] [[0]] [[0], [0], [0], [0]] := .of (by kernel_rfl)
theorem fq22 : Fq E M 22 4260607307776 [] [] [[0], [2]] [[0]] := .of (by kernel_rfl)
theorem fq25 : Fq E M 25 248 [] [] [[0]] [[2]] := .of (by kernel_rfl)
theorem fq26 : Fq E M 26 2 [] [] [] [[2]] := .of (by kernel_rfl)
theorem fq27 : Fq E M 27 2 [] [] [] [[2]] := .of (by kernel_rfl)
theorem fq28 : Fq E M 28 70859056553115072 [] [] [[0, 0, 0, 0, 0, 0, 0, 0, 0, 2], [0]] [[0]] := .of (by kernel_rfl)
theorem fq29 : Fq E M 29 2398508217336836654834348032 [] [] [[0]] [[0, 0, 0, 0, 0, 0, 0, 0, 0, 2], [0]] := .of (by kernel_rfl)
theorem fq30 : Fq E M 30 9444732948147104382944 [] [] [[0, 0, 0, 0, 0, 0, 0, 0, 0, 2], [0, 0, 0, 0, 0, 0, 0, 0, 0, 2]] [[0]] := .of (by kernel_rfl)
theorem fq31 : Fq E M 31 402653056 [] [] [[0, 0, 0, 0, 0, 0, 0, 0, 0, 2]] [[0], [0]] := .of (by kernel_rfl)
theorem fq32 : Fq E M 32 992 [] [] [[0], [0]] [[0]] := .of (by kernel_rfl)
theorem fq33 : Fq E M 33 2097120 [1] [] [[0], [0]] [[0]] := .of (by kernel_rfl)
theorem fq34 : Fq E M 34 120 [] [] [[0]] [[2]] := .of (by kernel_rfl)
theorem fq35 : Fq E M 35 68702682872 [] [] [[0]] [[0]] := .of (by kernel_rfl)
theorem fq36 : Fq E M 36 4064 [] [] [[2], [0]] [[2]] := .of (by kernel_rfl)
theorem fq37 : Fq E M 37 232 [] [1] [[2]] [[2]] := .of (by kernel_rfl)
theorem fq38 : Fq E M 38 216 [] [] [[2]] [[0]] := .of (by kernel_rfl)
theorem fq39 : Fq E M 39 68315766464 [] [] [[0], [0]] [[0]] := .of (by kernel_rfl)
theorem fq40 : Fq E M 40 8064 [] [] [[0], [0]] [[0], [0], [0]] := .of (by kernel_rfl)
theorem fq41 : Fq E M 41 54042094942125824 [] [] [[0]] [[0], [0]] := .of (by kernel_rfl)
theorem fq42 : Fq E M 42 17147362816 [] [] [[0]] [[0], [0]] := .of (by kernel_rfl)
theorem fq43 : Fq E M 43 150965845685355163941888 [] [] [[0]] [[0, 0, 0, 0, 0, 0, 0, 0, 0, 2], [0]] := .of (by kernel_rfl)
theorem fq44 : Fq E M 44 134085312 [] [] [[0]] [[0], [0]] := .of (by kernel_rfl)
theorem fq45 : Fq E M 45 8706863201686967516928 [] [] [[0]] [[0], [0]] := .of (by kernel_rfl)
theorem fq46 : Fq E M 46 4503569561550336 [] [] [[2]] [[2]] := .of (by kernel_rfl)
theorem fq47 : Fq E M 47 4194112 [] [] [[0]] [[0]] := .of (by kernel_rfl)
theorem fq48 : Fq E M 48 137438920160 [] [] [[0]] [[2]] := .of (by kernel_rfl)
theorem fq49 : Fq E M 49 18870946847232033225728 [] [] [[0, 0, 0, 0, 0, 0, 0, 0, 0, 2], [0], [0]] [[0, 0, 0, 0, 0, 0, 0, 0, 0, 2], [0]] := .of (by kernel_rfl)
theorem fq50 : Fq E M 50 37640580711207508330496 [] [] [[2], [0]] [[0]] := .of (by kernel_rfl)
theorem fq51 : Fq E M 51 15344 [] [] [[0]] [[0]] := .of (by kernel_rfl)
theorem fq52 : Fq E M 52 163334206853450166811166887803480105287568 [] [] [[0, 0, 0, 0, 0, 0, 0, 0, 0, 2]] [[2]] := .of (by kernel_rfl)
theorem fq53 : Fq E M 53 151115727451828646838208 [] [] [[0, 0, 0, 0, 0, 0, 0, 0, 0, 2], [0, 0, 0, 0, 0, 0, 0, 0, 0, 2]] [[0]] := .of (by kernel_rfl)
theorem fq54 : Fq E M 54 24 [] [] [[0]] [[0]] := .of (by kernel_rfl)
theorem fq55 : Fq E M 55 992 [] [] [[2], [2]] [[2]] := .of (by kernel_rfl)
theorem fq56 : Fq E M 56 1152921503532580608 [] [1] [[2]] [[2]] := .of (by kernel_rfl)
theorem fq57 : Fq E M 57 4193280 [] [] [[2]] [[0]] := .of (by kernel_rfl)
theorem fq61 : Fq E M 61 1984 [] [] [[0], [0]] [[0], [0]] := .of (by kernel_rfl)
theorem fq62 : Fq E M 62 8795556146944 [] [] [[0]] [[2], [0]] := .of (by kernel_rfl)
theorem fq63 : Fq E M 63 224 [] [] [[0], [0]] [[2]] := .of (by kernel_rfl)
theorem fq64 : Fq E M 64 4611498942452612736 [] [] [[0], [0]] [[0], [0], [0]] := .of (by kernel_rfl)
theorem fq65 : Fq E M 65 4575374638262511456 [1] [] [[0], [0]] [] := .of (by kernel_rfl)
theorem fq66 : Fq E M 66 6096 [] [] [[0]] [[0]] := .of (by kernel_rfl)
theorem fq67 : Fq E M 67 68215103488 [] [] [[2]] [[2]] := .of (by kernel_rfl)
theorem fq68 : Fq E M 68 1073676096 [] [] [[0]] [[2]] := .of (by kernel_rfl)
theorem fq69 : Fq E M 69 2 [] [] [] [[0, 0, 0, 0, 0, 0, 0, 0]] := .of (by kernel_rfl)
theorem fq70 : Fq E M 70 2595197691317242642214125633929216 [] [] [[0, 0, 0, 0, 0, 0, 0, 0], [0, 0, 0, 0, 0, 0, 0, 0, 0, 0, 0, 0, 0, 0, 0, 0, 0, 0, 0, 0, 0, 0, 0, 0, 0, 0, 0, 0, 0, 0, 0, 0, 0, 0, 0, 0, 0, 0, 0, 0, 0, 0, 0, 0, 0, 0, 0, 0, 0, 0, 0, 0, 0, 0, 0, 0, 0, 0, 0, 0, 0, 0, 0, 0]] [[0, 0, 0, 0, 0, 0, 0, 0]] := .of (by kernel_rfl)
theorem fq71 : Fq E M 71 25165568 [] [] [[0], [0]] [[0], [0]] := .of (by kernel_rfl)
theorem fq72 : Fq E M 72 8264132302079772311552 [] [] [[0, 0, 0, 0, 0, 0, 0, 0, 0, 2], [0], [0]] [[0, 0, 0, 0, 0, 0, 0, 0, 0, 2], [0]] := .of (by kernel_rfl)
theorem fq76 : Fq E M 76 262048 [] [] [[0]] [[0]] := .of (by kernel_rfl)
theorem fq77 : Fq E M 77 24 [] [] [[0]] [[0]] := .of (by kernel_rfl)
theorem fq78 : Fq E M 78 68702633792 [] [] [[0]] [[2]] := .of (by kernel_rfl)
theorem fq79 : Fq E M 79 2 [] [] [] [[2]] := .of (by kernel_rfl)
theorem fq80 : Fq E M 80 215679573337205118357336120696151728477114015716832964620587687215104 [] [] [[2], [2]] [[2]] := .of (by kernel_rfl)
theorem fq85 : Fq E M 85 224 [] [] [[0], [0]] [[0]] := .of (by kernel_rfl)
theorem fq87 : Fq E M 87 571921691261663680 [1] [] [[0], [0]] [[0]] := .of (by kernel_rfl)
theorem fq88 : Fq E M 88 61408 [1] [] [[0]] [[0]] := .of (by kernel_rfl)
theorem fq89 : Fq E M 89 30656 [1] [] [[0], [0]] [[0]] := .of (by kernel_rfl)
theorem fq90 : Fq E M 90 274806996960 [] [] [[0]] [[0]] := .of (by kernel_rfl)
theorem fq91 : Fq E M 91 133955344 [] [] [[0]] [[0]] := .of (by kernel_rfl)
theorem fq92 : Fq E M 92 15728512 [1] [] [[0], [0]] [[2]] := .of (by kernel_rfl)
theorem fq93 : Fq E M 93 33553904 [1] [] [[0]] [[0]] := .of (by kernel_rfl)
theorem fq95 : Fq E M 95 38685626227650541404552192 [] [] [[0, 0, 0, 0, 0, 0, 0, 0, 0, 0, 0, 0, 0, 0, 0, 0, 0, 0, 0, 0, 0, 0, 0, 0, 0, 0, 0, 0, 0, 0, 0, 0, 0, 0, 0, 0, 0, 0, 0, 0, 0, 0, 0, 0, 0, 0, 0, 0, 0, 0, 0, 0, 0, 0, 0, 0, 0, 0, 0, 0, 0, 0, 0, 0]] [[0, 0, 0, 0, 0, 0, 0, 0, 0, 0, 0, 0, 0, 0, 0, 0, 0, 0, 0, 0, 0, 0, 0, 0, 0, 0, 0, 0, 0, 0, 0, 0, 0, 0, 0, 0, 0, 0, 0, 0, 0, 0, 0, 0, 0, 0, 0, 0, 0, 0, 0, 0, 0, 0, 0, 0, 0, 0, 0, 0, 0, 0, 0, 0]] := .of (by kernel_rfl)
theorem fq96 : Fq E M 96 480 [] [] [[0], [0]] [[0]] := .of (by kernel_rfl)
theorem fq97 : Fq E M 97 266207216 [] [] [[0]] [[0]] := .of (by kernel_rfl)
theorem fq98 : Fq E M 98 134182896 [] [] [[0]] [[0]] := .of (by kernel_rfl)
theorem fq99 : Fq E M 99 144114088528576320 [] [] [[0]] [[2], [0]] := .of (by kernel_rfl)
theorem fq103 : Fq E M 103 33554424 [] [] [[2]] [[0]] := .of (by kernel_rfl)
theorem fq104 : Fq E M 104 8160 [] [] [[0], [0]] [[0]] := .of (by kernel_rfl)
theorem fq105 : Fq E M 105 2 [] [] [] [[2]] := .of (by kernel_rfl)
theorem fq114 : Fq E M 114 125828992 [1] [] [[0], [0]] [[0]] := .of (by kernel_rfl)
theorem fq115 : Fq E M 115 7920 [1] [] [[0], [0]] [] := .of (by kernel_rfl)
theorem fq116 : Fq E M 116 504 [] [] [[0]] [[0]] := .of (by kernel_rfl)
theorem fq117 : Fq E M 117 6274880 [] [] [[0]] [[2], [0]] := .of (by kernel_rfl)
theorem fq118 : Fq E M 118 131008 [] [] [[0], [0]] [[0]] := .of (by kernel_rfl)
theorem fq119 : Fq E M 119 64960 [] [] [[0], [0]] [[0]] := .of (by kernel_rfl)
attribute [go_sem] tq3 tq5 tq9 uq22 uq23 uq26 tq30 tq31 uq31 tq33 uq33 tq34 tq36 uq36 tq59 uq59 tq62 uq62 tq97 tq103 uq103 tq108 tq109 uq109 tq112 uq112 tq123 uq123 tq124 uq124 uq136 tq138 uq138 fl33 fl59 fl62 fl103 pl33 pl59 pl62 pl103 pl109 pl123 fq3 fq6 fq7 fq8 fq9 fq10 fq11 fq12 fq13 fq14 fq15 fq17 fq22 fq25 fq26 fq27 fq28 fq29 fq30 fq31 fq32 fq33 fq34 fq35 fq36 fq37 fq38 fq39 fq40 fq41 fq42 fq43 fq44 fq45 fq46 fq47 fq48 fq49 fq50 fq51 fq52 fq53 fq54 fq55 fq56 fq57 fq61 fq62 fq63 fq64 fq65 fq66 fq67 fq68 fq69 fq70 fq71 fq72 fq76 fq77 fq78 fq79 fq80 fq85 fq87 fq88 fq89 fq90 fq91 fq92 fq93 fq95 fq96 fq97 fq98 fq99 fq103 fq104 fq105 fq114 fq115 fq116 fq117 fq118 fq119
end Go.Proofs.YtclgfgnhcakhdaaGreatDoor
