import Derived.Test.YtfifgnffipdmeaaDoorProg
import Derived.Test.YtfifgnffipdmeaaDoorDn8
namespace Go.Proofs.YtfifgnffipdmeaaDoor
open Go.Am
set_option maxRecDepth 100000
def parM : FuncId → List Nat
  | _ => []
def resM : FuncId → List Nat
  | _ => []
def locM : FuncId → Nat
  | 2 => 1
  | 3 => 8589933952
  | 4 => 4835703278458516698660864
  | 5 => 151115727451828646526976
  | 6 => 137438953432
  | 7 => 562949953421288
  | 8 => 262048
  | 9 => 4194112
  | 10 => 24
  | 11 => 68702682872
  | 12 => 216
  | 13 => 2199023222624
  | 14 => 17147362816
  | 15 => 134085312
  | 16 => 6274880
  | 17 => 144114088528576320
  | 18 => 54042094942125824
  | 19 => 8706863201686967516928
  | 20 => 274806996960
  | 21 => 266207216
  | 22 => 133955344
  | 23 => 134182896
  | 24 => 56
  | 25 => 120
  | 26 => 120
  | 27 => 4193280
  | 28 => 24
  | 29 => 8795556146944
  | 30 => 6096
  | 31 => 1984
  | 32 => 504
  | 33 => 64960
  | 34 => 2093248
  | 35 => 65520
  | 36 => 131040
  | 37 => 16376
  | 38 => 24
  | 39 => 224
  | 40 => 32192
  | 41 => 4503569561550336
  | 42 => 1152921503532580608
  | 43 => 33554424
  | 44 => 524220
  | 45 => 18014381321090304
  | 46 => 224
  | 47 => 262112
  | 48 => 68215103488
  | 49 => 1073676096
  | 50 => 2
  | 51 => 2595197691317242642214125633929216
  | 52 => 68702633792
  | 53 => 2
  | 54 => 215679573337205118357336120696151728477114015716832964620587687215104
  | 56 => 32744
  | 57 => 32752
  | 58 => 184149205606795480238948490449146349755637850570752
  | 59 => 5050176389969560855884357697536
  | 61 => 134152096
  | 62 => 38685626227650541404552192
  | 63 => 480
  | 64 => 8160
  | 65 => 2
  | 66 => 56
  | 67 => 33537768
  | 68 => 0
  | 69 => 248
  | 70 => 248
  | 71 => 131008
  | 72 => 16360
  | 73 => 16360
  | 97 => 15
  | _ => 0
def tabL3 : List Int := [0, 1, 28, 2, 29, 14, 24, 3, 30, 22, 20, 15, 25, 17, 4, 8, 31, 27, 13, 23, 21, 19, 16, 7, 26, 12, 18, 6, 11, 5, 10, 9]
def tabL4 : List Int := [0, 1, 56, 2, 57, 49, 28, 3, 61, 58, 42, 50, 38, 29, 17, 4, 62, 47, 59, 36, 45, 43, 51, 22, 53, 39, 33, 30, 24, 18, 12, 5, 63, 55, 48, 27, 60, 41, 37, 16, 46, 35, 44, 21, 52, 32, 23, 11, 54, 26, 40, 15, 34, 20, 31, 10, 25, 14, 19, 9, 13, 8, 7, 6]
def tabL1 : List Int := [1, 10, 100, 1000, 10000, 100000, 1000000, 10000000, 100000000, 1000000000, 10000000000, 100000000000, 1000000000000, 10000000000000, 100000000000000, 1000000000000000, 10000000000000000, 100000000000000000, 1000000000000000000, 10000000000000000000]
def tabL0 : List Int := [1116352408, 1899447441, 3049323471, 3921009573, 961987163, 1508970993, 2453635748, 2870763221, 3624381080, 310598401, 607225278, 1426881987, 1925078388, 2162078206, 2614888103, 3248222580, 3835390401, 4022224774, 264347078, 604807628, 770255983, 1249150122, 1555081692, 1996064986, 2554220882, 2821834349, 2952996808, 3210313671, 3336571891, 3584528711, 113926993, 338241895, 666307205, 773529912, 1294757372, 1396182291, 1695183700, 1986661051, 2177026350, 2456956037, 2730485921, 2820302411, 3259730800, 3345764771, 3516065817, 3600352804, 4094571909, 275423344, 430227734, 506948616, 659060556, 883997877, 958139571, 1322822218, 1537002063, 1747873779, 1955562222, 2024104815, 2227730452, 2361852424, 2428436474, 2756734187, 3204031479, 3329325298]
def tabs : Tabs := [(3, "math/bits.deBruijn32tab", .u8, tabL3), (4, "math/bits.deBruijn64tab", .u8, tabL4), (1, "internal/strconv.uint64pow10", .u64, tabL1), (0, "carcanet/digest.constants", .u32, tabL0)]
noncomputable def E : Env := ⟨Tryd.prog, gamma tabs⟩
noncomputable def M : Mds := ⟨parM, resM, locM⟩
noncomputable def C0 : Cf := ⟨E, M, fun _ => none⟩
@[go_sem] theorem C0_E : C0.E = E := rfl
@[go_sem] theorem C0_M : C0.M = M := rfl
theorem mixed : E.P.follows .mixedOrders = true := by kernel_rfl
@[go_sem] theorem ev_g3 (f) : ev E.Γ f (.global 3) = .iptr (tabV .u8 tabL3) := rfl
@[go_sem] theorem ev_g4 (f) : ev E.Γ f (.global 4) = .iptr (tabV .u8 tabL4) := rfl
@[go_sem] theorem ev_g1 (f) : ev E.Γ f (.global 1) = .iptr (tabV .u64 tabL1) := rfl
@[go_sem] theorem ev_g0 (f) : ev E.Γ f (.global 0) = .iptr (tabV .u32 tabL0) := rfl
theorem szO0 : E.P.szO 0 = some 1 := by kernel_rfl
theorem rowO0 : E.P.rowO 0 = some false := by kernel_rfl
theorem zeroL0 : E.P.zeroL 0 = some [AVal.sc (Value.tuple { toList := [] })] := by kernel_rfl
theorem isStr0 : E.P.isStr 0 = false := by kernel_rfl
theorem isInt0 : E.P.isInt 0 = false := by kernel_rfl
theorem und0 : (E.P.underlying 0).isSome = true := by kernel_rfl
theorem guard0 : E.P.eqGuardType E.P.depth 0 = false := by kernel_rfl
theorem szO1 : E.P.szO 1 = some 1 := by kernel_rfl
theorem rowO1 : E.P.rowO 1 = some false := by kernel_rfl
theorem zeroL1 : E.P.zeroL 1 = some [AVal.sc Value.nilFunc] := by kernel_rfl
theorem isStr1 : E.P.isStr 1 = false := by kernel_rfl
theorem isInt1 : E.P.isInt 1 = false := by kernel_rfl
theorem und1 : (E.P.underlying 1).isSome = true := by kernel_rfl
theorem guard1 : E.P.eqGuardType E.P.depth 1 = false := by kernel_rfl
theorem szO2 : E.P.szO 2 = some 1 := by kernel_rfl
theorem rowO2 : E.P.rowO 2 = some false := by kernel_rfl
theorem zeroL2 : E.P.zeroL 2 = some [AVal.int IntKind.i64 (0)] := by kernel_rfl
theorem isStr2 : E.P.isStr 2 = false := by kernel_rfl
theorem isInt2 : E.P.isInt 2 = true := by kernel_rfl
theorem kindO2 : kindO E.P 2 = some IntKind.i64 := by kernel_rfl
theorem und2 : (E.P.underlying 2).isSome = true := by kernel_rfl
theorem guard2 : E.P.eqGuardType E.P.depth 2 = false := by kernel_rfl
theorem szO3 : E.P.szO 3 = some 1 := by kernel_rfl
theorem rowO3 : E.P.rowO 3 = some false := by kernel_rfl
theorem zeroL3 : E.P.zeroL 3 = some [AVal.int IntKind.i64 (0)] := by kernel_rfl
theorem isStr3 : E.P.isStr 3 = false := by kernel_rfl
theorem isInt3 : E.P.isInt 3 = true := by kernel_rfl
theorem kindO3 : kindO E.P 3 = some IntKind.i64 := by kernel_rfl
theorem und3 : (E.P.underlying 3).isSome = true := by kernel_rfl
theorem guard3 : E.P.eqGuardType E.P.depth 3 = false := by kernel_rfl
theorem szO4 : E.P.szO 4 = some 1 := by kernel_rfl
theorem rowO4 : E.P.rowO 4 = some false := by kernel_rfl
theorem zeroL4 : E.P.zeroL 4 = some [AVal.bool false] := by kernel_rfl
theorem isStr4 : E.P.isStr 4 = false := by kernel_rfl
theorem isInt4 : E.P.isInt 4 = false := by kernel_rfl
theorem boolT4 : boolT E.P 4 = true := by kernel_rfl
theorem und4 : (E.P.underlying 4).isSome = true := by kernel_rfl
theorem guard4 : E.P.eqGuardType E.P.depth 4 = false := by kernel_rfl
theorem szO5 : E.P.szO 5 = some 1 := by kernel_rfl
theorem rowO5 : E.P.rowO 5 = some false := by kernel_rfl
theorem zeroL5 : E.P.zeroL 5 = some [AVal.int IntKind.u8 (0)] := by kernel_rfl
theorem isStr5 : E.P.isStr 5 = false := by kernel_rfl
theorem isInt5 : E.P.isInt 5 = true := by kernel_rfl
theorem kindO5 : kindO E.P 5 = some IntKind.u8 := by kernel_rfl
theorem und5 : (E.P.underlying 5).isSome = true := by kernel_rfl
theorem guard5 : E.P.eqGuardType E.P.depth 5 = false := by kernel_rfl
theorem szO6 : E.P.szO 6 = some 1 := by kernel_rfl
theorem rowO6 : E.P.rowO 6 = some false := by kernel_rfl
theorem zeroL6 : E.P.zeroL 6 = some [AVal.int IntKind.u8 (0)] := by kernel_rfl
theorem isStr6 : E.P.isStr 6 = false := by kernel_rfl
theorem isInt6 : E.P.isInt 6 = true := by kernel_rfl
theorem kindO6 : kindO E.P 6 = some IntKind.u8 := by kernel_rfl
theorem und6 : (E.P.underlying 6).isSome = true := by kernel_rfl
theorem guard6 : E.P.eqGuardType E.P.depth 6 = false := by kernel_rfl
theorem szO7 : E.P.szO 7 = some 4 := by kernel_rfl
theorem rowO7 : E.P.rowO 7 = some true := by kernel_rfl
theorem zeroL7 : E.P.zeroL 7 = some [AVal.int IntKind.i64 (0), AVal.int IntKind.i64 (0), AVal.bool false, AVal.int IntKind.u8 (0)] := by kernel_rfl
theorem isStr7 : E.P.isStr 7 = false := by kernel_rfl
theorem isInt7 : E.P.isInt 7 = false := by kernel_rfl
theorem isComp7 : E.P.isComp 7 = true := by kernel_rfl
theorem und7 : (E.P.underlying 7).isSome = true := by kernel_rfl
theorem guard7 : E.P.eqGuardType E.P.depth 7 = false := by kernel_rfl
theorem fldO7_0 : E.P.fldO 7 0 = some (0, 1, false) := by kernel_rfl
theorem fldO7_1 : E.P.fldO 7 1 = some (1, 1, false) := by kernel_rfl
theorem fldO7_2 : E.P.fldO 7 2 = some (2, 1, false) := by kernel_rfl
theorem fldO7_3 : E.P.fldO 7 3 = some (3, 1, false) := by kernel_rfl
theorem places7_0 : E.P.places 7 0 = some (0, 1) := by kernel_rfl
theorem places7_1 : E.P.places 7 1 = some (1, 1) := by kernel_rfl
theorem places7_2 : E.P.places 7 2 = some (2, 1) := by kernel_rfl
theorem places7_3 : E.P.places 7 3 = some (3, 1) := by kernel_rfl
theorem szO8 : E.P.szO 8 = some 4 := by kernel_rfl
theorem rowO8 : E.P.rowO 8 = some true := by kernel_rfl
theorem zeroL8 : E.P.zeroL 8 = some [AVal.int IntKind.i64 (0), AVal.int IntKind.i64 (0), AVal.bool false, AVal.int IntKind.u8 (0)] := by kernel_rfl
theorem isStr8 : E.P.isStr 8 = false := by kernel_rfl
theorem isInt8 : E.P.isInt 8 = false := by kernel_rfl
theorem isComp8 : E.P.isComp 8 = true := by kernel_rfl
theorem und8 : (E.P.underlying 8).isSome = true := by kernel_rfl
theorem guard8 : E.P.eqGuardType E.P.depth 8 = false := by kernel_rfl
theorem fldO8_0 : E.P.fldO 8 0 = some (0, 1, false) := by kernel_rfl
theorem fldO8_1 : E.P.fldO 8 1 = some (1, 1, false) := by kernel_rfl
theorem fldO8_2 : E.P.fldO 8 2 = some (2, 1, false) := by kernel_rfl
theorem fldO8_3 : E.P.fldO 8 3 = some (3, 1, false) := by kernel_rfl
theorem places8_0 : E.P.places 8 0 = some (0, 1) := by kernel_rfl
theorem places8_1 : E.P.places 8 1 = some (1, 1) := by kernel_rfl
theorem places8_2 : E.P.places 8 2 = some (2, 1) := by kernel_rfl
theorem places8_3 : E.P.places 8 3 = some (3, 1) := by kernel_rfl
theorem szO9 : E.P.szO 9 = some 1 := by kernel_rfl
theorem rowO9 : E.P.rowO 9 = some false := by kernel_rfl
theorem zeroL9 : E.P.zeroL 9 = some [AVal.str []] := by kernel_rfl
theorem isStr9 : E.P.isStr 9 = true := by kernel_rfl
theorem isInt9 : E.P.isInt 9 = false := by kernel_rfl
theorem und9 : (E.P.underlying 9).isSome = true := by kernel_rfl
theorem guard9 : E.P.eqGuardType E.P.depth 9 = false := by kernel_rfl
theorem szO10 : E.P.szO 10 = some 1 := by kernel_rfl
theorem rowO10 : E.P.rowO 10 = some false := by kernel_rfl
theorem zeroL10 : E.P.zeroL 10 = some [AVal.str []] := by kernel_rfl
theorem isStr10 : E.P.isStr 10 = true := by kernel_rfl
theorem isInt10 : E.P.isInt 10 = false := by kernel_rfl
theorem und10 : (E.P.underlying 10).isSome = true := by kernel_rfl
theorem guard10 : E.P.eqGuardType E.P.depth 10 = false := by kernel_rfl
theorem szO11 : E.P.szO 11 = some 1 := by kernel_rfl
theorem rowO11 : E.P.rowO 11 = some false := by kernel_rfl
theorem zeroL11 : E.P.zeroL 11 = some [AVal.str []] := by kernel_rfl
theorem isStr11 : E.P.isStr 11 = true := by kernel_rfl
theorem isInt11 : E.P.isInt 11 = false := by kernel_rfl
theorem und11 : (E.P.underlying 11).isSome = true := by kernel_rfl
theorem guard11 : E.P.eqGuardType E.P.depth 11 = false := by kernel_rfl
theorem szO12 : E.P.szO 12 = some 1 := by kernel_rfl
theorem rowO12 : E.P.rowO 12 = some false := by kernel_rfl
theorem zeroL12 : E.P.zeroL 12 = some [AVal.int IntKind.u64 (0)] := by kernel_rfl
theorem isStr12 : E.P.isStr 12 = false := by kernel_rfl
theorem isInt12 : E.P.isInt 12 = true := by kernel_rfl
theorem kindO12 : kindO E.P 12 = some IntKind.u64 := by kernel_rfl
theorem und12 : (E.P.underlying 12).isSome = true := by kernel_rfl
theorem guard12 : E.P.eqGuardType E.P.depth 12 = false := by kernel_rfl
theorem szO13 : E.P.szO 13 = some 2 := by kernel_rfl
theorem rowO13 : E.P.rowO 13 = some true := by kernel_rfl
theorem zeroL13 : E.P.zeroL 13 = some [AVal.str [], AVal.int IntKind.u64 (0)] := by kernel_rfl
theorem isStr13 : E.P.isStr 13 = false := by kernel_rfl
theorem isInt13 : E.P.isInt 13 = false := by kernel_rfl
theorem isComp13 : E.P.isComp 13 = true := by kernel_rfl
theorem und13 : (E.P.underlying 13).isSome = true := by kernel_rfl
theorem guard13 : E.P.eqGuardType E.P.depth 13 = false := by kernel_rfl
theorem fldO13_0 : E.P.fldO 13 0 = some (0, 1, false) := by kernel_rfl
theorem fldO13_1 : E.P.fldO 13 1 = some (1, 1, false) := by kernel_rfl
theorem places13_0 : E.P.places 13 0 = some (0, 1) := by kernel_rfl
theorem places13_1 : E.P.places 13 1 = some (1, 1) := by kernel_rfl
theorem szO14 : E.P.szO 14 = some 2 := by kernel_rfl
theorem rowO14 : E.P.rowO 14 = some true := by kernel_rfl
theorem zeroL14 : E.P.zeroL 14 = some [AVal.str [], AVal.int IntKind.u64 (0)] := by kernel_rfl
theorem isStr14 : E.P.isStr 14 = false := by kernel_rfl
theorem isInt14 : E.P.isInt 14 = false := by kernel_rfl
theorem isComp14 : E.P.isComp 14 = true := by kernel_rfl
theorem und14 : (E.P.underlying 14).isSome = true := by kernel_rfl
theorem guard14 : E.P.eqGuardType E.P.depth 14 = false := by kernel_rfl
theorem fldO14_0 : E.P.fldO 14 0 = some (0, 1, false) := by kernel_rfl
theorem fldO14_1 : E.P.fldO 14 1 = some (1, 1, false) := by kernel_rfl
theorem places14_0 : E.P.places 14 0 = some (0, 1) := by kernel_rfl
theorem places14_1 : E.P.places 14 1 = some (1, 1) := by kernel_rfl
theorem szO15 : E.P.szO 15 = some 1 := by kernel_rfl
theorem rowO15 : E.P.rowO 15 = some false := by kernel_rfl
theorem zeroL15 : E.P.zeroL 15 = some [AVal.sc (Value.pointer none)] := by kernel_rfl
theorem isStr15 : E.P.isStr 15 = false := by kernel_rfl
theorem isInt15 : E.P.isInt 15 = false := by kernel_rfl
theorem ptrT15 : ptrT E.P 15 = true := by kernel_rfl
theorem und15 : (E.P.underlying 15).isSome = true := by kernel_rfl
theorem guard15 : E.P.eqGuardType E.P.depth 15 = false := by kernel_rfl
theorem szO16 : E.P.szO 16 = some 1 := by kernel_rfl
theorem rowO16 : E.P.rowO 16 = some false := by kernel_rfl
theorem zeroL16 : E.P.zeroL 16 = some [AVal.sc (Value.pointer none)] := by kernel_rfl
theorem isStr16 : E.P.isStr 16 = false := by kernel_rfl
theorem isInt16 : E.P.isInt 16 = false := by kernel_rfl
theorem ptrT16 : ptrT E.P 16 = true := by kernel_rfl
theorem und16 : (E.P.underlying 16).isSome = true := by kernel_rfl
theorem guard16 : E.P.eqGuardType E.P.depth 16 = false := by kernel_rfl
theorem szO17 : E.P.szO 17 = some 1 := by kernel_rfl
theorem rowO17 : E.P.rowO 17 = some false := by kernel_rfl
theorem zeroL17 : E.P.zeroL 17 = some [AVal.sc (Value.pointer none)] := by kernel_rfl
theorem isStr17 : E.P.isStr 17 = false := by kernel_rfl
theorem isInt17 : E.P.isInt 17 = false := by kernel_rfl
theorem ptrT17 : ptrT E.P 17 = true := by kernel_rfl
theorem und17 : (E.P.underlying 17).isSome = true := by kernel_rfl
theorem guard17 : E.P.eqGuardType E.P.depth 17 = false := by kernel_rfl
theorem szO18 : E.P.szO 18 = some 1 := by kernel_rfl
theorem rowO18 : E.P.rowO 18 = some true := by kernel_rfl
theorem zeroL18 : E.P.zeroL 18 = some [AVal.sc (Value.pointer none)] := by kernel_rfl
theorem isStr18 : E.P.isStr 18 = false := by kernel_rfl
theorem isInt18 : E.P.isInt 18 = false := by kernel_rfl
theorem isComp18 : E.P.isComp 18 = true := by kernel_rfl
theorem und18 : (E.P.underlying 18).isSome = true := by kernel_rfl
theorem guard18 : E.P.eqGuardType E.P.depth 18 = false := by kernel_rfl
theorem fldO18_0 : E.P.fldO 18 0 = some (0, 1, false) := by kernel_rfl
theorem places18_0 : E.P.places 18 0 = some (0, 1) := by kernel_rfl
theorem szO19 : E.P.szO 19 = some 1 := by kernel_rfl
theorem rowO19 : E.P.rowO 19 = some true := by kernel_rfl
theorem zeroL19 : E.P.zeroL 19 = some [AVal.sc (Value.pointer none)] := by kernel_rfl
theorem isStr19 : E.P.isStr 19 = false := by kernel_rfl
theorem isInt19 : E.P.isInt 19 = false := by kernel_rfl
theorem isComp19 : E.P.isComp 19 = true := by kernel_rfl
theorem und19 : (E.P.underlying 19).isSome = true := by kernel_rfl
theorem guard19 : E.P.eqGuardType E.P.depth 19 = false := by kernel_rfl
theorem fldO19_0 : E.P.fldO 19 0 = some (0, 1, false) := by kernel_rfl
theorem places19_0 : E.P.places 19 0 = some (0, 1) := by kernel_rfl
theorem szO20 : E.P.szO 20 = some 1 := by kernel_rfl
theorem rowO20 : E.P.rowO 20 = some false := by kernel_rfl
theorem zeroL20 : E.P.zeroL 20 = some [AVal.sc Value.nilIface] := by kernel_rfl
theorem isStr20 : E.P.isStr 20 = false := by kernel_rfl
theorem isInt20 : E.P.isInt 20 = false := by kernel_rfl
theorem und20 : (E.P.underlying 20).isSome = true := by kernel_rfl
theorem guard20 : E.P.eqGuardType E.P.depth 20 = false := by kernel_rfl
theorem szO21 : E.P.szO 21 = some 1 := by kernel_rfl
theorem rowO21 : E.P.rowO 21 = some false := by kernel_rfl
theorem zeroL21 : E.P.zeroL 21 = some [AVal.int IntKind.i32 (0)] := by kernel_rfl
theorem isStr21 : E.P.isStr 21 = false := by kernel_rfl
theorem isInt21 : E.P.isInt 21 = true := by kernel_rfl
theorem kindO21 : kindO E.P 21 = some IntKind.i32 := by kernel_rfl
theorem und21 : (E.P.underlying 21).isSome = true := by kernel_rfl
theorem guard21 : E.P.eqGuardType E.P.depth 21 = false := by kernel_rfl
theorem szO22 : E.P.szO 22 = some 1 := by kernel_rfl
theorem rowO22 : E.P.rowO 22 = some false := by kernel_rfl
theorem zeroL22 : E.P.zeroL 22 = some [AVal.int IntKind.u64 (0)] := by kernel_rfl
theorem isStr22 : E.P.isStr 22 = false := by kernel_rfl
theorem isInt22 : E.P.isInt 22 = true := by kernel_rfl
theorem kindO22 : kindO E.P 22 = some IntKind.u64 := by kernel_rfl
theorem und22 : (E.P.underlying 22).isSome = true := by kernel_rfl
theorem guard22 : E.P.eqGuardType E.P.depth 22 = false := by kernel_rfl
theorem szO23 : E.P.szO 23 = some 1 := by kernel_rfl
theorem rowO23 : E.P.rowO 23 = some false := by kernel_rfl
theorem zeroL23 : E.P.zeroL 23 = some [AVal.sc (Value.slice none 0 0)] := by kernel_rfl
theorem elemO23 : E.P.elemO 23 = some 1 := by kernel_rfl
theorem elemBytes23 : E.P.elemBytes 23 = some 1 := by kernel_rfl
theorem elemZero23 : E.P.elemZero 23 = some [AVal.int IntKind.u8 (0)] := by kernel_rfl
theorem isStr23 : E.P.isStr 23 = false := by kernel_rfl
theorem isInt23 : E.P.isInt 23 = false := by kernel_rfl
theorem isBytes23 : E.P.isBytes 23 = true := by kernel_rfl
theorem und23 : (E.P.underlying 23).isSome = true := by kernel_rfl
theorem guard23 : E.P.eqGuardType E.P.depth 23 = false := by kernel_rfl
theorem szO24 : E.P.szO 24 = some 1 := by kernel_rfl
theorem rowO24 : E.P.rowO 24 = some false := by kernel_rfl
theorem zeroL24 : E.P.zeroL 24 = some [AVal.sc Value.nilFunc] := by kernel_rfl
theorem isStr24 : E.P.isStr 24 = false := by kernel_rfl
theorem isInt24 : E.P.isInt 24 = false := by kernel_rfl
theorem und24 : (E.P.underlying 24).isSome = true := by kernel_rfl
theorem guard24 : E.P.eqGuardType E.P.depth 24 = false := by kernel_rfl
theorem szO25 : E.P.szO 25 = some 1 := by kernel_rfl
theorem rowO25 : E.P.rowO 25 = some false := by kernel_rfl
theorem zeroL25 : E.P.zeroL 25 = some [AVal.sc Value.nilFunc] := by kernel_rfl
theorem isStr25 : E.P.isStr 25 = false := by kernel_rfl
theorem isInt25 : E.P.isInt 25 = false := by kernel_rfl
theorem und25 : (E.P.underlying 25).isSome = true := by kernel_rfl
theorem guard25 : E.P.eqGuardType E.P.depth 25 = false := by kernel_rfl
theorem szO26 : E.P.szO 26 = some 1 := by kernel_rfl
theorem rowO26 : E.P.rowO 26 = some false := by kernel_rfl
theorem zeroL26 : E.P.zeroL 26 = some [AVal.sc Value.nilFunc] := by kernel_rfl
theorem isStr26 : E.P.isStr 26 = false := by kernel_rfl
theorem isInt26 : E.P.isInt 26 = false := by kernel_rfl
theorem und26 : (E.P.underlying 26).isSome = true := by kernel_rfl
theorem guard26 : E.P.eqGuardType E.P.depth 26 = false := by kernel_rfl
theorem szO27 : E.P.szO 27 = some 1 := by kernel_rfl
theorem rowO27 : E.P.rowO 27 = some false := by kernel_rfl
theorem zeroL27 : E.P.zeroL 27 = some [AVal.sc Value.nilFunc] := by kernel_rfl
theorem isStr27 : E.P.isStr 27 = false := by kernel_rfl
theorem isInt27 : E.P.isInt 27 = false := by kernel_rfl
theorem und27 : (E.P.underlying 27).isSome = true := by kernel_rfl
theorem guard27 : E.P.eqGuardType E.P.depth 27 = false := by kernel_rfl
theorem szO28 : E.P.szO 28 = some 1 := by kernel_rfl
theorem rowO28 : E.P.rowO 28 = some false := by kernel_rfl
theorem zeroL28 : E.P.zeroL 28 = some [AVal.sc Value.nilFunc] := by kernel_rfl
theorem isStr28 : E.P.isStr 28 = false := by kernel_rfl
theorem isInt28 : E.P.isInt 28 = false := by kernel_rfl
theorem und28 : (E.P.underlying 28).isSome = true := by kernel_rfl
theorem guard28 : E.P.eqGuardType E.P.depth 28 = false := by kernel_rfl
theorem szO29 : E.P.szO 29 = some 1 := by kernel_rfl
theorem rowO29 : E.P.rowO 29 = some false := by kernel_rfl
theorem zeroL29 : E.P.zeroL 29 = some [AVal.sc (Value.tuple { toList := [Value.int IntKind.u64 (0), Value.bool false] })] := by kernel_rfl
theorem isStr29 : E.P.isStr 29 = false := by kernel_rfl
theorem isInt29 : E.P.isInt 29 = false := by kernel_rfl
theorem und29 : (E.P.underlying 29).isSome = true := by kernel_rfl
theorem guard29 : E.P.eqGuardType E.P.depth 29 = false := by kernel_rfl
theorem szO30 : E.P.szO 30 = some 1 := by kernel_rfl
theorem rowO30 : E.P.rowO 30 = some false := by kernel_rfl
theorem zeroL30 : E.P.zeroL 30 = some [AVal.sc Value.nilFunc] := by kernel_rfl
theorem isStr30 : E.P.isStr 30 = false := by kernel_rfl
theorem isInt30 : E.P.isInt 30 = false := by kernel_rfl
theorem und30 : (E.P.underlying 30).isSome = true := by kernel_rfl
theorem guard30 : E.P.eqGuardType E.P.depth 30 = false := by kernel_rfl
theorem szO31 : E.P.szO 31 = some 1 := by kernel_rfl
theorem rowO31 : E.P.rowO 31 = some false := by kernel_rfl
theorem zeroL31 : E.P.zeroL 31 = some [AVal.sc (Value.tuple { toList := [Value.slice none 0 0, Value.bool false] })] := by kernel_rfl
theorem isStr31 : E.P.isStr 31 = false := by kernel_rfl
theorem isInt31 : E.P.isInt 31 = false := by kernel_rfl
theorem und31 : (E.P.underlying 31).isSome = true := by kernel_rfl
theorem guard31 : E.P.eqGuardType E.P.depth 31 = false := by kernel_rfl
theorem szO32 : E.P.szO 32 = some 1 := by kernel_rfl
theorem rowO32 : E.P.rowO 32 = some false := by kernel_rfl
theorem zeroL32 : E.P.zeroL 32 = some [AVal.sc Value.nilFunc] := by kernel_rfl
theorem isStr32 : E.P.isStr 32 = false := by kernel_rfl
theorem isInt32 : E.P.isInt 32 = false := by kernel_rfl
theorem und32 : (E.P.underlying 32).isSome = true := by kernel_rfl
theorem guard32 : E.P.eqGuardType E.P.depth 32 = false := by kernel_rfl
theorem szO33 : E.P.szO 33 = some 1 := by kernel_rfl
theorem rowO33 : E.P.rowO 33 = some false := by kernel_rfl
theorem zeroL33 : E.P.zeroL 33 = some [AVal.sc (Value.tuple { toList := [Value.int IntKind.i64 (0), Value.bool false] })] := by kernel_rfl
theorem isStr33 : E.P.isStr 33 = false := by kernel_rfl
theorem isInt33 : E.P.isInt 33 = false := by kernel_rfl
theorem und33 : (E.P.underlying 33).isSome = true := by kernel_rfl
theorem guard33 : E.P.eqGuardType E.P.depth 33 = false := by kernel_rfl
theorem szO34 : E.P.szO 34 = some 1 := by kernel_rfl
theorem rowO34 : E.P.rowO 34 = some false := by kernel_rfl
theorem zeroL34 : E.P.zeroL 34 = some [AVal.sc Value.nilFunc] := by kernel_rfl
theorem isStr34 : E.P.isStr 34 = false := by kernel_rfl
theorem isInt34 : E.P.isInt 34 = false := by kernel_rfl
theorem und34 : (E.P.underlying 34).isSome = true := by kernel_rfl
theorem guard34 : E.P.eqGuardType E.P.depth 34 = false := by kernel_rfl
theorem szO35 : E.P.szO 35 = some 1 := by kernel_rfl
theorem rowO35 : E.P.rowO 35 = some false := by kernel_rfl
theorem zeroL35 : E.P.zeroL 35 = some [AVal.sc Value.nilFunc] := by kernel_rfl
theorem isStr35 : E.P.isStr 35 = false := by kernel_rfl
theorem isInt35 : E.P.isInt 35 = false := by kernel_rfl
theorem und35 : (E.P.underlying 35).isSome = true := by kernel_rfl
theorem guard35 : E.P.eqGuardType E.P.depth 35 = false := by kernel_rfl
theorem szO36 : E.P.szO 36 = some 1 := by kernel_rfl
theorem rowO36 : E.P.rowO 36 = some false := by kernel_rfl
theorem zeroL36 : E.P.zeroL 36 = some [AVal.sc Value.nilFunc] := by kernel_rfl
theorem isStr36 : E.P.isStr 36 = false := by kernel_rfl
theorem isInt36 : E.P.isInt 36 = false := by kernel_rfl
theorem und36 : (E.P.underlying 36).isSome = true := by kernel_rfl
theorem guard36 : E.P.eqGuardType E.P.depth 36 = false := by kernel_rfl
theorem szO37 : E.P.szO 37 = some 1 := by kernel_rfl
theorem rowO37 : E.P.rowO 37 = some false := by kernel_rfl
theorem zeroL37 : E.P.zeroL 37 = some [AVal.int IntKind.u64 (0)] := by kernel_rfl
theorem isStr37 : E.P.isStr 37 = false := by kernel_rfl
theorem isInt37 : E.P.isInt 37 = true := by kernel_rfl
theorem kindO37 : kindO E.P 37 = some IntKind.u64 := by kernel_rfl
theorem und37 : (E.P.underlying 37).isSome = true := by kernel_rfl
theorem guard37 : E.P.eqGuardType E.P.depth 37 = false := by kernel_rfl
theorem szO38 : E.P.szO 38 = some 1 := by kernel_rfl
theorem rowO38 : E.P.rowO 38 = some false := by kernel_rfl
theorem zeroL38 : E.P.zeroL 38 = some [AVal.sc Value.nilFunc] := by kernel_rfl
theorem isStr38 : E.P.isStr 38 = false := by kernel_rfl
theorem isInt38 : E.P.isInt 38 = false := by kernel_rfl
theorem und38 : (E.P.underlying 38).isSome = true := by kernel_rfl
theorem guard38 : E.P.eqGuardType E.P.depth 38 = false := by kernel_rfl
theorem szO39 : E.P.szO 39 = some 1 := by kernel_rfl
theorem rowO39 : E.P.rowO 39 = some false := by kernel_rfl
theorem zeroL39 : E.P.zeroL 39 = some [AVal.sc (Value.tuple { toList := [Value.string { data := { toList := [] } }, Value.bool false] })] := by kernel_rfl
theorem isStr39 : E.P.isStr 39 = false := by kernel_rfl
theorem isInt39 : E.P.isInt 39 = false := by kernel_rfl
theorem und39 : (E.P.underlying 39).isSome = true := by kernel_rfl
theorem guard39 : E.P.eqGuardType E.P.depth 39 = false := by kernel_rfl
theorem szO40 : E.P.szO 40 = some 1 := by kernel_rfl
theorem rowO40 : E.P.rowO 40 = some false := by kernel_rfl
theorem zeroL40 : E.P.zeroL 40 = some [AVal.sc Value.nilFunc] := by kernel_rfl
theorem isStr40 : E.P.isStr 40 = false := by kernel_rfl
theorem isInt40 : E.P.isInt 40 = false := by kernel_rfl
theorem und40 : (E.P.underlying 40).isSome = true := by kernel_rfl
theorem guard40 : E.P.eqGuardType E.P.depth 40 = false := by kernel_rfl
theorem szO41 : E.P.szO 41 = some 1 := by kernel_rfl
theorem rowO41 : E.P.rowO 41 = some false := by kernel_rfl
theorem zeroL41 : E.P.zeroL 41 = some [AVal.sc Value.nilFunc] := by kernel_rfl
theorem isStr41 : E.P.isStr 41 = false := by kernel_rfl
theorem isInt41 : E.P.isInt 41 = false := by kernel_rfl
theorem und41 : (E.P.underlying 41).isSome = true := by kernel_rfl
theorem guard41 : E.P.eqGuardType E.P.depth 41 = false := by kernel_rfl
theorem szO42 : E.P.szO 42 = some 1 := by kernel_rfl
theorem rowO42 : E.P.rowO 42 = some false := by kernel_rfl
theorem zeroL42 : E.P.zeroL 42 = some [AVal.sc Value.nilFunc] := by kernel_rfl
theorem isStr42 : E.P.isStr 42 = false := by kernel_rfl
theorem isInt42 : E.P.isInt 42 = false := by kernel_rfl
theorem und42 : (E.P.underlying 42).isSome = true := by kernel_rfl
theorem guard42 : E.P.eqGuardType E.P.depth 42 = false := by kernel_rfl
theorem szO43 : E.P.szO 43 = some 1 := by kernel_rfl
theorem rowO43 : E.P.rowO 43 = some false := by kernel_rfl
theorem zeroL43 : E.P.zeroL 43 = some [AVal.sc Value.nilFunc] := by kernel_rfl
theorem isStr43 : E.P.isStr 43 = false := by kernel_rfl
theorem isInt43 : E.P.isInt 43 = false := by kernel_rfl
theorem und43 : (E.P.underlying 43).isSome = true := by kernel_rfl
theorem guard43 : E.P.eqGuardType E.P.depth 43 = false := by kernel_rfl
theorem szO44 : E.P.szO 44 = some 1 := by kernel_rfl
theorem rowO44 : E.P.rowO 44 = some false := by kernel_rfl
theorem zeroL44 : E.P.zeroL 44 = some [AVal.sc (Value.pointer none)] := by kernel_rfl
theorem isStr44 : E.P.isStr 44 = false := by kernel_rfl
theorem isInt44 : E.P.isInt 44 = false := by kernel_rfl
theorem ptrT44 : ptrT E.P 44 = true := by kernel_rfl
theorem und44 : (E.P.underlying 44).isSome = true := by kernel_rfl
theorem guard44 : E.P.eqGuardType E.P.depth 44 = false := by kernel_rfl
theorem szO45 : E.P.szO 45 = some 2 := by kernel_rfl
theorem rowO45 : E.P.rowO 45 = some true := by kernel_rfl
theorem zeroL45 : E.P.zeroL 45 = some [AVal.sc (Value.pointer none), AVal.sc (Value.slice none 0 0)] := by kernel_rfl
theorem isStr45 : E.P.isStr 45 = false := by kernel_rfl
theorem isInt45 : E.P.isInt 45 = false := by kernel_rfl
theorem isComp45 : E.P.isComp 45 = true := by kernel_rfl
theorem und45 : (E.P.underlying 45).isSome = true := by kernel_rfl
theorem guard45 : E.P.eqGuardType E.P.depth 45 = false := by kernel_rfl
theorem fldO45_0 : E.P.fldO 45 0 = some (0, 1, false) := by kernel_rfl
theorem fldO45_1 : E.P.fldO 45 1 = some (1, 1, false) := by kernel_rfl
theorem places45_0 : E.P.places 45 0 = some (0, 1) := by kernel_rfl
theorem places45_1 : E.P.places 45 1 = some (1, 1) := by kernel_rfl
theorem szO46 : E.P.szO 46 = some 2 := by kernel_rfl
theorem rowO46 : E.P.rowO 46 = some true := by kernel_rfl
theorem zeroL46 : E.P.zeroL 46 = some [AVal.sc (Value.pointer none), AVal.sc (Value.slice none 0 0)] := by kernel_rfl
theorem isStr46 : E.P.isStr 46 = false := by kernel_rfl
theorem isInt46 : E.P.isInt 46 = false := by kernel_rfl
theorem isComp46 : E.P.isComp 46 = true := by kernel_rfl
theorem und46 : (E.P.underlying 46).isSome = true := by kernel_rfl
theorem guard46 : E.P.eqGuardType E.P.depth 46 = false := by kernel_rfl
theorem fldO46_0 : E.P.fldO 46 0 = some (0, 1, false) := by kernel_rfl
theorem fldO46_1 : E.P.fldO 46 1 = some (1, 1, false) := by kernel_rfl
theorem places46_0 : E.P.places 46 0 = some (0, 1) := by kernel_rfl
theorem places46_1 : E.P.places 46 1 = some (1, 1) := by kernel_rfl
theorem szO47 : E.P.szO 47 = some 1 := by kernel_rfl
theorem rowO47 : E.P.rowO 47 = some false := by kernel_rfl
theorem zeroL47 : E.P.zeroL 47 = some [AVal.sc Value.nilIface] := by kernel_rfl
theorem isStr47 : E.P.isStr 47 = false := by kernel_rfl
theorem isInt47 : E.P.isInt 47 = false := by kernel_rfl
theorem und47 : (E.P.underlying 47).isSome = true := by kernel_rfl
theorem szO48 : E.P.szO 48 = some 1 := by kernel_rfl
theorem rowO48 : E.P.rowO 48 = some false := by kernel_rfl
theorem zeroL48 : E.P.zeroL 48 = some [AVal.sc Value.nilIface] := by kernel_rfl
theorem isStr48 : E.P.isStr 48 = false := by kernel_rfl
theorem isInt48 : E.P.isInt 48 = false := by kernel_rfl
theorem und48 : (E.P.underlying 48).isSome = true := by kernel_rfl
theorem szO49 : E.P.szO 49 = some 1 := by kernel_rfl
theorem rowO49 : E.P.rowO 49 = some false := by kernel_rfl
theorem zeroL49 : E.P.zeroL 49 = some [AVal.sc Value.nilFunc] := by kernel_rfl
theorem isStr49 : E.P.isStr 49 = false := by kernel_rfl
theorem isInt49 : E.P.isInt 49 = false := by kernel_rfl
theorem und49 : (E.P.underlying 49).isSome = true := by kernel_rfl
theorem guard49 : E.P.eqGuardType E.P.depth 49 = false := by kernel_rfl
theorem szO50 : E.P.szO 50 = some 1 := by kernel_rfl
theorem rowO50 : E.P.rowO 50 = some false := by kernel_rfl
theorem zeroL50 : E.P.zeroL 50 = some [AVal.sc Value.nilFunc] := by kernel_rfl
theorem isStr50 : E.P.isStr 50 = false := by kernel_rfl
theorem isInt50 : E.P.isInt 50 = false := by kernel_rfl
theorem und50 : (E.P.underlying 50).isSome = true := by kernel_rfl
theorem guard50 : E.P.eqGuardType E.P.depth 50 = false := by kernel_rfl
theorem szO51 : E.P.szO 51 = some 1 := by kernel_rfl
theorem rowO51 : E.P.rowO 51 = some false := by kernel_rfl
theorem zeroL51 : E.P.zeroL 51 = some [AVal.sc Value.nilFunc] := by kernel_rfl
theorem isStr51 : E.P.isStr 51 = false := by kernel_rfl
theorem isInt51 : E.P.isInt 51 = false := by kernel_rfl
theorem und51 : (E.P.underlying 51).isSome = true := by kernel_rfl
theorem guard51 : E.P.eqGuardType E.P.depth 51 = false := by kernel_rfl
theorem szO52 : E.P.szO 52 = some 1 := by kernel_rfl
theorem rowO52 : E.P.rowO 52 = some false := by kernel_rfl
theorem zeroL52 : E.P.zeroL 52 = some [AVal.sc Value.nilFunc] := by kernel_rfl
theorem isStr52 : E.P.isStr 52 = false := by kernel_rfl
theorem isInt52 : E.P.isInt 52 = false := by kernel_rfl
theorem und52 : (E.P.underlying 52).isSome = true := by kernel_rfl
theorem guard52 : E.P.eqGuardType E.P.depth 52 = false := by kernel_rfl
theorem szO53 : E.P.szO 53 = some 1 := by kernel_rfl
theorem rowO53 : E.P.rowO 53 = some false := by kernel_rfl
theorem zeroL53 : E.P.zeroL 53 = some [AVal.int IntKind.u32 (0)] := by kernel_rfl
theorem isStr53 : E.P.isStr 53 = false := by kernel_rfl
theorem isInt53 : E.P.isInt 53 = true := by kernel_rfl
theorem kindO53 : kindO E.P 53 = some IntKind.u32 := by kernel_rfl
theorem und53 : (E.P.underlying 53).isSome = true := by kernel_rfl
theorem guard53 : E.P.eqGuardType E.P.depth 53 = false := by kernel_rfl
theorem szO54 : E.P.szO 54 = some 1 := by kernel_rfl
theorem rowO54 : E.P.rowO 54 = some false := by kernel_rfl
theorem zeroL54 : E.P.zeroL 54 = some [AVal.sc Value.nilFunc] := by kernel_rfl
theorem isStr54 : E.P.isStr 54 = false := by kernel_rfl
theorem isInt54 : E.P.isInt 54 = false := by kernel_rfl
theorem und54 : (E.P.underlying 54).isSome = true := by kernel_rfl
theorem guard54 : E.P.eqGuardType E.P.depth 54 = false := by kernel_rfl
theorem szO55 : E.P.szO 55 = some 1 := by kernel_rfl
theorem rowO55 : E.P.rowO 55 = some false := by kernel_rfl
theorem zeroL55 : E.P.zeroL 55 = some [AVal.sc (Value.pointer none)] := by kernel_rfl
theorem isStr55 : E.P.isStr 55 = false := by kernel_rfl
theorem isInt55 : E.P.isInt 55 = false := by kernel_rfl
theorem ptrT55 : ptrT E.P 55 = true := by kernel_rfl
theorem und55 : (E.P.underlying 55).isSome = true := by kernel_rfl
theorem guard55 : E.P.eqGuardType E.P.depth 55 = false := by kernel_rfl
theorem szO56 : E.P.szO 56 = some 1 := by kernel_rfl
theorem rowO56 : E.P.rowO 56 = some false := by kernel_rfl
theorem zeroL56 : E.P.zeroL 56 = some [AVal.sc Value.nilFunc] := by kernel_rfl
theorem isStr56 : E.P.isStr 56 = false := by kernel_rfl
theorem isInt56 : E.P.isInt 56 = false := by kernel_rfl
theorem und56 : (E.P.underlying 56).isSome = true := by kernel_rfl
theorem guard56 : E.P.eqGuardType E.P.depth 56 = false := by kernel_rfl
theorem szO57 : E.P.szO 57 = some 1 := by kernel_rfl
theorem rowO57 : E.P.rowO 57 = some false := by kernel_rfl
theorem zeroL57 : E.P.zeroL 57 = some [AVal.sc Value.nilFunc] := by kernel_rfl
theorem isStr57 : E.P.isStr 57 = false := by kernel_rfl
theorem isInt57 : E.P.isInt 57 = false := by kernel_rfl
theorem und57 : (E.P.underlying 57).isSome = true := by kernel_rfl
theorem guard57 : E.P.eqGuardType E.P.depth 57 = false := by kernel_rfl
theorem szO58 : E.P.szO 58 = some 1 := by kernel_rfl
theorem rowO58 : E.P.rowO 58 = some false := by kernel_rfl
theorem zeroL58 : E.P.zeroL 58 = some [AVal.sc Value.nilFunc] := by kernel_rfl
theorem isStr58 : E.P.isStr 58 = false := by kernel_rfl
theorem isInt58 : E.P.isInt 58 = false := by kernel_rfl
theorem und58 : (E.P.underlying 58).isSome = true := by kernel_rfl
theorem guard58 : E.P.eqGuardType E.P.depth 58 = false := by kernel_rfl
theorem szO59 : E.P.szO 59 = some 1 := by kernel_rfl
theorem rowO59 : E.P.rowO 59 = some false := by kernel_rfl
theorem zeroL59 : E.P.zeroL 59 = some [AVal.sc Value.nilFunc] := by kernel_rfl
theorem isStr59 : E.P.isStr 59 = false := by kernel_rfl
theorem isInt59 : E.P.isInt 59 = false := by kernel_rfl
theorem und59 : (E.P.underlying 59).isSome = true := by kernel_rfl
theorem guard59 : E.P.eqGuardType E.P.depth 59 = false := by kernel_rfl
theorem szO60 : E.P.szO 60 = some 8 := by kernel_rfl
theorem rowO60 : E.P.rowO 60 = some true := by kernel_rfl
theorem zeroL60 : E.P.zeroL 60 = some [AVal.int IntKind.u32 (0), AVal.int IntKind.u32 (0), AVal.int IntKind.u32 (0), AVal.int IntKind.u32 (0), AVal.int IntKind.u32 (0), AVal.int IntKind.u32 (0), AVal.int IntKind.u32 (0), AVal.int IntKind.u32 (0)] := by kernel_rfl
theorem isStr60 : E.P.isStr 60 = false := by kernel_rfl
theorem isInt60 : E.P.isInt 60 = false := by kernel_rfl
theorem isComp60 : E.P.isComp 60 = true := by kernel_rfl
theorem arrO60 : E.P.arrO 60 = some (8, 1, false) := by kernel_rfl
theorem und60 : (E.P.underlying 60).isSome = true := by kernel_rfl
theorem guard60 : E.P.eqGuardType E.P.depth 60 = false := by kernel_rfl
theorem places60_0 : E.P.places 60 0 = some (0, 1) := by kernel_rfl
theorem places60_1 : E.P.places 60 1 = some (1, 1) := by kernel_rfl
theorem places60_2 : E.P.places 60 2 = some (2, 1) := by kernel_rfl
theorem places60_3 : E.P.places 60 3 = some (3, 1) := by kernel_rfl
theorem places60_4 : E.P.places 60 4 = some (4, 1) := by kernel_rfl
theorem places60_5 : E.P.places 60 5 = some (5, 1) := by kernel_rfl
theorem places60_6 : E.P.places 60 6 = some (6, 1) := by kernel_rfl
theorem places60_7 : E.P.places 60 7 = some (7, 1) := by kernel_rfl
theorem places60_8 : E.P.places 60 8 = some (8, 1) := by kernel_rfl
theorem places60_9 : E.P.places 60 9 = some (9, 1) := by kernel_rfl
theorem places60_10 : E.P.places 60 10 = some (10, 1) := by kernel_rfl
theorem places60_11 : E.P.places 60 11 = some (11, 1) := by kernel_rfl
theorem places60_12 : E.P.places 60 12 = some (12, 1) := by kernel_rfl
theorem places60_13 : E.P.places 60 13 = some (13, 1) := by kernel_rfl
theorem places60_14 : E.P.places 60 14 = some (14, 1) := by kernel_rfl
theorem places60_15 : E.P.places 60 15 = some (15, 1) := by kernel_rfl
theorem places60_16 : E.P.places 60 16 = some (16, 1) := by kernel_rfl
theorem places60_17 : E.P.places 60 17 = some (17, 1) := by kernel_rfl
theorem places60_18 : E.P.places 60 18 = some (18, 1) := by kernel_rfl
theorem places60_19 : E.P.places 60 19 = some (19, 1) := by kernel_rfl
theorem places60_20 : E.P.places 60 20 = some (20, 1) := by kernel_rfl
theorem places60_21 : E.P.places 60 21 = some (21, 1) := by kernel_rfl
theorem places60_22 : E.P.places 60 22 = some (22, 1) := by kernel_rfl
theorem places60_23 : E.P.places 60 23 = some (23, 1) := by kernel_rfl
theorem places60_24 : E.P.places 60 24 = some (24, 1) := by kernel_rfl
theorem places60_25 : E.P.places 60 25 = some (25, 1) := by kernel_rfl
theorem places60_26 : E.P.places 60 26 = some (26, 1) := by kernel_rfl
theorem places60_27 : E.P.places 60 27 = some (27, 1) := by kernel_rfl
theorem places60_28 : E.P.places 60 28 = some (28, 1) := by kernel_rfl
theorem places60_29 : E.P.places 60 29 = some (29, 1) := by kernel_rfl
theorem places60_30 : E.P.places 60 30 = some (30, 1) := by kernel_rfl
theorem places60_31 : E.P.places 60 31 = some (31, 1) := by kernel_rfl
theorem places60_32 : E.P.places 60 32 = some (32, 1) := by kernel_rfl
theorem places60_33 : E.P.places 60 33 = some (33, 1) := by kernel_rfl
theorem places60_34 : E.P.places 60 34 = some (34, 1) := by kernel_rfl
theorem places60_35 : E.P.places 60 35 = some (35, 1) := by kernel_rfl
theorem places60_36 : E.P.places 60 36 = some (36, 1) := by kernel_rfl
theorem places60_37 : E.P.places 60 37 = some (37, 1) := by kernel_rfl
theorem places60_38 : E.P.places 60 38 = some (38, 1) := by kernel_rfl
theorem places60_39 : E.P.places 60 39 = some (39, 1) := by kernel_rfl
theorem places60_40 : E.P.places 60 40 = some (40, 1) := by kernel_rfl
theorem places60_41 : E.P.places 60 41 = some (41, 1) := by kernel_rfl
theorem places60_42 : E.P.places 60 42 = some (42, 1) := by kernel_rfl
theorem places60_43 : E.P.places 60 43 = some (43, 1) := by kernel_rfl
theorem places60_44 : E.P.places 60 44 = some (44, 1) := by kernel_rfl
theorem places60_45 : E.P.places 60 45 = some (45, 1) := by kernel_rfl
theorem places60_46 : E.P.places 60 46 = some (46, 1) := by kernel_rfl
theorem places60_47 : E.P.places 60 47 = some (47, 1) := by kernel_rfl
theorem places60_48 : E.P.places 60 48 = some (48, 1) := by kernel_rfl
theorem places60_49 : E.P.places 60 49 = some (49, 1) := by kernel_rfl
theorem places60_50 : E.P.places 60 50 = some (50, 1) := by kernel_rfl
theorem places60_51 : E.P.places 60 51 = some (51, 1) := by kernel_rfl
theorem places60_52 : E.P.places 60 52 = some (52, 1) := by kernel_rfl
theorem places60_53 : E.P.places 60 53 = some (53, 1) := by kernel_rfl
theorem places60_54 : E.P.places 60 54 = some (54, 1) := by kernel_rfl
theorem places60_55 : E.P.places 60 55 = some (55, 1) := by kernel_rfl
theorem places60_56 : E.P.places 60 56 = some (56, 1) := by kernel_rfl
theorem places60_57 : E.P.places 60 57 = some (57, 1) := by kernel_rfl
theorem places60_58 : E.P.places 60 58 = some (58, 1) := by kernel_rfl
theorem places60_59 : E.P.places 60 59 = some (59, 1) := by kernel_rfl
theorem places60_60 : E.P.places 60 60 = some (60, 1) := by kernel_rfl
theorem places60_61 : E.P.places 60 61 = some (61, 1) := by kernel_rfl
theorem places60_62 : E.P.places 60 62 = some (62, 1) := by kernel_rfl
theorem places60_63 : E.P.places 60 63 = some (63, 1) := by kernel_rfl
theorem places60_64 : E.P.places 60 64 = some (64, 1) := by kernel_rfl
theorem places60_65 : E.P.places 60 65 = some (65, 1) := by kernel_rfl
theorem places60_66 : E.P.places 60 66 = some (66, 1) := by kernel_rfl
theorem places60_67 : E.P.places 60 67 = some (67, 1) := by kernel_rfl
theorem places60_68 : E.P.places 60 68 = some (68, 1) := by kernel_rfl
theorem places60_69 : E.P.places 60 69 = some (69, 1) := by kernel_rfl
theorem szO61 : E.P.szO 61 = some 1 := by kernel_rfl
theorem rowO61 : E.P.rowO 61 = some false := by kernel_rfl
theorem zeroL61 : E.P.zeroL 61 = some [AVal.sc Value.nilFunc] := by kernel_rfl
theorem isStr61 : E.P.isStr 61 = false := by kernel_rfl
theorem isInt61 : E.P.isInt 61 = false := by kernel_rfl
theorem und61 : (E.P.underlying 61).isSome = true := by kernel_rfl
theorem guard61 : E.P.eqGuardType E.P.depth 61 = false := by kernel_rfl
theorem szO62 : E.P.szO 62 = some 1 := by kernel_rfl
theorem rowO62 : E.P.rowO 62 = some false := by kernel_rfl
theorem zeroL62 : E.P.zeroL 62 = some [AVal.sc Value.nilFunc] := by kernel_rfl
theorem isStr62 : E.P.isStr 62 = false := by kernel_rfl
theorem isInt62 : E.P.isInt 62 = false := by kernel_rfl
theorem und62 : (E.P.underlying 62).isSome = true := by kernel_rfl
theorem guard62 : E.P.eqGuardType E.P.depth 62 = false := by kernel_rfl
theorem szO63 : E.P.szO 63 = some 64 := by kernel_rfl
theorem rowO63 : E.P.rowO 63 = some true := by kernel_rfl
theorem zeroL63 : E.P.zeroL 63 = some [AVal.int IntKind.u8 (0), AVal.int IntKind.u8 (0), AVal.int IntKind.u8 (0), AVal.int IntKind.u8 (0), AVal.int IntKind.u8 (0), AVal.int IntKind.u8 (0), AVal.int IntKind.u8 (0), AVal.int IntKind.u8 (0), AVal.int IntKind.u8 (0), AVal.int IntKind.u8 (0), AVal.int IntKind.u8 (0), AVal.int IntKind.u8 (0), AVal.int IntKind.u8 (0), AVal.int IntKind.u8 (0), AVal.int IntKind.u8 (0), AVal.int IntKind.u8 (0), AVal.int IntKind.u8 (0), AVal.int IntKind.u8 (0), AVal.int IntKind.u8 (0), AVal.int IntKind.u8 (0), AVal.int IntKind.u8 (0), AVal.int IntKind.u8 (0), AVal.int IntKind.u8 (0), AVal.int IntKind.u8 (0), AVal.int IntKind.u8 (0), AVal.int IntKind.u8 (0), AVal.int IntKind.u8 (0), AVal.int IntKind.u8 (0), AVal.int IntKind.u8 (0), AVal.int IntKind.u8 (0), AVal.int IntKind.u8 (0), AVal.int IntKind.u8 (0), AVal.int IntKind.u8 (0), AVal.int IntKind.u8 (0), AVal.int IntKind.u8 (0), AVal.int IntKind.u8 (0), AVal.int IntKind.u8 (0), AVal.int IntKind.u8 (0), AVal.int IntKind.u8 (0), AVal.int IntKind.u8 (0), AVal.int IntKind.u8 (0), AVal.int IntKind.u8 (0), AVal.int IntKind.u8 (0), AVal.int IntKind.u8 (0), AVal.int IntKind.u8 (0), AVal.int IntKind.u8 (0), AVal.int IntKind.u8 (0), AVal.int IntKind.u8 (0), AVal.int IntKind.u8 (0), AVal.int IntKind.u8 (0), AVal.int IntKind.u8 (0), AVal.int IntKind.u8 (0), AVal.int IntKind.u8 (0), AVal.int IntKind.u8 (0), AVal.int IntKind.u8 (0), AVal.int IntKind.u8 (0), AVal.int IntKind.u8 (0), AVal.int IntKind.u8 (0), AVal.int IntKind.u8 (0), AVal.int IntKind.u8 (0), AVal.int IntKind.u8 (0), AVal.int IntKind.u8 (0), AVal.int IntKind.u8 (0), AVal.int IntKind.u8 (0)] := by kernel_rfl
theorem isStr63 : E.P.isStr 63 = false := by kernel_rfl
theorem isInt63 : E.P.isInt 63 = false := by kernel_rfl
theorem isComp63 : E.P.isComp 63 = true := by kernel_rfl
theorem arrO63 : E.P.arrO 63 = some (64, 1, false) := by kernel_rfl
theorem und63 : (E.P.underlying 63).isSome = true := by kernel_rfl
theorem guard63 : E.P.eqGuardType E.P.depth 63 = false := by kernel_rfl
theorem places63_0 : E.P.places 63 0 = some (0, 1) := by kernel_rfl
theorem places63_1 : E.P.places 63 1 = some (1, 1) := by kernel_rfl
theorem places63_2 : E.P.places 63 2 = some (2, 1) := by kernel_rfl
theorem places63_3 : E.P.places 63 3 = some (3, 1) := by kernel_rfl
theorem places63_4 : E.P.places 63 4 = some (4, 1) := by kernel_rfl
theorem places63_5 : E.P.places 63 5 = some (5, 1) := by kernel_rfl
theorem places63_6 : E.P.places 63 6 = some (6, 1) := by kernel_rfl
theorem places63_7 : E.P.places 63 7 = some (7, 1) := by kernel_rfl
theorem places63_8 : E.P.places 63 8 = some (8, 1) := by kernel_rfl
theorem places63_9 : E.P.places 63 9 = some (9, 1) := by kernel_rfl
theorem places63_10 : E.P.places 63 10 = some (10, 1) := by kernel_rfl
theorem places63_11 : E.P.places 63 11 = some (11, 1) := by kernel_rfl
theorem places63_12 : E.P.places 63 12 = some (12, 1) := by kernel_rfl
theorem places63_13 : E.P.places 63 13 = some (13, 1) := by kernel_rfl
theorem places63_14 : E.P.places 63 14 = some (14, 1) := by kernel_rfl
theorem places63_15 : E.P.places 63 15 = some (15, 1) := by kernel_rfl
theorem places63_16 : E.P.places 63 16 = some (16, 1) := by kernel_rfl
theorem places63_17 : E.P.places 63 17 = some (17, 1) := by kernel_rfl
theorem places63_18 : E.P.places 63 18 = some (18, 1) := by kernel_rfl
theorem places63_19 : E.P.places 63 19 = some (19, 1) := by kernel_rfl
theorem places63_20 : E.P.places 63 20 = some (20, 1) := by kernel_rfl
theorem places63_21 : E.P.places 63 21 = some (21, 1) := by kernel_rfl
theorem places63_22 : E.P.places 63 22 = some (22, 1) := by kernel_rfl
theorem places63_23 : E.P.places 63 23 = some (23, 1) := by kernel_rfl
theorem places63_24 : E.P.places 63 24 = some (24, 1) := by kernel_rfl
theorem places63_25 : E.P.places 63 25 = some (25, 1) := by kernel_rfl
theorem places63_26 : E.P.places 63 26 = some (26, 1) := by kernel_rfl
theorem places63_27 : E.P.places 63 27 = some (27, 1) := by kernel_rfl
theorem places63_28 : E.P.places 63 28 = some (28, 1) := by kernel_rfl
theorem places63_29 : E.P.places 63 29 = some (29, 1) := by kernel_rfl
theorem places63_30 : E.P.places 63 30 = some (30, 1) := by kernel_rfl
theorem places63_31 : E.P.places 63 31 = some (31, 1) := by kernel_rfl
theorem places63_32 : E.P.places 63 32 = some (32, 1) := by kernel_rfl
theorem places63_33 : E.P.places 63 33 = some (33, 1) := by kernel_rfl
theorem places63_34 : E.P.places 63 34 = some (34, 1) := by kernel_rfl
theorem places63_35 : E.P.places 63 35 = some (35, 1) := by kernel_rfl
theorem places63_36 : E.P.places 63 36 = some (36, 1) := by kernel_rfl
theorem places63_37 : E.P.places 63 37 = some (37, 1) := by kernel_rfl
theorem places63_38 : E.P.places 63 38 = some (38, 1) := by kernel_rfl
theorem places63_39 : E.P.places 63 39 = some (39, 1) := by kernel_rfl
theorem places63_40 : E.P.places 63 40 = some (40, 1) := by kernel_rfl
theorem places63_41 : E.P.places 63 41 = some (41, 1) := by kernel_rfl
theorem places63_42 : E.P.places 63 42 = some (42, 1) := by kernel_rfl
theorem places63_43 : E.P.places 63 43 = some (43, 1) := by kernel_rfl
theorem places63_44 : E.P.places 63 44 = some (44, 1) := by kernel_rfl
theorem places63_45 : E.P.places 63 45 = some (45, 1) := by kernel_rfl
theorem places63_46 : E.P.places 63 46 = some (46, 1) := by kernel_rfl
theorem places63_47 : E.P.places 63 47 = some (47, 1) := by kernel_rfl
theorem places63_48 : E.P.places 63 48 = some (48, 1) := by kernel_rfl
theorem places63_49 : E.P.places 63 49 = some (49, 1) := by kernel_rfl
theorem places63_50 : E.P.places 63 50 = some (50, 1) := by kernel_rfl
theorem places63_51 : E.P.places 63 51 = some (51, 1) := by kernel_rfl
theorem places63_52 : E.P.places 63 52 = some (52, 1) := by kernel_rfl
theorem places63_53 : E.P.places 63 53 = some (53, 1) := by kernel_rfl
theorem places63_54 : E.P.places 63 54 = some (54, 1) := by kernel_rfl
theorem places63_55 : E.P.places 63 55 = some (55, 1) := by kernel_rfl
theorem places63_56 : E.P.places 63 56 = some (56, 1) := by kernel_rfl
theorem places63_57 : E.P.places 63 57 = some (57, 1) := by kernel_rfl
theorem places63_58 : E.P.places 63 58 = some (58, 1) := by kernel_rfl
theorem places63_59 : E.P.places 63 59 = some (59, 1) := by kernel_rfl
theorem places63_60 : E.P.places 63 60 = some (60, 1) := by kernel_rfl
theorem places63_61 : E.P.places 63 61 = some (61, 1) := by kernel_rfl
theorem places63_62 : E.P.places 63 62 = some (62, 1) := by kernel_rfl
theorem places63_63 : E.P.places 63 63 = some (63, 1) := by kernel_rfl
theorem places63_64 : E.P.places 63 64 = some (64, 1) := by kernel_rfl
theorem places63_65 : E.P.places 63 65 = some (65, 1) := by kernel_rfl
theorem places63_66 : E.P.places 63 66 = some (66, 1) := by kernel_rfl
theorem places63_67 : E.P.places 63 67 = some (67, 1) := by kernel_rfl
theorem places63_68 : E.P.places 63 68 = some (68, 1) := by kernel_rfl
theorem places63_69 : E.P.places 63 69 = some (69, 1) := by kernel_rfl
theorem szO64 : E.P.szO 64 = some 1 := by kernel_rfl
theorem rowO64 : E.P.rowO 64 = some false := by kernel_rfl
theorem zeroL64 : E.P.zeroL 64 = some [AVal.sc (Value.slice none 0 0)] := by kernel_rfl
theorem elemO64 : E.P.elemO 64 = some 1 := by kernel_rfl
theorem elemBytes64 : E.P.elemBytes 64 = some 4 := by kernel_rfl
theorem elemZero64 : E.P.elemZero 64 = some [AVal.int IntKind.u32 (0)] := by kernel_rfl
theorem isStr64 : E.P.isStr 64 = false := by kernel_rfl
theorem isInt64 : E.P.isInt 64 = false := by kernel_rfl
theorem und64 : (E.P.underlying 64).isSome = true := by kernel_rfl
theorem guard64 : E.P.eqGuardType E.P.depth 64 = false := by kernel_rfl
theorem szO65 : E.P.szO 65 = some 1 := by kernel_rfl
theorem rowO65 : E.P.rowO 65 = some false := by kernel_rfl
theorem zeroL65 : E.P.zeroL 65 = some [AVal.sc Value.nilFunc] := by kernel_rfl
theorem isStr65 : E.P.isStr 65 = false := by kernel_rfl
theorem isInt65 : E.P.isInt 65 = false := by kernel_rfl
theorem und65 : (E.P.underlying 65).isSome = true := by kernel_rfl
theorem guard65 : E.P.eqGuardType E.P.depth 65 = false := by kernel_rfl
theorem szO66 : E.P.szO 66 = some 1 := by kernel_rfl
theorem rowO66 : E.P.rowO 66 = some false := by kernel_rfl
theorem zeroL66 : E.P.zeroL 66 = some [AVal.sc Value.nilFunc] := by kernel_rfl
theorem isStr66 : E.P.isStr 66 = false := by kernel_rfl
theorem isInt66 : E.P.isInt 66 = false := by kernel_rfl
theorem und66 : (E.P.underlying 66).isSome = true := by kernel_rfl
theorem guard66 : E.P.eqGuardType E.P.depth 66 = false := by kernel_rfl
theorem szO67 : E.P.szO 67 = some 1 := by kernel_rfl
theorem rowO67 : E.P.rowO 67 = some false := by kernel_rfl
theorem zeroL67 : E.P.zeroL 67 = some [AVal.sc (Value.pointer none)] := by kernel_rfl
theorem isStr67 : E.P.isStr 67 = false := by kernel_rfl
theorem isInt67 : E.P.isInt 67 = false := by kernel_rfl
theorem und67 : (E.P.underlying 67).isSome = true := by kernel_rfl
theorem guard67 : E.P.eqGuardType E.P.depth 67 = false := by kernel_rfl
theorem szO68 : E.P.szO 68 = some 1 := by kernel_rfl
theorem rowO68 : E.P.rowO 68 = some false := by kernel_rfl
theorem zeroL68 : E.P.zeroL 68 = some [AVal.sc Value.nilFunc] := by kernel_rfl
theorem isStr68 : E.P.isStr 68 = false := by kernel_rfl
theorem isInt68 : E.P.isInt 68 = false := by kernel_rfl
theorem und68 : (E.P.underlying 68).isSome = true := by kernel_rfl
theorem guard68 : E.P.eqGuardType E.P.depth 68 = false := by kernel_rfl
theorem szO69 : E.P.szO 69 = some 24 := by kernel_rfl
theorem rowO69 : E.P.rowO 69 = some true := by kernel_rfl
theorem zeroL69 : E.P.zeroL 69 = some [AVal.int IntKind.u8 (0), AVal.int IntKind.u8 (0), AVal.int IntKind.u8 (0), AVal.int IntKind.u8 (0), AVal.int IntKind.u8 (0), AVal.int IntKind.u8 (0), AVal.int IntKind.u8 (0), AVal.int IntKind.u8 (0), AVal.int IntKind.u8 (0), AVal.int IntKind.u8 (0), AVal.int IntKind.u8 (0), AVal.int IntKind.u8 (0), AVal.int IntKind.u8 (0), AVal.int IntKind.u8 (0), AVal.int IntKind.u8 (0), AVal.int IntKind.u8 (0), AVal.int IntKind.u8 (0), AVal.int IntKind.u8 (0), AVal.int IntKind.u8 (0), AVal.int IntKind.u8 (0), AVal.int IntKind.u8 (0), AVal.int IntKind.u8 (0), AVal.int IntKind.u8 (0), AVal.int IntKind.u8 (0)] := by kernel_rfl
theorem isStr69 : E.P.isStr 69 = false := by kernel_rfl
theorem isInt69 : E.P.isInt 69 = false := by kernel_rfl
theorem isComp69 : E.P.isComp 69 = true := by kernel_rfl
theorem arrO69 : E.P.arrO 69 = some (24, 1, false) := by kernel_rfl
theorem und69 : (E.P.underlying 69).isSome = true := by kernel_rfl
theorem guard69 : E.P.eqGuardType E.P.depth 69 = false := by kernel_rfl
theorem places69_0 : E.P.places 69 0 = some (0, 1) := by kernel_rfl
theorem places69_1 : E.P.places 69 1 = some (1, 1) := by kernel_rfl
theorem places69_2 : E.P.places 69 2 = some (2, 1) := by kernel_rfl
theorem places69_3 : E.P.places 69 3 = some (3, 1) := by kernel_rfl
theorem places69_4 : E.P.places 69 4 = some (4, 1) := by kernel_rfl
theorem places69_5 : E.P.places 69 5 = some (5, 1) := by kernel_rfl
theorem places69_6 : E.P.places 69 6 = some (6, 1) := by kernel_rfl
theorem places69_7 : E.P.places 69 7 = some (7, 1) := by kernel_rfl
theorem places69_8 : E.P.places 69 8 = some (8, 1) := by kernel_rfl
theorem places69_9 : E.P.places 69 9 = some (9, 1) := by kernel_rfl
theorem places69_10 : E.P.places 69 10 = some (10, 1) := by kernel_rfl
theorem places69_11 : E.P.places 69 11 = some (11, 1) := by kernel_rfl
theorem places69_12 : E.P.places 69 12 = some (12, 1) := by kernel_rfl
theorem places69_13 : E.P.places 69 13 = some (13, 1) := by kernel_rfl
theorem places69_14 : E.P.places 69 14 = some (14, 1) := by kernel_rfl
theorem places69_15 : E.P.places 69 15 = some (15, 1) := by kernel_rfl
theorem places69_16 : E.P.places 69 16 = some (16, 1) := by kernel_rfl
theorem places69_17 : E.P.places 69 17 = some (17, 1) := by kernel_rfl
theorem places69_18 : E.P.places 69 18 = some (18, 1) := by kernel_rfl
theorem places69_19 : E.P.places 69 19 = some (19, 1) := by kernel_rfl
theorem places69_20 : E.P.places 69 20 = some (20, 1) := by kernel_rfl
theorem places69_21 : E.P.places 69 21 = some (21, 1) := by kernel_rfl
theorem places69_22 : E.P.places 69 22 = some (22, 1) := by kernel_rfl
theorem places69_23 : E.P.places 69 23 = some (23, 1) := by kernel_rfl
theorem places69_24 : E.P.places 69 24 = some (24, 1) := by kernel_rfl
theorem places69_25 : E.P.places 69 25 = some (25, 1) := by kernel_rfl
theorem places69_26 : E.P.places 69 26 = some (26, 1) := by kernel_rfl
theorem places69_27 : E.P.places 69 27 = some (27, 1) := by kernel_rfl
theorem places69_28 : E.P.places 69 28 = some (28, 1) := by kernel_rfl
theorem places69_29 : E.P.places 69 29 = some (29, 1) := by kernel_rfl
theorem places69_30 : E.P.places 69 30 = some (30, 1) := by kernel_rfl
theorem places69_31 : E.P.places 69 31 = some (31, 1) := by kernel_rfl
theorem places69_32 : E.P.places 69 32 = some (32, 1) := by kernel_rfl
theorem places69_33 : E.P.places 69 33 = some (33, 1) := by kernel_rfl
theorem places69_34 : E.P.places 69 34 = some (34, 1) := by kernel_rfl
theorem places69_35 : E.P.places 69 35 = some (35, 1) := by kernel_rfl
theorem places69_36 : E.P.places 69 36 = some (36, 1) := by kernel_rfl
theorem places69_37 : E.P.places 69 37 = some (37, 1) := by kernel_rfl
theorem places69_38 : E.P.places 69 38 = some (38, 1) := by kernel_rfl
theorem places69_39 : E.P.places 69 39 = some (39, 1) := by kernel_rfl
theorem places69_40 : E.P.places 69 40 = some (40, 1) := by kernel_rfl
theorem places69_41 : E.P.places 69 41 = some (41, 1) := by kernel_rfl
theorem places69_42 : E.P.places 69 42 = some (42, 1) := by kernel_rfl
theorem places69_43 : E.P.places 69 43 = some (43, 1) := by kernel_rfl
theorem places69_44 : E.P.places 69 44 = some (44, 1) := by kernel_rfl
theorem places69_45 : E.P.places 69 45 = some (45, 1) := by kernel_rfl
theorem places69_46 : E.P.places 69 46 = some (46, 1) := by kernel_rfl
theorem places69_47 : E.P.places 69 47 = some (47, 1) := by kernel_rfl
theorem places69_48 : E.P.places 69 48 = some (48, 1) := by kernel_rfl
theorem places69_49 : E.P.places 69 49 = some (49, 1) := by kernel_rfl
theorem places69_50 : E.P.places 69 50 = some (50, 1) := by kernel_rfl
theorem places69_51 : E.P.places 69 51 = some (51, 1) := by kernel_rfl
theorem places69_52 : E.P.places 69 52 = some (52, 1) := by kernel_rfl
theorem places69_53 : E.P.places 69 53 = some (53, 1) := by kernel_rfl
theorem places69_54 : E.P.places 69 54 = some (54, 1) := by kernel_rfl
theorem places69_55 : E.P.places 69 55 = some (55, 1) := by kernel_rfl
theorem places69_56 : E.P.places 69 56 = some (56, 1) := by kernel_rfl
theorem places69_57 : E.P.places 69 57 = some (57, 1) := by kernel_rfl
theorem places69_58 : E.P.places 69 58 = some (58, 1) := by kernel_rfl
theorem places69_59 : E.P.places 69 59 = some (59, 1) := by kernel_rfl
theorem places69_60 : E.P.places 69 60 = some (60, 1) := by kernel_rfl
theorem places69_61 : E.P.places 69 61 = some (61, 1) := by kernel_rfl
theorem places69_62 : E.P.places 69 62 = some (62, 1) := by kernel_rfl
theorem places69_63 : E.P.places 69 63 = some (63, 1) := by kernel_rfl
theorem places69_64 : E.P.places 69 64 = some (64, 1) := by kernel_rfl
theorem places69_65 : E.P.places 69 65 = some (65, 1) := by kernel_rfl
theorem places69_66 : E.P.places 69 66 = some (66, 1) := by kernel_rfl
theorem places69_67 : E.P.places 69 67 = some (67, 1) := by kernel_rfl
theorem places69_68 : E.P.places 69 68 = some (68, 1) := by kernel_rfl
theorem places69_69 : E.P.places 69 69 = some (69, 1) := by kernel_rfl
theorem szO70 : E.P.szO 70 = some 1 := by kernel_rfl
theorem rowO70 : E.P.rowO 70 = some false := by kernel_rfl
theorem zeroL70 : E.P.zeroL 70 = some [AVal.sc Value.nilFunc] := by kernel_rfl
theorem isStr70 : E.P.isStr 70 = false := by kernel_rfl
theorem isInt70 : E.P.isInt 70 = false := by kernel_rfl
theorem und70 : (E.P.underlying 70).isSome = true := by kernel_rfl
theorem guard70 : E.P.eqGuardType E.P.depth 70 = false := by kernel_rfl
theorem szO71 : E.P.szO 71 = some 1 := by kernel_rfl
theorem rowO71 : E.P.rowO 71 = some false := by kernel_rfl
theorem zeroL71 : E.P.zeroL 71 = some [AVal.sc Value.nilFunc] := by kernel_rfl
theorem isStr71 : E.P.isStr 71 = false := by kernel_rfl
theorem isInt71 : E.P.isInt 71 = false := by kernel_rfl
theorem und71 : (E.P.underlying 71).isSome = true := by kernel_rfl
theorem guard71 : E.P.eqGuardType E.P.depth 71 = false := by kernel_rfl
theorem szO72 : E.P.szO 72 = some 1 := by kernel_rfl
theorem rowO72 : E.P.rowO 72 = some false := by kernel_rfl
theorem zeroL72 : E.P.zeroL 72 = some [AVal.sc (Value.tuple { toList := [Value.slice none 0 0, Value.string { data := { toList := [] } }] })] := by kernel_rfl
theorem isStr72 : E.P.isStr 72 = false := by kernel_rfl
theorem isInt72 : E.P.isInt 72 = false := by kernel_rfl
theorem und72 : (E.P.underlying 72).isSome = true := by kernel_rfl
theorem guard72 : E.P.eqGuardType E.P.depth 72 = false := by kernel_rfl
theorem szO73 : E.P.szO 73 = some 1 := by kernel_rfl
theorem rowO73 : E.P.rowO 73 = some false := by kernel_rfl
theorem zeroL73 : E.P.zeroL 73 = some [AVal.sc Value.nilFunc] := by kernel_rfl
theorem isStr73 : E.P.isStr 73 = false := by kernel_rfl
theorem isInt73 : E.P.isInt 73 = false := by kernel_rfl
theorem und73 : (E.P.underlying 73).isSome = true := by kernel_rfl
theorem guard73 : E.P.eqGuardType E.P.depth 73 = false := by kernel_rfl
theorem szO74 : E.P.szO 74 = some 1 := by kernel_rfl
theorem rowO74 : E.P.rowO 74 = some false := by kernel_rfl
theorem zeroL74 : E.P.zeroL 74 = some [AVal.sc (Value.slice none 0 0)] := by kernel_rfl
theorem elemO74 : E.P.elemO 74 = some 1 := by kernel_rfl
theorem elemBytes74 : E.P.elemBytes 74 = some 24 := by kernel_rfl
theorem elemZero74 : E.P.elemZero 74 = some [AVal.sc (Value.slice none 0 0)] := by kernel_rfl
theorem isStr74 : E.P.isStr 74 = false := by kernel_rfl
theorem isInt74 : E.P.isInt 74 = false := by kernel_rfl
theorem und74 : (E.P.underlying 74).isSome = true := by kernel_rfl
theorem guard74 : E.P.eqGuardType E.P.depth 74 = false := by kernel_rfl
theorem szO75 : E.P.szO 75 = some 1 := by kernel_rfl
theorem rowO75 : E.P.rowO 75 = some false := by kernel_rfl
theorem zeroL75 : E.P.zeroL 75 = some [AVal.sc Value.nilFunc] := by kernel_rfl
theorem isStr75 : E.P.isStr 75 = false := by kernel_rfl
theorem isInt75 : E.P.isInt 75 = false := by kernel_rfl
theorem und75 : (E.P.underlying 75).isSome = true := by kernel_rfl
theorem guard75 : E.P.eqGuardType E.P.depth 75 = false := by kernel_rfl
theorem szO76 : E.P.szO 76 = some 64 := by kernel_rfl
theorem rowO76 : E.P.rowO 76 = some true := by kernel_rfl
theorem zeroL76 : E.P.zeroL 76 = some [AVal.int IntKind.u32 (0), AVal.int IntKind.u32 (0), AVal.int IntKind.u32 (0), AVal.int IntKind.u32 (0), AVal.int IntKind.u32 (0), AVal.int IntKind.u32 (0), AVal.int IntKind.u32 (0), AVal.int IntKind.u32 (0), AVal.int IntKind.u32 (0), AVal.int IntKind.u32 (0), AVal.int IntKind.u32 (0), AVal.int IntKind.u32 (0), AVal.int IntKind.u32 (0), AVal.int IntKind.u32 (0), AVal.int IntKind.u32 (0), AVal.int IntKind.u32 (0), AVal.int IntKind.u32 (0), AVal.int IntKind.u32 (0), AVal.int IntKind.u32 (0), AVal.int IntKind.u32 (0), AVal.int IntKind.u32 (0), AVal.int IntKind.u32 (0), AVal.int IntKind.u32 (0), AVal.int IntKind.u32 (0), AVal.int IntKind.u32 (0), AVal.int IntKind.u32 (0), AVal.int IntKind.u32 (0), AVal.int IntKind.u32 (0), AVal.int IntKind.u32 (0), AVal.int IntKind.u32 (0), AVal.int IntKind.u32 (0), AVal.int IntKind.u32 (0), AVal.int IntKind.u32 (0), AVal.int IntKind.u32 (0), AVal.int IntKind.u32 (0), AVal.int IntKind.u32 (0), AVal.int IntKind.u32 (0), AVal.int IntKind.u32 (0), AVal.int IntKind.u32 (0), AVal.int IntKind.u32 (0), AVal.int IntKind.u32 (0), AVal.int IntKind.u32 (0), AVal.int IntKind.u32 (0), AVal.int IntKind.u32 (0), AVal.int IntKind.u32 (0), AVal.int IntKind.u32 (0), AVal.int IntKind.u32 (0), AVal.int IntKind.u32 (0), AVal.int IntKind.u32 (0), AVal.int IntKind.u32 (0), AVal.int IntKind.u32 (0), AVal.int IntKind.u32 (0), AVal.int IntKind.u32 (0), AVal.int IntKind.u32 (0), AVal.int IntKind.u32 (0), AVal.int IntKind.u32 (0), AVal.int IntKind.u32 (0), AVal.int IntKind.u32 (0), AVal.int IntKind.u32 (0), AVal.int IntKind.u32 (0), AVal.int IntKind.u32 (0), AVal.int IntKind.u32 (0), AVal.int IntKind.u32 (0), AVal.int IntKind.u32 (0)] := by kernel_rfl
theorem isStr76 : E.P.isStr 76 = false := by kernel_rfl
theorem isInt76 : E.P.isInt 76 = false := by kernel_rfl
theorem isComp76 : E.P.isComp 76 = true := by kernel_rfl
theorem arrO76 : E.P.arrO 76 = some (64, 1, false) := by kernel_rfl
theorem und76 : (E.P.underlying 76).isSome = true := by kernel_rfl
theorem guard76 : E.P.eqGuardType E.P.depth 76 = false := by kernel_rfl
theorem places76_0 : E.P.places 76 0 = some (0, 1) := by kernel_rfl
theorem places76_1 : E.P.places 76 1 = some (1, 1) := by kernel_rfl
theorem places76_2 : E.P.places 76 2 = some (2, 1) := by kernel_rfl
theorem places76_3 : E.P.places 76 3 = some (3, 1) := by kernel_rfl
theorem places76_4 : E.P.places 76 4 = some (4, 1) := by kernel_rfl
theorem places76_5 : E.P.places 76 5 = some (5, 1) := by kernel_rfl
theorem places76_6 : E.P.places 76 6 = some (6, 1) := by kernel_rfl
theorem places76_7 : E.P.places 76 7 = some (7, 1) := by kernel_rfl
theorem places76_8 : E.P.places 76 8 = some (8, 1) := by kernel_rfl
theorem places76_9 : E.P.places 76 9 = some (9, 1) := by kernel_rfl
theorem places76_10 : E.P.places 76 10 = some (10, 1) := by kernel_rfl
theorem places76_11 : E.P.places 76 11 = some (11, 1) := by kernel_rfl
theorem places76_12 : E.P.places 76 12 = some (12, 1) := by kernel_rfl
theorem places76_13 : E.P.places 76 13 = some (13, 1) := by kernel_rfl
theorem places76_14 : E.P.places 76 14 = some (14, 1) := by kernel_rfl
theorem places76_15 : E.P.places 76 15 = some (15, 1) := by kernel_rfl
theorem places76_16 : E.P.places 76 16 = some (16, 1) := by kernel_rfl
theorem places76_17 : E.P.places 76 17 = some (17, 1) := by kernel_rfl
theorem places76_18 : E.P.places 76 18 = some (18, 1) := by kernel_rfl
theorem places76_19 : E.P.places 76 19 = some (19, 1) := by kernel_rfl
theorem places76_20 : E.P.places 76 20 = some (20, 1) := by kernel_rfl
theorem places76_21 : E.P.places 76 21 = some (21, 1) := by kernel_rfl
theorem places76_22 : E.P.places 76 22 = some (22, 1) := by kernel_rfl
theorem places76_23 : E.P.places 76 23 = some (23, 1) := by kernel_rfl
theorem places76_24 : E.P.places 76 24 = some (24, 1) := by kernel_rfl
theorem places76_25 : E.P.places 76 25 = some (25, 1) := by kernel_rfl
theorem places76_26 : E.P.places 76 26 = some (26, 1) := by kernel_rfl
theorem places76_27 : E.P.places 76 27 = some (27, 1) := by kernel_rfl
theorem places76_28 : E.P.places 76 28 = some (28, 1) := by kernel_rfl
theorem places76_29 : E.P.places 76 29 = some (29, 1) := by kernel_rfl
theorem places76_30 : E.P.places 76 30 = some (30, 1) := by kernel_rfl
theorem places76_31 : E.P.places 76 31 = some (31, 1) := by kernel_rfl
theorem places76_32 : E.P.places 76 32 = some (32, 1) := by kernel_rfl
theorem places76_33 : E.P.places 76 33 = some (33, 1) := by kernel_rfl
theorem places76_34 : E.P.places 76 34 = some (34, 1) := by kernel_rfl
theorem places76_35 : E.P.places 76 35 = some (35, 1) := by kernel_rfl
theorem places76_36 : E.P.places 76 36 = some (36, 1) := by kernel_rfl
theorem places76_37 : E.P.places 76 37 = some (37, 1) := by kernel_rfl
theorem places76_38 : E.P.places 76 38 = some (38, 1) := by kernel_rfl
theorem places76_39 : E.P.places 76 39 = some (39, 1) := by kernel_rfl
theorem places76_40 : E.P.places 76 40 = some (40, 1) := by kernel_rfl
theorem places76_41 : E.P.places 76 41 = some (41, 1) := by kernel_rfl
theorem places76_42 : E.P.places 76 42 = some (42, 1) := by kernel_rfl
theorem places76_43 : E.P.places 76 43 = some (43, 1) := by kernel_rfl
theorem places76_44 : E.P.places 76 44 = some (44, 1) := by kernel_rfl
theorem places76_45 : E.P.places 76 45 = some (45, 1) := by kernel_rfl
theorem places76_46 : E.P.places 76 46 = some (46, 1) := by kernel_rfl
theorem places76_47 : E.P.places 76 47 = some (47, 1) := by kernel_rfl
theorem places76_48 : E.P.places 76 48 = some (48, 1) := by kernel_rfl
theorem places76_49 : E.P.places 76 49 = some (49, 1) := by kernel_rfl
theorem places76_50 : E.P.places 76 50 = some (50, 1) := by kernel_rfl
theorem places76_51 : E.P.places 76 51 = some (51, 1) := by kernel_rfl
theorem places76_52 : E.P.places 76 52 = some (52, 1) := by kernel_rfl
theorem places76_53 : E.P.places 76 53 = some (53, 1) := by kernel_rfl
theorem places76_54 : E.P.places 76 54 = some (54, 1) := by kernel_rfl
theorem places76_55 : E.P.places 76 55 = some (55, 1) := by kernel_rfl
theorem places76_56 : E.P.places 76 56 = some (56, 1) := by kernel_rfl
theorem places76_57 : E.P.places 76 57 = some (57, 1) := by kernel_rfl
theorem places76_58 : E.P.places 76 58 = some (58, 1) := by kernel_rfl
theorem places76_59 : E.P.places 76 59 = some (59, 1) := by kernel_rfl
theorem places76_60 : E.P.places 76 60 = some (60, 1) := by kernel_rfl
theorem places76_61 : E.P.places 76 61 = some (61, 1) := by kernel_rfl
theorem places76_62 : E.P.places 76 62 = some (62, 1) := by kernel_rfl
theorem places76_63 : E.P.places 76 63 = some (63, 1) := by kernel_rfl
theorem places76_64 : E.P.places 76 64 = some (64, 1) := by kernel_rfl
theorem places76_65 : E.P.places 76 65 = some (65, 1) := by kernel_rfl
theorem places76_66 : E.P.places 76 66 = some (66, 1) := by kernel_rfl
theorem places76_67 : E.P.places 76 67 = some (67, 1) := by kernel_rfl
theorem places76_68 : E.P.places 76 68 = some (68, 1) := by kernel_rfl
theorem places76_69 : E.P.places 76 69 = some (69, 1) := by kernel_rfl
theorem szO77 : E.P.szO 77 = some 1 := by kernel_rfl
theorem rowO77 : E.P.rowO 77 = some false := by kernel_rfl
theorem zeroL77 : E.P.zeroL 77 = some [AVal.sc Value.nilFunc] := by kernel_rfl
theorem isStr77 : E.P.isStr 77 = false := by kernel_rfl
theorem isInt77 : E.P.isInt 77 = false := by kernel_rfl
theorem und77 : (E.P.underlying 77).isSome = true := by kernel_rfl
theorem guard77 : E.P.eqGuardType E.P.depth 77 = false := by kernel_rfl
theorem szO78 : E.P.szO 78 = some 1 := by kernel_rfl
theorem rowO78 : E.P.rowO 78 = some false := by kernel_rfl
theorem zeroL78 : E.P.zeroL 78 = some [AVal.sc Value.nilFunc] := by kernel_rfl
theorem isStr78 : E.P.isStr 78 = false := by kernel_rfl
theorem isInt78 : E.P.isInt 78 = false := by kernel_rfl
theorem und78 : (E.P.underlying 78).isSome = true := by kernel_rfl
theorem guard78 : E.P.eqGuardType E.P.depth 78 = false := by kernel_rfl
theorem szO79 : E.P.szO 79 = some 1 := by kernel_rfl
theorem rowO79 : E.P.rowO 79 = some false := by kernel_rfl
theorem zeroL79 : E.P.zeroL 79 = some [AVal.sc Value.nilFunc] := by kernel_rfl
theorem isStr79 : E.P.isStr 79 = false := by kernel_rfl
theorem isInt79 : E.P.isInt 79 = false := by kernel_rfl
theorem und79 : (E.P.underlying 79).isSome = true := by kernel_rfl
theorem guard79 : E.P.eqGuardType E.P.depth 79 = false := by kernel_rfl
theorem szO80 : E.P.szO 80 = some 1 := by kernel_rfl
theorem rowO80 : E.P.rowO 80 = some false := by kernel_rfl
theorem zeroL80 : E.P.zeroL 80 = some [AVal.sc Value.nilFunc] := by kernel_rfl
theorem isStr80 : E.P.isStr 80 = false := by kernel_rfl
theorem isInt80 : E.P.isInt 80 = false := by kernel_rfl
theorem und80 : (E.P.underlying 80).isSome = true := by kernel_rfl
theorem guard80 : E.P.eqGuardType E.P.depth 80 = false := by kernel_rfl
theorem szO81 : E.P.szO 81 = some 1 := by kernel_rfl
theorem rowO81 : E.P.rowO 81 = some false := by kernel_rfl
theorem zeroL81 : E.P.zeroL 81 = some [AVal.sc Value.nilFunc] := by kernel_rfl
theorem isStr81 : E.P.isStr 81 = false := by kernel_rfl
theorem isInt81 : E.P.isInt 81 = false := by kernel_rfl
theorem und81 : (E.P.underlying 81).isSome = true := by kernel_rfl
theorem guard81 : E.P.eqGuardType E.P.depth 81 = false := by kernel_rfl
theorem szO82 : E.P.szO 82 = some 20 := by kernel_rfl
theorem rowO82 : E.P.rowO 82 = some true := by kernel_rfl
theorem zeroL82 : E.P.zeroL 82 = some [AVal.int IntKind.u64 (0), AVal.int IntKind.u64 (0), AVal.int IntKind.u64 (0), AVal.int IntKind.u64 (0), AVal.int IntKind.u64 (0), AVal.int IntKind.u64 (0), AVal.int IntKind.u64 (0), AVal.int IntKind.u64 (0), AVal.int IntKind.u64 (0), AVal.int IntKind.u64 (0), AVal.int IntKind.u64 (0), AVal.int IntKind.u64 (0), AVal.int IntKind.u64 (0), AVal.int IntKind.u64 (0), AVal.int IntKind.u64 (0), AVal.int IntKind.u64 (0), AVal.int IntKind.u64 (0), AVal.int IntKind.u64 (0), AVal.int IntKind.u64 (0), AVal.int IntKind.u64 (0)] := by kernel_rfl
theorem isStr82 : E.P.isStr 82 = false := by kernel_rfl
theorem isInt82 : E.P.isInt 82 = false := by kernel_rfl
theorem isComp82 : E.P.isComp 82 = true := by kernel_rfl
theorem arrO82 : E.P.arrO 82 = some (20, 1, false) := by kernel_rfl
theorem und82 : (E.P.underlying 82).isSome = true := by kernel_rfl
theorem guard82 : E.P.eqGuardType E.P.depth 82 = false := by kernel_rfl
theorem places82_0 : E.P.places 82 0 = some (0, 1) := by kernel_rfl
theorem places82_1 : E.P.places 82 1 = some (1, 1) := by kernel_rfl
theorem places82_2 : E.P.places 82 2 = some (2, 1) := by kernel_rfl
theorem places82_3 : E.P.places 82 3 = some (3, 1) := by kernel_rfl
theorem places82_4 : E.P.places 82 4 = some (4, 1) := by kernel_rfl
theorem places82_5 : E.P.places 82 5 = some (5, 1) := by kernel_rfl
theorem places82_6 : E.P.places 82 6 = some (6, 1) := by kernel_rfl
theorem places82_7 : E.P.places 82 7 = some (7, 1) := by kernel_rfl
theorem places82_8 : E.P.places 82 8 = some (8, 1) := by kernel_rfl
theorem places82_9 : E.P.places 82 9 = some (9, 1) := by kernel_rfl
theorem places82_10 : E.P.places 82 10 = some (10, 1) := by kernel_rfl
theorem places82_11 : E.P.places 82 11 = some (11, 1) := by kernel_rfl
theorem places82_12 : E.P.places 82 12 = some (12, 1) := by kernel_rfl
theorem places82_13 : E.P.places 82 13 = some (13, 1) := by kernel_rfl
theorem places82_14 : E.P.places 82 14 = some (14, 1) := by kernel_rfl
theorem places82_15 : E.P.places 82 15 = some (15, 1) := by kernel_rfl
theorem places82_16 : E.P.places 82 16 = some (16, 1) := by kernel_rfl
theorem places82_17 : E.P.places 82 17 = some (17, 1) := by kernel_rfl
theorem places82_18 : E.P.places 82 18 = some (18, 1) := by kernel_rfl
theorem places82_19 : E.P.places 82 19 = some (19, 1) := by kernel_rfl
theorem places82_20 : E.P.places 82 20 = some (20, 1) := by kernel_rfl
theorem places82_21 : E.P.places 82 21 = some (21, 1) := by kernel_rfl
theorem places82_22 : E.P.places 82 22 = some (22, 1) := by kernel_rfl
theorem places82_23 : E.P.places 82 23 = some (23, 1) := by kernel_rfl
theorem places82_24 : E.P.places 82 24 = some (24, 1) := by kernel_rfl
theorem places82_25 : E.P.places 82 25 = some (25, 1) := by kernel_rfl
theorem places82_26 : E.P.places 82 26 = some (26, 1) := by kernel_rfl
theorem places82_27 : E.P.places 82 27 = some (27, 1) := by kernel_rfl
theorem places82_28 : E.P.places 82 28 = some (28, 1) := by kernel_rfl
theorem places82_29 : E.P.places 82 29 = some (29, 1) := by kernel_rfl
theorem places82_30 : E.P.places 82 30 = some (30, 1) := by kernel_rfl
theorem places82_31 : E.P.places 82 31 = some (31, 1) := by kernel_rfl
theorem places82_32 : E.P.places 82 32 = some (32, 1) := by kernel_rfl
theorem places82_33 : E.P.places 82 33 = some (33, 1) := by kernel_rfl
theorem places82_34 : E.P.places 82 34 = some (34, 1) := by kernel_rfl
theorem places82_35 : E.P.places 82 35 = some (35, 1) := by kernel_rfl
theorem places82_36 : E.P.places 82 36 = some (36, 1) := by kernel_rfl
theorem places82_37 : E.P.places 82 37 = some (37, 1) := by kernel_rfl
theorem places82_38 : E.P.places 82 38 = some (38, 1) := by kernel_rfl
theorem places82_39 : E.P.places 82 39 = some (39, 1) := by kernel_rfl
theorem places82_40 : E.P.places 82 40 = some (40, 1) := by kernel_rfl
theorem places82_41 : E.P.places 82 41 = some (41, 1) := by kernel_rfl
theorem places82_42 : E.P.places 82 42 = some (42, 1) := by kernel_rfl
theorem places82_43 : E.P.places 82 43 = some (43, 1) := by kernel_rfl
theorem places82_44 : E.P.places 82 44 = some (44, 1) := by kernel_rfl
theorem places82_45 : E.P.places 82 45 = some (45, 1) := by kernel_rfl
theorem places82_46 : E.P.places 82 46 = some (46, 1) := by kernel_rfl
theorem places82_47 : E.P.places 82 47 = some (47, 1) := by kernel_rfl
theorem places82_48 : E.P.places 82 48 = some (48, 1) := by kernel_rfl
theorem places82_49 : E.P.places 82 49 = some (49, 1) := by kernel_rfl
theorem places82_50 : E.P.places 82 50 = some (50, 1) := by kernel_rfl
theorem places82_51 : E.P.places 82 51 = some (51, 1) := by kernel_rfl
theorem places82_52 : E.P.places 82 52 = some (52, 1) := by kernel_rfl
theorem places82_53 : E.P.places 82 53 = some (53, 1) := by kernel_rfl
theorem places82_54 : E.P.places 82 54 = some (54, 1) := by kernel_rfl
theorem places82_55 : E.P.places 82 55 = some (55, 1) := by kernel_rfl
theorem places82_56 : E.P.places 82 56 = some (56, 1) := by kernel_rfl
theorem places82_57 : E.P.places 82 57 = some (57, 1) := by kernel_rfl
theorem places82_58 : E.P.places 82 58 = some (58, 1) := by kernel_rfl
theorem places82_59 : E.P.places 82 59 = some (59, 1) := by kernel_rfl
theorem places82_60 : E.P.places 82 60 = some (60, 1) := by kernel_rfl
theorem places82_61 : E.P.places 82 61 = some (61, 1) := by kernel_rfl
theorem places82_62 : E.P.places 82 62 = some (62, 1) := by kernel_rfl
theorem places82_63 : E.P.places 82 63 = some (63, 1) := by kernel_rfl
theorem places82_64 : E.P.places 82 64 = some (64, 1) := by kernel_rfl
theorem places82_65 : E.P.places 82 65 = some (65, 1) := by kernel_rfl
theorem places82_66 : E.P.places 82 66 = some (66, 1) := by kernel_rfl
theorem places82_67 : E.P.places 82 67 = some (67, 1) := by kernel_rfl
theorem places82_68 : E.P.places 82 68 = some (68, 1) := by kernel_rfl
theorem places82_69 : E.P.places 82 69 = some (69, 1) := by kernel_rfl
theorem szO83 : E.P.szO 83 = some 65 := by kernel_rfl
theorem rowO83 : E.P.rowO 83 = some true := by kernel_rfl
theorem zeroL83 : E.P.zeroL 83 = some [AVal.int IntKind.u8 (0), AVal.int IntKind.u8 (0), AVal.int IntKind.u8 (0), AVal.int IntKind.u8 (0), AVal.int IntKind.u8 (0), AVal.int IntKind.u8 (0), AVal.int IntKind.u8 (0), AVal.int IntKind.u8 (0), AVal.int IntKind.u8 (0), AVal.int IntKind.u8 (0), AVal.int IntKind.u8 (0), AVal.int IntKind.u8 (0), AVal.int IntKind.u8 (0), AVal.int IntKind.u8 (0), AVal.int IntKind.u8 (0), AVal.int IntKind.u8 (0), AVal.int IntKind.u8 (0), AVal.int IntKind.u8 (0), AVal.int IntKind.u8 (0), AVal.int IntKind.u8 (0), AVal.int IntKind.u8 (0), AVal.int IntKind.u8 (0), AVal.int IntKind.u8 (0), AVal.int IntKind.u8 (0), AVal.int IntKind.u8 (0), AVal.int IntKind.u8 (0), AVal.int IntKind.u8 (0), AVal.int IntKind.u8 (0), AVal.int IntKind.u8 (0), AVal.int IntKind.u8 (0), AVal.int IntKind.u8 (0), AVal.int IntKind.u8 (0), AVal.int IntKind.u8 (0), AVal.int IntKind.u8 (0), AVal.int IntKind.u8 (0), AVal.int IntKind.u8 (0), AVal.int IntKind.u8 (0), AVal.int IntKind.u8 (0), AVal.int IntKind.u8 (0), AVal.int IntKind.u8 (0), AVal.int IntKind.u8 (0), AVal.int IntKind.u8 (0), AVal.int IntKind.u8 (0), AVal.int IntKind.u8 (0), AVal.int IntKind.u8 (0), AVal.int IntKind.u8 (0), AVal.int IntKind.u8 (0), AVal.int IntKind.u8 (0), AVal.int IntKind.u8 (0), AVal.int IntKind.u8 (0), AVal.int IntKind.u8 (0), AVal.int IntKind.u8 (0), AVal.int IntKind.u8 (0), AVal.int IntKind.u8 (0), AVal.int IntKind.u8 (0), AVal.int IntKind.u8 (0), AVal.int IntKind.u8 (0), AVal.int IntKind.u8 (0), AVal.int IntKind.u8 (0), AVal.int IntKind.u8 (0), AVal.int IntKind.u8 (0), AVal.int IntKind.u8 (0), AVal.int IntKind.u8 (0), AVal.int IntKind.u8 (0), AVal.int IntKind.u8 (0)] := by kernel_rfl
theorem isStr83 : E.P.isStr 83 = false := by kernel_rfl
theorem isInt83 : E.P.isInt 83 = false := by kernel_rfl
theorem isComp83 : E.P.isComp 83 = true := by kernel_rfl
theorem arrO83 : E.P.arrO 83 = some (65, 1, false) := by kernel_rfl
theorem und83 : (E.P.underlying 83).isSome = true := by kernel_rfl
theorem guard83 : E.P.eqGuardType E.P.depth 83 = false := by kernel_rfl
theorem places83_0 : E.P.places 83 0 = some (0, 1) := by kernel_rfl
theorem places83_1 : E.P.places 83 1 = some (1, 1) := by kernel_rfl
theorem places83_2 : E.P.places 83 2 = some (2, 1) := by kernel_rfl
theorem places83_3 : E.P.places 83 3 = some (3, 1) := by kernel_rfl
theorem places83_4 : E.P.places 83 4 = some (4, 1) := by kernel_rfl
theorem places83_5 : E.P.places 83 5 = some (5, 1) := by kernel_rfl
theorem places83_6 : E.P.places 83 6 = some (6, 1) := by kernel_rfl
theorem places83_7 : E.P.places 83 7 = some (7, 1) := by kernel_rfl
theorem places83_8 : E.P.places 83 8 = some (8, 1) := by kernel_rfl
theorem places83_9 : E.P.places 83 9 = some (9, 1) := by kernel_rfl
theorem places83_10 : E.P.places 83 10 = some (10, 1) := by kernel_rfl
theorem places83_11 : E.P.places 83 11 = some (11, 1) := by kernel_rfl
theorem places83_12 : E.P.places 83 12 = some (12, 1) := by kernel_rfl
theorem places83_13 : E.P.places 83 13 = some (13, 1) := by kernel_rfl
theorem places83_14 : E.P.places 83 14 = some (14, 1) := by kernel_rfl
theorem places83_15 : E.P.places 83 15 = some (15, 1) := by kernel_rfl
theorem places83_16 : E.P.places 83 16 = some (16, 1) := by kernel_rfl
theorem places83_17 : E.P.places 83 17 = some (17, 1) := by kernel_rfl
theorem places83_18 : E.P.places 83 18 = some (18, 1) := by kernel_rfl
theorem places83_19 : E.P.places 83 19 = some (19, 1) := by kernel_rfl
theorem places83_20 : E.P.places 83 20 = some (20, 1) := by kernel_rfl
theorem places83_21 : E.P.places 83 21 = some (21, 1) := by kernel_rfl
theorem places83_22 : E.P.places 83 22 = some (22, 1) := by kernel_rfl
theorem places83_23 : E.P.places 83 23 = some (23, 1) := by kernel_rfl
theorem places83_24 : E.P.places 83 24 = some (24, 1) := by kernel_rfl
theorem places83_25 : E.P.places 83 25 = some (25, 1) := by kernel_rfl
theorem places83_26 : E.P.places 83 26 = some (26, 1) := by kernel_rfl
theorem places83_27 : E.P.places 83 27 = some (27, 1) := by kernel_rfl
theorem places83_28 : E.P.places 83 28 = some (28, 1) := by kernel_rfl
theorem places83_29 : E.P.places 83 29 = some (29, 1) := by kernel_rfl
theorem places83_30 : E.P.places 83 30 = some (30, 1) := by kernel_rfl
theorem places83_31 : E.P.places 83 31 = some (31, 1) := by kernel_rfl
theorem places83_32 : E.P.places 83 32 = some (32, 1) := by kernel_rfl
theorem places83_33 : E.P.places 83 33 = some (33, 1) := by kernel_rfl
theorem places83_34 : E.P.places 83 34 = some (34, 1) := by kernel_rfl
theorem places83_35 : E.P.places 83 35 = some (35, 1) := by kernel_rfl
theorem places83_36 : E.P.places 83 36 = some (36, 1) := by kernel_rfl
theorem places83_37 : E.P.places 83 37 = some (37, 1) := by kernel_rfl
theorem places83_38 : E.P.places 83 38 = some (38, 1) := by kernel_rfl
theorem places83_39 : E.P.places 83 39 = some (39, 1) := by kernel_rfl
theorem places83_40 : E.P.places 83 40 = some (40, 1) := by kernel_rfl
theorem places83_41 : E.P.places 83 41 = some (41, 1) := by kernel_rfl
theorem places83_42 : E.P.places 83 42 = some (42, 1) := by kernel_rfl
theorem places83_43 : E.P.places 83 43 = some (43, 1) := by kernel_rfl
theorem places83_44 : E.P.places 83 44 = some (44, 1) := by kernel_rfl
theorem places83_45 : E.P.places 83 45 = some (45, 1) := by kernel_rfl
theorem places83_46 : E.P.places 83 46 = some (46, 1) := by kernel_rfl
theorem places83_47 : E.P.places 83 47 = some (47, 1) := by kernel_rfl
theorem places83_48 : E.P.places 83 48 = some (48, 1) := by kernel_rfl
theorem places83_49 : E.P.places 83 49 = some (49, 1) := by kernel_rfl
theorem places83_50 : E.P.places 83 50 = some (50, 1) := by kernel_rfl
theorem places83_51 : E.P.places 83 51 = some (51, 1) := by kernel_rfl
theorem places83_52 : E.P.places 83 52 = some (52, 1) := by kernel_rfl
theorem places83_53 : E.P.places 83 53 = some (53, 1) := by kernel_rfl
theorem places83_54 : E.P.places 83 54 = some (54, 1) := by kernel_rfl
theorem places83_55 : E.P.places 83 55 = some (55, 1) := by kernel_rfl
theorem places83_56 : E.P.places 83 56 = some (56, 1) := by kernel_rfl
theorem places83_57 : E.P.places 83 57 = some (57, 1) := by kernel_rfl
theorem places83_58 : E.P.places 83 58 = some (58, 1) := by kernel_rfl
theorem places83_59 : E.P.places 83 59 = some (59, 1) := by kernel_rfl
theorem places83_60 : E.P.places 83 60 = some (60, 1) := by kernel_rfl
theorem places83_61 : E.P.places 83 61 = some (61, 1) := by kernel_rfl
theorem places83_62 : E.P.places 83 62 = some (62, 1) := by kernel_rfl
theorem places83_63 : E.P.places 83 63 = some (63, 1) := by kernel_rfl
theorem places83_64 : E.P.places 83 64 = some (64, 1) := by kernel_rfl
theorem places83_65 : E.P.places 83 65 = some (65, 1) := by kernel_rfl
theorem places83_66 : E.P.places 83 66 = some (66, 1) := by kernel_rfl
theorem places83_67 : E.P.places 83 67 = some (67, 1) := by kernel_rfl
theorem places83_68 : E.P.places 83 68 = some (68, 1) := by kernel_rfl
theorem places83_69 : E.P.places 83 69 = some (69, 1) := by kernel_rfl
theorem szO84 : E.P.szO 84 = some 1 := by kernel_rfl
theorem rowO84 : E.P.rowO 84 = some false := by kernel_rfl
theorem zeroL84 : E.P.zeroL 84 = some [AVal.sc Value.nilFunc] := by kernel_rfl
theorem isStr84 : E.P.isStr 84 = false := by kernel_rfl
theorem isInt84 : E.P.isInt 84 = false := by kernel_rfl
theorem und84 : (E.P.underlying 84).isSome = true := by kernel_rfl
theorem guard84 : E.P.eqGuardType E.P.depth 84 = false := by kernel_rfl
theorem szO85 : E.P.szO 85 = some 1 := by kernel_rfl
theorem rowO85 : E.P.rowO 85 = some false := by kernel_rfl
theorem zeroL85 : E.P.zeroL 85 = some [AVal.sc Value.nilFunc] := by kernel_rfl
theorem isStr85 : E.P.isStr 85 = false := by kernel_rfl
theorem isInt85 : E.P.isInt 85 = false := by kernel_rfl
theorem und85 : (E.P.underlying 85).isSome = true := by kernel_rfl
theorem guard85 : E.P.eqGuardType E.P.depth 85 = false := by kernel_rfl
theorem szO86 : E.P.szO 86 = some 1 := by kernel_rfl
theorem rowO86 : E.P.rowO 86 = some false := by kernel_rfl
theorem zeroL86 : E.P.zeroL 86 = some [AVal.sc Value.nilFunc] := by kernel_rfl
theorem isStr86 : E.P.isStr 86 = false := by kernel_rfl
theorem isInt86 : E.P.isInt 86 = false := by kernel_rfl
theorem und86 : (E.P.underlying 86).isSome = true := by kernel_rfl
theorem guard86 : E.P.eqGuardType E.P.depth 86 = false := by kernel_rfl
theorem szO87 : E.P.szO 87 = some 32 := by kernel_rfl
theorem rowO87 : E.P.rowO 87 = some true := by kernel_rfl
theorem zeroL87 : E.P.zeroL 87 = some [AVal.int IntKind.u8 (0), AVal.int IntKind.u8 (0), AVal.int IntKind.u8 (0), AVal.int IntKind.u8 (0), AVal.int IntKind.u8 (0), AVal.int IntKind.u8 (0), AVal.int IntKind.u8 (0), AVal.int IntKind.u8 (0), AVal.int IntKind.u8 (0), AVal.int IntKind.u8 (0), AVal.int IntKind.u8 (0), AVal.int IntKind.u8 (0), AVal.int IntKind.u8 (0), AVal.int IntKind.u8 (0), AVal.int IntKind.u8 (0), AVal.int IntKind.u8 (0), AVal.int IntKind.u8 (0), AVal.int IntKind.u8 (0), AVal.int IntKind.u8 (0), AVal.int IntKind.u8 (0), AVal.int IntKind.u8 (0), AVal.int IntKind.u8 (0), AVal.int IntKind.u8 (0), AVal.int IntKind.u8 (0), AVal.int IntKind.u8 (0), AVal.int IntKind.u8 (0), AVal.int IntKind.u8 (0), AVal.int IntKind.u8 (0), AVal.int IntKind.u8 (0), AVal.int IntKind.u8 (0), AVal.int IntKind.u8 (0), AVal.int IntKind.u8 (0)] := by kernel_rfl
theorem isStr87 : E.P.isStr 87 = false := by kernel_rfl
theorem isInt87 : E.P.isInt 87 = false := by kernel_rfl
theorem isComp87 : E.P.isComp 87 = true := by kernel_rfl
theorem arrO87 : E.P.arrO 87 = some (32, 1, false) := by kernel_rfl
theorem und87 : (E.P.underlying 87).isSome = true := by kernel_rfl
theorem guard87 : E.P.eqGuardType E.P.depth 87 = false := by kernel_rfl
theorem places87_0 : E.P.places 87 0 = some (0, 1) := by kernel_rfl
theorem places87_1 : E.P.places 87 1 = some (1, 1) := by kernel_rfl
theorem places87_2 : E.P.places 87 2 = some (2, 1) := by kernel_rfl
theorem places87_3 : E.P.places 87 3 = some (3, 1) := by kernel_rfl
theorem places87_4 : E.P.places 87 4 = some (4, 1) := by kernel_rfl
theorem places87_5 : E.P.places 87 5 = some (5, 1) := by kernel_rfl
theorem places87_6 : E.P.places 87 6 = some (6, 1) := by kernel_rfl
theorem places87_7 : E.P.places 87 7 = some (7, 1) := by kernel_rfl
theorem places87_8 : E.P.places 87 8 = some (8, 1) := by kernel_rfl
theorem places87_9 : E.P.places 87 9 = some (9, 1) := by kernel_rfl
theorem places87_10 : E.P.places 87 10 = some (10, 1) := by kernel_rfl
theorem places87_11 : E.P.places 87 11 = some (11, 1) := by kernel_rfl
theorem places87_12 : E.P.places 87 12 = some (12, 1) := by kernel_rfl
theorem places87_13 : E.P.places 87 13 = some (13, 1) := by kernel_rfl
theorem places87_14 : E.P.places 87 14 = some (14, 1) := by kernel_rfl
theorem places87_15 : E.P.places 87 15 = some (15, 1) := by kernel_rfl
theorem places87_16 : E.P.places 87 16 = some (16, 1) := by kernel_rfl
theorem places87_17 : E.P.places 87 17 = some (17, 1) := by kernel_rfl
theorem places87_18 : E.P.places 87 18 = some (18, 1) := by kernel_rfl
theorem places87_19 : E.P.places 87 19 = some (19, 1) := by kernel_rfl
theorem places87_20 : E.P.places 87 20 = some (20, 1) := by kernel_rfl
theorem places87_21 : E.P.places 87 21 = some (21, 1) := by kernel_rfl
theorem places87_22 : E.P.places 87 22 = some (22, 1) := by kernel_rfl
theorem places87_23 : E.P.places 87 23 = some (23, 1) := by kernel_rfl
theorem places87_24 : E.P.places 87 24 = some (24, 1) := by kernel_rfl
theorem places87_25 : E.P.places 87 25 = some (25, 1) := by kernel_rfl
theorem places87_26 : E.P.places 87 26 = some (26, 1) := by kernel_rfl
theorem places87_27 : E.P.places 87 27 = some (27, 1) := by kernel_rfl
theorem places87_28 : E.P.places 87 28 = some (28, 1) := by kernel_rfl
theorem places87_29 : E.P.places 87 29 = some (29, 1) := by kernel_rfl
theorem places87_30 : E.P.places 87 30 = some (30, 1) := by kernel_rfl
theorem places87_31 : E.P.places 87 31 = some (31, 1) := by kernel_rfl
theorem places87_32 : E.P.places 87 32 = some (32, 1) := by kernel_rfl
theorem places87_33 : E.P.places 87 33 = some (33, 1) := by kernel_rfl
theorem places87_34 : E.P.places 87 34 = some (34, 1) := by kernel_rfl
theorem places87_35 : E.P.places 87 35 = some (35, 1) := by kernel_rfl
theorem places87_36 : E.P.places 87 36 = some (36, 1) := by kernel_rfl
theorem places87_37 : E.P.places 87 37 = some (37, 1) := by kernel_rfl
theorem places87_38 : E.P.places 87 38 = some (38, 1) := by kernel_rfl
theorem places87_39 : E.P.places 87 39 = some (39, 1) := by kernel_rfl
theorem places87_40 : E.P.places 87 40 = some (40, 1) := by kernel_rfl
theorem places87_41 : E.P.places 87 41 = some (41, 1) := by kernel_rfl
theorem places87_42 : E.P.places 87 42 = some (42, 1) := by kernel_rfl
theorem places87_43 : E.P.places 87 43 = some (43, 1) := by kernel_rfl
theorem places87_44 : E.P.places 87 44 = some (44, 1) := by kernel_rfl
theorem places87_45 : E.P.places 87 45 = some (45, 1) := by kernel_rfl
theorem places87_46 : E.P.places 87 46 = some (46, 1) := by kernel_rfl
theorem places87_47 : E.P.places 87 47 = some (47, 1) := by kernel_rfl
theorem places87_48 : E.P.places 87 48 = some (48, 1) := by kernel_rfl
theorem places87_49 : E.P.places 87 49 = some (49, 1) := by kernel_rfl
theorem places87_50 : E.P.places 87 50 = some (50, 1) := by kernel_rfl
theorem places87_51 : E.P.places 87 51 = some (51, 1) := by kernel_rfl
theorem places87_52 : E.P.places 87 52 = some (52, 1) := by kernel_rfl
theorem places87_53 : E.P.places 87 53 = some (53, 1) := by kernel_rfl
theorem places87_54 : E.P.places 87 54 = some (54, 1) := by kernel_rfl
theorem places87_55 : E.P.places 87 55 = some (55, 1) := by kernel_rfl
theorem places87_56 : E.P.places 87 56 = some (56, 1) := by kernel_rfl
theorem places87_57 : E.P.places 87 57 = some (57, 1) := by kernel_rfl
theorem places87_58 : E.P.places 87 58 = some (58, 1) := by kernel_rfl
theorem places87_59 : E.P.places 87 59 = some (59, 1) := by kernel_rfl
theorem places87_60 : E.P.places 87 60 = some (60, 1) := by kernel_rfl
theorem places87_61 : E.P.places 87 61 = some (61, 1) := by kernel_rfl
theorem places87_62 : E.P.places 87 62 = some (62, 1) := by kernel_rfl
theorem places87_63 : E.P.places 87 63 = some (63, 1) := by kernel_rfl
theorem places87_64 : E.P.places 87 64 = some (64, 1) := by kernel_rfl
theorem places87_65 : E.P.places 87 65 = some (65, 1) := by kernel_rfl
theorem places87_66 : E.P.places 87 66 = some (66, 1) := by kernel_rfl
theorem places87_67 : E.P.places 87 67 = some (67, 1) := by kernel_rfl
theorem places87_68 : E.P.places 87 68 = some (68, 1) := by kernel_rfl
theorem places87_69 : E.P.places 87 69 = some (69, 1) := by kernel_rfl
theorem szO88 : E.P.szO 88 = some 4 := by kernel_rfl
theorem rowO88 : E.P.rowO 88 = some true := by kernel_rfl
theorem zeroL88 : E.P.zeroL 88 = some [AVal.sc (Value.pointer none), AVal.sc (Value.pointer none), AVal.sc (Value.pointer none), AVal.str []] := by kernel_rfl
theorem isStr88 : E.P.isStr 88 = false := by kernel_rfl
theorem isInt88 : E.P.isInt 88 = false := by kernel_rfl
theorem isComp88 : E.P.isComp 88 = true := by kernel_rfl
theorem und88 : (E.P.underlying 88).isSome = true := by kernel_rfl
theorem guard88 : E.P.eqGuardType E.P.depth 88 = false := by kernel_rfl
theorem fldO88_0 : E.P.fldO 88 0 = some (0, 1, false) := by kernel_rfl
theorem fldO88_1 : E.P.fldO 88 1 = some (1, 1, false) := by kernel_rfl
theorem fldO88_2 : E.P.fldO 88 2 = some (2, 1, false) := by kernel_rfl
theorem fldO88_3 : E.P.fldO 88 3 = some (3, 1, false) := by kernel_rfl
theorem places88_0 : E.P.places 88 0 = some (0, 1) := by kernel_rfl
theorem places88_1 : E.P.places 88 1 = some (1, 1) := by kernel_rfl
theorem places88_2 : E.P.places 88 2 = some (2, 1) := by kernel_rfl
theorem places88_3 : E.P.places 88 3 = some (3, 1) := by kernel_rfl
theorem szO89 : E.P.szO 89 = some 4 := by kernel_rfl
theorem rowO89 : E.P.rowO 89 = some true := by kernel_rfl
theorem zeroL89 : E.P.zeroL 89 = some [AVal.sc (Value.pointer none), AVal.sc (Value.pointer none), AVal.sc (Value.pointer none), AVal.str []] := by kernel_rfl
theorem isStr89 : E.P.isStr 89 = false := by kernel_rfl
theorem isInt89 : E.P.isInt 89 = false := by kernel_rfl
theorem isComp89 : E.P.isComp 89 = true := by kernel_rfl
theorem und89 : (E.P.underlying 89).isSome = true := by kernel_rfl
theorem guard89 : E.P.eqGuardType E.P.depth 89 = false := by kernel_rfl
theorem fldO89_0 : E.P.fldO 89 0 = some (0, 1, false) := by kernel_rfl
theorem fldO89_1 : E.P.fldO 89 1 = some (1, 1, false) := by kernel_rfl
theorem fldO89_2 : E.P.fldO 89 2 = some (2, 1, false) := by kernel_rfl
theorem fldO89_3 : E.P.fldO 89 3 = some (3, 1, false) := by kernel_rfl
theorem places89_0 : E.P.places 89 0 = some (0, 1) := by kernel_rfl
theorem places89_1 : E.P.places 89 1 = some (1, 1) := by kernel_rfl
theorem places89_2 : E.P.places 89 2 = some (2, 1) := by kernel_rfl
theorem places89_3 : E.P.places 89 3 = some (3, 1) := by kernel_rfl
theorem szO90 : E.P.szO 90 = some 0 := by kernel_rfl
theorem rowO90 : E.P.rowO 90 = some true := by kernel_rfl
theorem zeroL90 : E.P.zeroL 90 = some [] := by kernel_rfl
theorem isStr90 : E.P.isStr 90 = false := by kernel_rfl
theorem isInt90 : E.P.isInt 90 = false := by kernel_rfl
theorem isComp90 : E.P.isComp 90 = true := by kernel_rfl
theorem arrO90 : E.P.arrO 90 = some (0, 1, false) := by kernel_rfl
theorem und90 : (E.P.underlying 90).isSome = true := by kernel_rfl
theorem guard90 : E.P.eqGuardType E.P.depth 90 = false := by kernel_rfl
theorem places90_0 : E.P.places 90 0 = some (0, 1) := by kernel_rfl
theorem places90_1 : E.P.places 90 1 = some (1, 1) := by kernel_rfl
theorem places90_2 : E.P.places 90 2 = some (2, 1) := by kernel_rfl
theorem places90_3 : E.P.places 90 3 = some (3, 1) := by kernel_rfl
theorem places90_4 : E.P.places 90 4 = some (4, 1) := by kernel_rfl
theorem places90_5 : E.P.places 90 5 = some (5, 1) := by kernel_rfl
theorem places90_6 : E.P.places 90 6 = some (6, 1) := by kernel_rfl
theorem places90_7 : E.P.places 90 7 = some (7, 1) := by kernel_rfl
theorem places90_8 : E.P.places 90 8 = some (8, 1) := by kernel_rfl
theorem places90_9 : E.P.places 90 9 = some (9, 1) := by kernel_rfl
theorem places90_10 : E.P.places 90 10 = some (10, 1) := by kernel_rfl
theorem places90_11 : E.P.places 90 11 = some (11, 1) := by kernel_rfl
theorem places90_12 : E.P.places 90 12 = some (12, 1) := by kernel_rfl
theorem places90_13 : E.P.places 90 13 = some (13, 1) := by kernel_rfl
theorem places90_14 : E.P.places 90 14 = some (14, 1) := by kernel_rfl
theorem places90_15 : E.P.places 90 15 = some (15, 1) := by kernel_rfl
theorem places90_16 : E.P.places 90 16 = some (16, 1) := by kernel_rfl
theorem places90_17 : E.P.places 90 17 = some (17, 1) := by kernel_rfl
theorem places90_18 : E.P.places 90 18 = some (18, 1) := by kernel_rfl
theorem places90_19 : E.P.places 90 19 = some (19, 1) := by kernel_rfl
theorem places90_20 : E.P.places 90 20 = some (20, 1) := by kernel_rfl
theorem places90_21 : E.P.places 90 21 = some (21, 1) := by kernel_rfl
theorem places90_22 : E.P.places 90 22 = some (22, 1) := by kernel_rfl
theorem places90_23 : E.P.places 90 23 = some (23, 1) := by kernel_rfl
theorem places90_24 : E.P.places 90 24 = some (24, 1) := by kernel_rfl
theorem places90_25 : E.P.places 90 25 = some (25, 1) := by kernel_rfl
theorem places90_26 : E.P.places 90 26 = some (26, 1) := by kernel_rfl
theorem places90_27 : E.P.places 90 27 = some (27, 1) := by kernel_rfl
theorem places90_28 : E.P.places 90 28 = some (28, 1) := by kernel_rfl
theorem places90_29 : E.P.places 90 29 = some (29, 1) := by kernel_rfl
theorem places90_30 : E.P.places 90 30 = some (30, 1) := by kernel_rfl
theorem places90_31 : E.P.places 90 31 = some (31, 1) := by kernel_rfl
theorem places90_32 : E.P.places 90 32 = some (32, 1) := by kernel_rfl
theorem places90_33 : E.P.places 90 33 = some (33, 1) := by kernel_rfl
theorem places90_34 : E.P.places 90 34 = some (34, 1) := by kernel_rfl
theorem places90_35 : E.P.places 90 35 = some (35, 1) := by kernel_rfl
theorem places90_36 : E.P.places 90 36 = some (36, 1) := by kernel_rfl
theorem places90_37 : E.P.places 90 37 = some (37, 1) := by kernel_rfl
theorem places90_38 : E.P.places 90 38 = some (38, 1) := by kernel_rfl
theorem places90_39 : E.P.places 90 39 = some (39, 1) := by kernel_rfl
theorem places90_40 : E.P.places 90 40 = some (40, 1) := by kernel_rfl
theorem places90_41 : E.P.places 90 41 = some (41, 1) := by kernel_rfl
theorem places90_42 : E.P.places 90 42 = some (42, 1) := by kernel_rfl
theorem places90_43 : E.P.places 90 43 = some (43, 1) := by kernel_rfl
theorem places90_44 : E.P.places 90 44 = some (44, 1) := by kernel_rfl
theorem places90_45 : E.P.places 90 45 = some (45, 1) := by kernel_rfl
theorem places90_46 : E.P.places 90 46 = some (46, 1) := by kernel_rfl
theorem places90_47 : E.P.places 90 47 = some (47, 1) := by kernel_rfl
theorem places90_48 : E.P.places 90 48 = some (48, 1) := by kernel_rfl
theorem places90_49 : E.P.places 90 49 = some (49, 1) := by kernel_rfl
theorem places90_50 : E.P.places 90 50 = some (50, 1) := by kernel_rfl
theorem places90_51 : E.P.places 90 51 = some (51, 1) := by kernel_rfl
theorem places90_52 : E.P.places 90 52 = some (52, 1) := by kernel_rfl
theorem places90_53 : E.P.places 90 53 = some (53, 1) := by kernel_rfl
theorem places90_54 : E.P.places 90 54 = some (54, 1) := by kernel_rfl
theorem places90_55 : E.P.places 90 55 = some (55, 1) := by kernel_rfl
theorem places90_56 : E.P.places 90 56 = some (56, 1) := by kernel_rfl
theorem places90_57 : E.P.places 90 57 = some (57, 1) := by kernel_rfl
theorem places90_58 : E.P.places 90 58 = some (58, 1) := by kernel_rfl
theorem places90_59 : E.P.places 90 59 = some (59, 1) := by kernel_rfl
theorem places90_60 : E.P.places 90 60 = some (60, 1) := by kernel_rfl
theorem places90_61 : E.P.places 90 61 = some (61, 1) := by kernel_rfl
theorem places90_62 : E.P.places 90 62 = some (62, 1) := by kernel_rfl
theorem places90_63 : E.P.places 90 63 = some (63, 1) := by kernel_rfl
theorem places90_64 : E.P.places 90 64 = some (64, 1) := by kernel_rfl
theorem places90_65 : E.P.places 90 65 = some (65, 1) := by kernel_rfl
theorem places90_66 : E.P.places 90 66 = some (66, 1) := by kernel_rfl
theorem places90_67 : E.P.places 90 67 = some (67, 1) := by kernel_rfl
theorem places90_68 : E.P.places 90 68 = some (68, 1) := by kernel_rfl
theorem places90_69 : E.P.places 90 69 = some (69, 1) := by kernel_rfl
theorem szO91 : E.P.szO 91 = some 0 := by kernel_rfl
theorem rowO91 : E.P.rowO 91 = some true := by kernel_rfl
theorem zeroL91 : E.P.zeroL 91 = some [] := by kernel_rfl
theorem isStr91 : E.P.isStr 91 = false := by kernel_rfl
theorem isInt91 : E.P.isInt 91 = false := by kernel_rfl
theorem isComp91 : E.P.isComp 91 = true := by kernel_rfl
theorem und91 : (E.P.underlying 91).isSome = true := by kernel_rfl
theorem guard91 : E.P.eqGuardType E.P.depth 91 = false := by kernel_rfl
theorem places91_0 : E.P.places 91 0 = some (0, 0) := by kernel_rfl
theorem szO92 : E.P.szO 92 = some 0 := by kernel_rfl
theorem rowO92 : E.P.rowO 92 = some true := by kernel_rfl
theorem zeroL92 : E.P.zeroL 92 = some [] := by kernel_rfl
theorem isStr92 : E.P.isStr 92 = false := by kernel_rfl
theorem isInt92 : E.P.isInt 92 = false := by kernel_rfl
theorem isComp92 : E.P.isComp 92 = true := by kernel_rfl
theorem und92 : (E.P.underlying 92).isSome = true := by kernel_rfl
theorem guard92 : E.P.eqGuardType E.P.depth 92 = false := by kernel_rfl
theorem places92_0 : E.P.places 92 0 = some (0, 0) := by kernel_rfl
theorem szO93 : E.P.szO 93 = some 1 := by kernel_rfl
theorem rowO93 : E.P.rowO 93 = some false := by kernel_rfl
theorem zeroL93 : E.P.zeroL 93 = some [AVal.sc Value.nilFunc] := by kernel_rfl
theorem isStr93 : E.P.isStr 93 = false := by kernel_rfl
theorem isInt93 : E.P.isInt 93 = false := by kernel_rfl
theorem und93 : (E.P.underlying 93).isSome = true := by kernel_rfl
theorem guard93 : E.P.eqGuardType E.P.depth 93 = false := by kernel_rfl
theorem szO94 : E.P.szO 94 = some 1 := by kernel_rfl
theorem rowO94 : E.P.rowO 94 = some false := by kernel_rfl
theorem zeroL94 : E.P.zeroL 94 = some [AVal.int IntKind.u8 (0)] := by kernel_rfl
theorem isStr94 : E.P.isStr 94 = false := by kernel_rfl
theorem isInt94 : E.P.isInt 94 = true := by kernel_rfl
theorem kindO94 : kindO E.P 94 = some IntKind.u8 := by kernel_rfl
theorem und94 : (E.P.underlying 94).isSome = true := by kernel_rfl
theorem guard94 : E.P.eqGuardType E.P.depth 94 = false := by kernel_rfl
theorem szO95 : E.P.szO 95 = some 1 := by kernel_rfl
theorem rowO95 : E.P.rowO 95 = some false := by kernel_rfl
theorem zeroL95 : E.P.zeroL 95 = some [AVal.int IntKind.u8 (0)] := by kernel_rfl
theorem isStr95 : E.P.isStr 95 = false := by kernel_rfl
theorem isInt95 : E.P.isInt 95 = true := by kernel_rfl
theorem kindO95 : kindO E.P 95 = some IntKind.u8 := by kernel_rfl
theorem und95 : (E.P.underlying 95).isSome = true := by kernel_rfl
theorem guard95 : E.P.eqGuardType E.P.depth 95 = false := by kernel_rfl
theorem szO96 : E.P.szO 96 = some 1 := by kernel_rfl
theorem rowO96 : E.P.rowO 96 = some false := by kernel_rfl
theorem zeroL96 : E.P.zeroL 96 = some [AVal.sc Value.nilFunc] := by kernel_rfl
theorem isStr96 : E.P.isStr 96 = false := by kernel_rfl
theorem isInt96 : E.P.isInt 96 = false := by kernel_rfl
theorem und96 : (E.P.underlying 96).isSome = true := by kernel_rfl
theorem guard96 : E.P.eqGuardType E.P.depth 96 = false := by kernel_rfl
theorem szO97 : E.P.szO 97 = some 1 := by kernel_rfl
theorem rowO97 : E.P.rowO 97 = some false := by kernel_rfl
theorem zeroL97 : E.P.zeroL 97 = some [AVal.int IntKind.i32 (0)] := by kernel_rfl
theorem isStr97 : E.P.isStr 97 = false := by kernel_rfl
theorem isInt97 : E.P.isInt 97 = true := by kernel_rfl
theorem kindO97 : kindO E.P 97 = some IntKind.i32 := by kernel_rfl
theorem und97 : (E.P.underlying 97).isSome = true := by kernel_rfl
theorem guard97 : E.P.eqGuardType E.P.depth 97 = false := by kernel_rfl
theorem szO98 : E.P.szO 98 = some 1 := by kernel_rfl
theorem rowO98 : E.P.rowO 98 = some false := by kernel_rfl
theorem zeroL98 : E.P.zeroL 98 = some [AVal.int IntKind.i32 (0)] := by kernel_rfl
theorem isStr98 : E.P.isStr 98 = false := by kernel_rfl
theorem isInt98 : E.P.isInt 98 = true := by kernel_rfl
theorem kindO98 : kindO E.P 98 = some IntKind.i32 := by kernel_rfl
theorem und98 : (E.P.underlying 98).isSome = true := by kernel_rfl
theorem guard98 : E.P.eqGuardType E.P.depth 98 = false := by kernel_rfl
theorem szO99 : E.P.szO 99 = some 11 := by kernel_rfl
theorem rowO99 : E.P.rowO 99 = some true := by kernel_rfl
theorem zeroL99 : E.P.zeroL 99 = some [AVal.int IntKind.u64 (0), AVal.int IntKind.u64 (0), AVal.int IntKind.u32 (0), AVal.int IntKind.u8 (0), AVal.int IntKind.u8 (0), AVal.int IntKind.u8 (0), AVal.int IntKind.u8 (0), AVal.sc Value.nilFunc, AVal.sc (Value.pointer none), AVal.int IntKind.i32 (0), AVal.int IntKind.i32 (0)] := by kernel_rfl
theorem isStr99 : E.P.isStr 99 = false := by kernel_rfl
theorem isInt99 : E.P.isInt 99 = false := by kernel_rfl
theorem isComp99 : E.P.isComp 99 = true := by kernel_rfl
theorem und99 : (E.P.underlying 99).isSome = true := by kernel_rfl
theorem guard99 : E.P.eqGuardType E.P.depth 99 = false := by kernel_rfl
theorem fldO99_0 : E.P.fldO 99 0 = some (0, 1, false) := by kernel_rfl
theorem fldO99_1 : E.P.fldO 99 1 = some (1, 1, false) := by kernel_rfl
theorem fldO99_2 : E.P.fldO 99 2 = some (2, 1, false) := by kernel_rfl
theorem fldO99_3 : E.P.fldO 99 3 = some (3, 1, false) := by kernel_rfl
theorem fldO99_4 : E.P.fldO 99 4 = some (4, 1, false) := by kernel_rfl
theorem fldO99_5 : E.P.fldO 99 5 = some (5, 1, false) := by kernel_rfl
theorem fldO99_6 : E.P.fldO 99 6 = some (6, 1, false) := by kernel_rfl
theorem fldO99_7 : E.P.fldO 99 7 = some (7, 1, false) := by kernel_rfl
theorem fldO99_8 : E.P.fldO 99 8 = some (8, 1, false) := by kernel_rfl
theorem fldO99_9 : E.P.fldO 99 9 = some (9, 1, false) := by kernel_rfl
theorem fldO99_10 : E.P.fldO 99 10 = some (10, 1, false) := by kernel_rfl
theorem places99_0 : E.P.places 99 0 = some (0, 1) := by kernel_rfl
theorem places99_1 : E.P.places 99 1 = some (1, 1) := by kernel_rfl
theorem places99_2 : E.P.places 99 2 = some (2, 1) := by kernel_rfl
theorem places99_3 : E.P.places 99 3 = some (3, 1) := by kernel_rfl
theorem places99_4 : E.P.places 99 4 = some (4, 1) := by kernel_rfl
theorem places99_5 : E.P.places 99 5 = some (5, 1) := by kernel_rfl
theorem places99_6 : E.P.places 99 6 = some (6, 1) := by kernel_rfl
theorem places99_7 : E.P.places 99 7 = some (7, 1) := by kernel_rfl
theorem places99_8 : E.P.places 99 8 = some (8, 1) := by kernel_rfl
theorem places99_9 : E.P.places 99 9 = some (9, 1) := by kernel_rfl
theorem places99_10 : E.P.places 99 10 = some (10, 1) := by kernel_rfl
theorem szO100 : E.P.szO 100 = some 11 := by kernel_rfl
theorem rowO100 : E.P.rowO 100 = some true := by kernel_rfl
theorem zeroL100 : E.P.zeroL 100 = some [AVal.int IntKind.u64 (0), AVal.int IntKind.u64 (0), AVal.int IntKind.u32 (0), AVal.int IntKind.u8 (0), AVal.int IntKind.u8 (0), AVal.int IntKind.u8 (0), AVal.int IntKind.u8 (0), AVal.sc Value.nilFunc, AVal.sc (Value.pointer none), AVal.int IntKind.i32 (0), AVal.int IntKind.i32 (0)] := by kernel_rfl
theorem isStr100 : E.P.isStr 100 = false := by kernel_rfl
theorem isInt100 : E.P.isInt 100 = false := by kernel_rfl
theorem isComp100 : E.P.isComp 100 = true := by kernel_rfl
theorem und100 : (E.P.underlying 100).isSome = true := by kernel_rfl
theorem guard100 : E.P.eqGuardType E.P.depth 100 = false := by kernel_rfl
theorem fldO100_0 : E.P.fldO 100 0 = some (0, 1, false) := by kernel_rfl
theorem fldO100_1 : E.P.fldO 100 1 = some (1, 1, false) := by kernel_rfl
theorem fldO100_2 : E.P.fldO 100 2 = some (2, 1, false) := by kernel_rfl
theorem fldO100_3 : E.P.fldO 100 3 = some (3, 1, false) := by kernel_rfl
theorem fldO100_4 : E.P.fldO 100 4 = some (4, 1, false) := by kernel_rfl
theorem fldO100_5 : E.P.fldO 100 5 = some (5, 1, false) := by kernel_rfl
theorem fldO100_6 : E.P.fldO 100 6 = some (6, 1, false) := by kernel_rfl
theorem fldO100_7 : E.P.fldO 100 7 = some (7, 1, false) := by kernel_rfl
theorem fldO100_8 : E.P.fldO 100 8 = some (8, 1, false) := by kernel_rfl
theorem fldO100_9 : E.P.fldO 100 9 = some (9, 1, false) := by kernel_rfl
theorem fldO100_10 : E.P.fldO 100 10 = some (10, 1, false) := by kernel_rfl
theorem places100_0 : E.P.places 100 0 = some (0, 1) := by kernel_rfl
theorem places100_1 : E.P.places 100 1 = some (1, 1) := by kernel_rfl
theorem places100_2 : E.P.places 100 2 = some (2, 1) := by kernel_rfl
theorem places100_3 : E.P.places 100 3 = some (3, 1) := by kernel_rfl
theorem places100_4 : E.P.places 100 4 = some (4, 1) := by kernel_rfl
theorem places100_5 : E.P.places 100 5 = some (5, 1) := by kernel_rfl
theorem places100_6 : E.P.places 100 6 = some (6, 1) := by kernel_rfl
theorem places100_7 : E.P.places 100 7 = some (7, 1) := by kernel_rfl
theorem places100_8 : E.P.places 100 8 = some (8, 1) := by kernel_rfl
theorem places100_9 : E.P.places 100 9 = some (9, 1) := by kernel_rfl
theorem places100_10 : E.P.places 100 10 = some (10, 1) := by kernel_rfl
theorem goFn2 : E.P.goFn 2 = true := by kernel_rfl
theorem parM2 : M.par 2 = [] := by kernel_rfl
theorem resM2 : M.res 2 = [] := by kernel_rfl
theorem parK2 : E.P.parK 2 = [] := by kernel_rfl
theorem resK2 : E.P.resK 2 = [] := by kernel_rfl
theorem goFn3 : E.P.goFn 3 = true := by kernel_rfl
theorem parM3 : M.par 3 = [] := by kernel_rfl
theorem resM3 : M.res 3 = [] := by kernel_rfl
theorem parK3 : E.P.parK 3 = [[0], [0], [2]] := by kernel_rfl
theorem resK3 : E.P.resK 3 = [[0]] := by kernel_rfl
theorem goFn4 : E.P.goFn 4 = true := by kernel_rfl
theorem parM4 : M.par 4 = [] := by kernel_rfl
theorem resM4 : M.res 4 = [] := by kernel_rfl
theorem parK4 : E.P.parK 4 = [[0]] := by kernel_rfl
theorem resK4 : E.P.resK 4 = [[0]] := by kernel_rfl
theorem goFn5 : E.P.goFn 5 = true := by kernel_rfl
theorem parM5 : M.par 5 = [] := by kernel_rfl
theorem resM5 : M.res 5 = [] := by kernel_rfl
theorem parK5 : E.P.parK 5 = [[0], [0], [2]] := by kernel_rfl
theorem resK5 : E.P.resK 5 = [[0]] := by kernel_rfl
theorem goFn6 : E.P.goFn 6 = true := by kernel_rfl
theorem parM6 : M.par 6 = [] := by kernel_rfl
theorem resM6 : M.res 6 = [] := by kernel_rfl
theorem parK6 : E.P.parK 6 = [[0]] := by kernel_rfl
theorem resK6 : E.P.resK 6 = [[0]] := by kernel_rfl
theorem goFn7 : E.P.goFn 7 = true := by kernel_rfl
theorem parM7 : M.par 7 = [] := by kernel_rfl
theorem resM7 : M.res 7 = [] := by kernel_rfl
theorem parK7 : E.P.parK 7 = [] := by kernel_rfl
theorem resK7 : E.P.resK 7 = [[0]] := by kernel_rfl
theorem goFn8 : E.P.goFn 8 = true := by kernel_rfl
theorem parM8 : M.par 8 = [] := by kernel_rfl
theorem resM8 : M.res 8 = [] := by kernel_rfl
theorem parK8 : E.P.parK 8 = [[0]] := by kernel_rfl
theorem resK8 : E.P.resK 8 = [[0]] := by kernel_rfl
theorem goFn9 : E.P.goFn 9 = true := by kernel_rfl
theorem parM9 : M.par 9 = [] := by kernel_rfl
theorem resM9 : M.res 9 = [] := by kernel_rfl
theorem parK9 : E.P.parK 9 = [[0]] := by kernel_rfl
theorem resK9 : E.P.resK 9 = [[0]] := by kernel_rfl
theorem goFn10 : E.P.goFn 10 = true := by kernel_rfl
theorem parM10 : M.par 10 = [] := by kernel_rfl
theorem resM10 : M.res 10 = [] := by kernel_rfl
theorem parK10 : E.P.parK 10 = [[0]] := by kernel_rfl
theorem resK10 : E.P.resK 10 = [[0]] := by kernel_rfl
theorem goFn11 : E.P.goFn 11 = true := by kernel_rfl
theorem parM11 : M.par 11 = [] := by kernel_rfl
theorem resM11 : M.res 11 = [] := by kernel_rfl
theorem parK11 : E.P.parK 11 = [[0]] := by kernel_rfl
theorem resK11 : E.P.resK 11 = [[0]] := by kernel_rfl
theorem goFn12 : E.P.goFn 12 = true := by kernel_rfl
theorem parM12 : M.par 12 = [] := by kernel_rfl
theorem resM12 : M.res 12 = [] := by kernel_rfl
theorem parK12 : E.P.parK 12 = [[2]] := by kernel_rfl
theorem resK12 : E.P.resK 12 = [[0]] := by kernel_rfl
theorem goFn13 : E.P.goFn 13 = true := by kernel_rfl
theorem parM13 : M.par 13 = [] := by kernel_rfl
theorem resM13 : M.res 13 = [] := by kernel_rfl
theorem parK13 : E.P.parK 13 = [[2]] := by kernel_rfl
theorem resK13 : E.P.resK 13 = [[0]] := by kernel_rfl
theorem goFn14 : E.P.goFn 14 = true := by kernel_rfl
theorem parM14 : M.par 14 = [] := by kernel_rfl
theorem resM14 : M.res 14 = [] := by kernel_rfl
theorem parK14 : E.P.parK 14 = [[0]] := by kernel_rfl
theorem resK14 : E.P.resK 14 = [[0], [0]] := by kernel_rfl
theorem goFn15 : E.P.goFn 15 = true := by kernel_rfl
theorem parM15 : M.par 15 = [] := by kernel_rfl
theorem resM15 : M.res 15 = [] := by kernel_rfl
theorem parK15 : E.P.parK 15 = [[0]] := by kernel_rfl
theorem resK15 : E.P.resK 15 = [[0], [0]] := by kernel_rfl
theorem goFn16 : E.P.goFn 16 = true := by kernel_rfl
theorem parM16 : M.par 16 = [] := by kernel_rfl
theorem resM16 : M.res 16 = [] := by kernel_rfl
theorem parK16 : E.P.parK 16 = [[0]] := by kernel_rfl
theorem resK16 : E.P.resK 16 = [[2], [0]] := by kernel_rfl
theorem goFn17 : E.P.goFn 17 = true := by kernel_rfl
theorem parM17 : M.par 17 = [] := by kernel_rfl
theorem resM17 : M.res 17 = [] := by kernel_rfl
theorem parK17 : E.P.parK 17 = [[0]] := by kernel_rfl
theorem resK17 : E.P.resK 17 = [[2], [0]] := by kernel_rfl
theorem goFn18 : E.P.goFn 18 = true := by kernel_rfl
theorem parM18 : M.par 18 = [] := by kernel_rfl
theorem resM18 : M.res 18 = [] := by kernel_rfl
theorem parK18 : E.P.parK 18 = [[0]] := by kernel_rfl
theorem resK18 : E.P.resK 18 = [[0], [0]] := by kernel_rfl
theorem goFn19 : E.P.goFn 19 = true := by kernel_rfl
theorem parM19 : M.par 19 = [] := by kernel_rfl
theorem resM19 : M.res 19 = [] := by kernel_rfl
theorem parK19 : E.P.parK 19 = [[0]] := by kernel_rfl
theorem resK19 : E.P.resK 19 = [[0], [0]] := by kernel_rfl
theorem goFn20 : E.P.goFn 20 = true := by kernel_rfl
theorem parM20 : M.par 20 = [] := by kernel_rfl
theorem resM20 : M.res 20 = [] := by kernel_rfl
theorem parK20 : E.P.parK 20 = [[0]] := by kernel_rfl
theorem resK20 : E.P.resK 20 = [[0]] := by kernel_rfl
theorem goFn21 : E.P.goFn 21 = true := by kernel_rfl
theorem parM21 : M.par 21 = [] := by kernel_rfl
theorem resM21 : M.res 21 = [] := by kernel_rfl
theorem parK21 : E.P.parK 21 = [[0]] := by kernel_rfl
theorem resK21 : E.P.resK 21 = [[0]] := by kernel_rfl
theorem goFn22 : E.P.goFn 22 = true := by kernel_rfl
theorem parM22 : M.par 22 = [] := by kernel_rfl
theorem resM22 : M.res 22 = [] := by kernel_rfl
theorem parK22 : E.P.parK 22 = [[0]] := by kernel_rfl
theorem resK22 : E.P.resK 22 = [[0]] := by kernel_rfl
theorem goFn23 : E.P.goFn 23 = true := by kernel_rfl
theorem parM23 : M.par 23 = [] := by kernel_rfl
theorem resM23 : M.res 23 = [] := by kernel_rfl
theorem parK23 : E.P.parK 23 = [[0]] := by kernel_rfl
theorem resK23 : E.P.resK 23 = [[0]] := by kernel_rfl
theorem goFn24 : E.P.goFn 24 = true := by kernel_rfl
theorem parM24 : M.par 24 = [] := by kernel_rfl
theorem resM24 : M.res 24 = [] := by kernel_rfl
theorem parK24 : E.P.parK 24 = [[0]] := by kernel_rfl
theorem resK24 : E.P.resK 24 = [[0]] := by kernel_rfl
theorem goFn25 : E.P.goFn 25 = true := by kernel_rfl
theorem parM25 : M.par 25 = [] := by kernel_rfl
theorem resM25 : M.res 25 = [] := by kernel_rfl
theorem parK25 : E.P.parK 25 = [[0]] := by kernel_rfl
theorem resK25 : E.P.resK 25 = [[0]] := by kernel_rfl
theorem goFn26 : E.P.goFn 26 = true := by kernel_rfl
theorem parM26 : M.par 26 = [] := by kernel_rfl
theorem resM26 : M.res 26 = [] := by kernel_rfl
theorem parK26 : E.P.parK 26 = [[0]] := by kernel_rfl
theorem resK26 : E.P.resK 26 = [[0]] := by kernel_rfl
theorem goFn27 : E.P.goFn 27 = true := by kernel_rfl
theorem parM27 : M.par 27 = [] := by kernel_rfl
theorem resM27 : M.res 27 = [] := by kernel_rfl
theorem parK27 : E.P.parK 27 = [[2]] := by kernel_rfl
theorem resK27 : E.P.resK 27 = [[0]] := by kernel_rfl
theorem goFn28 : E.P.goFn 28 = true := by kernel_rfl
theorem parM28 : M.par 28 = [] := by kernel_rfl
theorem resM28 : M.res 28 = [] := by kernel_rfl
theorem parK28 : E.P.parK 28 = [[0]] := by kernel_rfl
theorem resK28 : E.P.resK 28 = [[0]] := by kernel_rfl
theorem goFn29 : E.P.goFn 29 = true := by kernel_rfl
theorem parM29 : M.par 29 = [] := by kernel_rfl
theorem resM29 : M.res 29 = [] := by kernel_rfl
theorem parK29 : E.P.parK 29 = [[0]] := by kernel_rfl
theorem resK29 : E.P.resK 29 = [[2], [0]] := by kernel_rfl
theorem goFn30 : E.P.goFn 30 = true := by kernel_rfl
theorem parM30 : M.par 30 = [] := by kernel_rfl
theorem resM30 : M.res 30 = [] := by kernel_rfl
theorem parK30 : E.P.parK 30 = [[0]] := by kernel_rfl
theorem resK30 : E.P.resK 30 = [[0]] := by kernel_rfl
theorem goFn31 : E.P.goFn 31 = true := by kernel_rfl
theorem parM31 : M.par 31 = [] := by kernel_rfl
theorem resM31 : M.res 31 = [] := by kernel_rfl
theorem parK31 : E.P.parK 31 = [[0], [0]] := by kernel_rfl
theorem resK31 : E.P.resK 31 = [[0], [0]] := by kernel_rfl
theorem goFn32 : E.P.goFn 32 = true := by kernel_rfl
theorem parM32 : M.par 32 = [] := by kernel_rfl
theorem resM32 : M.res 32 = [] := by kernel_rfl
theorem parK32 : E.P.parK 32 = [[0]] := by kernel_rfl
theorem resK32 : E.P.resK 32 = [[0]] := by kernel_rfl
theorem goFn33 : E.P.goFn 33 = true := by kernel_rfl
theorem parM33 : M.par 33 = [] := by kernel_rfl
theorem resM33 : M.res 33 = [] := by kernel_rfl
theorem parK33 : E.P.parK 33 = [[0], [0]] := by kernel_rfl
theorem resK33 : E.P.resK 33 = [[0]] := by kernel_rfl
theorem goFn34 : E.P.goFn 34 = true := by kernel_rfl
theorem parM34 : M.par 34 = [] := by kernel_rfl
theorem resM34 : M.res 34 = [] := by kernel_rfl
theorem parK34 : E.P.parK 34 = [[2]] := by kernel_rfl
theorem resK34 : E.P.resK 34 = [[0]] := by kernel_rfl
theorem goFn35 : E.P.goFn 35 = true := by kernel_rfl
theorem parM35 : M.par 35 = [] := by kernel_rfl
theorem resM35 : M.res 35 = [] := by kernel_rfl
theorem parK35 : E.P.parK 35 = [[2]] := by kernel_rfl
theorem resK35 : E.P.resK 35 = [[0]] := by kernel_rfl
theorem goFn36 : E.P.goFn 36 = true := by kernel_rfl
theorem parM36 : M.par 36 = [] := by kernel_rfl
theorem resM36 : M.res 36 = [] := by kernel_rfl
theorem parK36 : E.P.parK 36 = [[0], [0]] := by kernel_rfl
theorem resK36 : E.P.resK 36 = [[0]] := by kernel_rfl
theorem goFn37 : E.P.goFn 37 = true := by kernel_rfl
theorem parM37 : M.par 37 = [] := by kernel_rfl
theorem resM37 : M.res 37 = [] := by kernel_rfl
theorem parK37 : E.P.parK 37 = [[0]] := by kernel_rfl
theorem resK37 : E.P.resK 37 = [[0]] := by kernel_rfl
theorem goFn38 : E.P.goFn 38 = true := by kernel_rfl
theorem parM38 : M.par 38 = [] := by kernel_rfl
theorem resM38 : M.res 38 = [] := by kernel_rfl
theorem parK38 : E.P.parK 38 = [[0]] := by kernel_rfl
theorem resK38 : E.P.resK 38 = [[0]] := by kernel_rfl
theorem goFn39 : E.P.goFn 39 = true := by kernel_rfl
theorem parM39 : M.par 39 = [] := by kernel_rfl
theorem resM39 : M.res 39 = [] := by kernel_rfl
theorem parK39 : E.P.parK 39 = [[0], [0]] := by kernel_rfl
theorem resK39 : E.P.resK 39 = [[0]] := by kernel_rfl
theorem goFn40 : E.P.goFn 40 = true := by kernel_rfl
theorem parM40 : M.par 40 = [] := by kernel_rfl
theorem resM40 : M.res 40 = [] := by kernel_rfl
theorem parK40 : E.P.parK 40 = [[0], [0]] := by kernel_rfl
theorem resK40 : E.P.resK 40 = [[0], [0]] := by kernel_rfl
theorem goFn41 : E.P.goFn 41 = true := by kernel_rfl
theorem parM41 : M.par 41 = [] := by kernel_rfl
theorem resM41 : M.res 41 = [] := by kernel_rfl
theorem parK41 : E.P.parK 41 = [[2]] := by kernel_rfl
theorem resK41 : E.P.resK 41 = [[2]] := by kernel_rfl
theorem goFn42 : E.P.goFn 42 = true := by kernel_rfl
theorem parM42 : M.par 42 = [] := by kernel_rfl
theorem resM42 : M.res 42 = [] := by kernel_rfl
theorem parK42 : E.P.parK 42 = [[2]] := by kernel_rfl
theorem resK42 : E.P.resK 42 = [[2]] := by kernel_rfl
theorem goFn43 : E.P.goFn 43 = true := by kernel_rfl
theorem parM43 : M.par 43 = [] := by kernel_rfl
theorem resM43 : M.res 43 = [] := by kernel_rfl
theorem parK43 : E.P.parK 43 = [[2]] := by kernel_rfl
theorem resK43 : E.P.resK 43 = [[0]] := by kernel_rfl
theorem goFn44 : E.P.goFn 44 = true := by kernel_rfl
theorem parM44 : M.par 44 = [] := by kernel_rfl
theorem resM44 : M.res 44 = [] := by kernel_rfl
theorem parK44 : E.P.parK 44 = [[0]] := by kernel_rfl
theorem resK44 : E.P.resK 44 = [] := by kernel_rfl
theorem goFn45 : E.P.goFn 45 = true := by kernel_rfl
theorem parM45 : M.par 45 = [] := by kernel_rfl
theorem resM45 : M.res 45 = [] := by kernel_rfl
theorem parK45 : E.P.parK 45 = [[0], [0]] := by kernel_rfl
theorem resK45 : E.P.resK 45 = [[0]] := by kernel_rfl
theorem goFn46 : E.P.goFn 46 = true := by kernel_rfl
theorem parM46 : M.par 46 = [] := by kernel_rfl
theorem resM46 : M.res 46 = [] := by kernel_rfl
theorem parK46 : E.P.parK 46 = [[0], [0]] := by kernel_rfl
theorem resK46 : E.P.resK 46 = [[0]] := by kernel_rfl
theorem goFn47 : E.P.goFn 47 = true := by kernel_rfl
theorem parM47 : M.par 47 = [] := by kernel_rfl
theorem resM47 : M.res 47 = [] := by kernel_rfl
theorem parK47 : E.P.parK 47 = [[0], [0]] := by kernel_rfl
theorem resK47 : E.P.resK 47 = [[0]] := by kernel_rfl
theorem goFn48 : E.P.goFn 48 = true := by kernel_rfl
theorem parM48 : M.par 48 = [] := by kernel_rfl
theorem resM48 : M.res 48 = [] := by kernel_rfl
theorem parK48 : E.P.parK 48 = [[2]] := by kernel_rfl
theorem resK48 : E.P.resK 48 = [[2]] := by kernel_rfl
theorem goFn49 : E.P.goFn 49 = true := by kernel_rfl
theorem parM49 : M.par 49 = [] := by kernel_rfl
theorem resM49 : M.res 49 = [] := by kernel_rfl
theorem parK49 : E.P.parK 49 = [[0]] := by kernel_rfl
theorem resK49 : E.P.resK 49 = [[2]] := by kernel_rfl
theorem goFn50 : E.P.goFn 50 = true := by kernel_rfl
theorem parM50 : M.par 50 = [] := by kernel_rfl
theorem resM50 : M.res 50 = [] := by kernel_rfl
theorem parK50 : E.P.parK 50 = [] := by kernel_rfl
theorem resK50 : E.P.resK 50 = [[0, 0, 0, 0, 0, 0, 0, 0]] := by kernel_rfl
theorem goFn51 : E.P.goFn 51 = true := by kernel_rfl
theorem parM51 : M.par 51 = [] := by kernel_rfl
theorem resM51 : M.res 51 = [] := by kernel_rfl
theorem parK51 : E.P.parK 51 = [[0, 0, 0, 0, 0, 0, 0, 0], [0, 0, 0, 0, 0, 0, 0, 0, 0, 0, 0, 0, 0, 0, 0, 0, 0, 0, 0, 0, 0, 0, 0, 0, 0, 0, 0, 0, 0, 0, 0, 0, 0, 0, 0, 0, 0, 0, 0, 0, 0, 0, 0, 0, 0, 0, 0, 0, 0, 0, 0, 0, 0, 0, 0, 0, 0, 0, 0, 0, 0, 0, 0, 0]] := by kernel_rfl
theorem resK51 : E.P.resK 51 = [[0, 0, 0, 0, 0, 0, 0, 0]] := by kernel_rfl
theorem goFn52 : E.P.goFn 52 = true := by kernel_rfl
theorem parM52 : M.par 52 = [] := by kernel_rfl
theorem resM52 : M.res 52 = [] := by kernel_rfl
theorem parK52 : E.P.parK 52 = [[0]] := by kernel_rfl
theorem resK52 : E.P.resK 52 = [[2]] := by kernel_rfl
theorem goFn53 : E.P.goFn 53 = true := by kernel_rfl
theorem parM53 : M.par 53 = [] := by kernel_rfl
theorem resM53 : M.res 53 = [] := by kernel_rfl
theorem parK53 : E.P.parK 53 = [] := by kernel_rfl
theorem resK53 : E.P.resK 53 = [[2]] := by kernel_rfl
theorem goFn54 : E.P.goFn 54 = true := by kernel_rfl
theorem parM54 : M.par 54 = [] := by kernel_rfl
theorem resM54 : M.res 54 = [] := by kernel_rfl
theorem parK54 : E.P.parK 54 = [[2], [2]] := by kernel_rfl
theorem resK54 : E.P.resK 54 = [[2]] := by kernel_rfl
theorem goFn56 : E.P.goFn 56 = true := by kernel_rfl
theorem parM56 : M.par 56 = [] := by kernel_rfl
theorem resM56 : M.res 56 = [] := by kernel_rfl
theorem parK56 : E.P.parK 56 = [[0]] := by kernel_rfl
theorem resK56 : E.P.resK 56 = [[0]] := by kernel_rfl
theorem goFn57 : E.P.goFn 57 = true := by kernel_rfl
theorem parM57 : M.par 57 = [] := by kernel_rfl
theorem resM57 : M.res 57 = [] := by kernel_rfl
theorem parK57 : E.P.parK 57 = [[0]] := by kernel_rfl
theorem resK57 : E.P.resK 57 = [[0]] := by kernel_rfl
theorem goFn58 : E.P.goFn 58 = true := by kernel_rfl
theorem parM58 : M.par 58 = [] := by kernel_rfl
theorem resM58 : M.res 58 = [] := by kernel_rfl
theorem parK58 : E.P.parK 58 = [[2], [0]] := by kernel_rfl
theorem resK58 : E.P.resK 58 = [] := by kernel_rfl
theorem goFn59 : E.P.goFn 59 = true := by kernel_rfl
theorem parM59 : M.par 59 = [] := by kernel_rfl
theorem resM59 : M.res 59 = [] := by kernel_rfl
theorem parK59 : E.P.parK 59 = [[2], [0], [0], [0], [0]] := by kernel_rfl
theorem resK59 : E.P.resK 59 = [[2], [0]] := by kernel_rfl
theorem goFn61 : E.P.goFn 61 = true := by kernel_rfl
theorem parM61 : M.par 61 = [] := by kernel_rfl
theorem resM61 : M.res 61 = [] := by kernel_rfl
theorem parK61 : E.P.parK 61 = [[2], [0]] := by kernel_rfl
theorem resK61 : E.P.resK 61 = [[2]] := by kernel_rfl
theorem goFn62 : E.P.goFn 62 = true := by kernel_rfl
theorem parM62 : M.par 62 = [] := by kernel_rfl
theorem resM62 : M.res 62 = [] := by kernel_rfl
theorem parK62 : E.P.parK 62 = [[0, 0, 0, 0, 0, 0, 0, 0, 0, 0, 0, 0, 0, 0, 0, 0, 0, 0, 0, 0, 0, 0, 0, 0, 0, 0, 0, 0, 0, 0, 0, 0, 0, 0, 0, 0, 0, 0, 0, 0, 0, 0, 0, 0, 0, 0, 0, 0, 0, 0, 0, 0, 0, 0, 0, 0, 0, 0, 0, 0, 0, 0, 0, 0]] := by kernel_rfl
theorem resK62 : E.P.resK 62 = [[0, 0, 0, 0, 0, 0, 0, 0, 0, 0, 0, 0, 0, 0, 0, 0, 0, 0, 0, 0, 0, 0, 0, 0, 0, 0, 0, 0, 0, 0, 0, 0, 0, 0, 0, 0, 0, 0, 0, 0, 0, 0, 0, 0, 0, 0, 0, 0, 0, 0, 0, 0, 0, 0, 0, 0, 0, 0, 0, 0, 0, 0, 0, 0]] := by kernel_rfl
theorem goFn63 : E.P.goFn 63 = true := by kernel_rfl
theorem parM63 : M.par 63 = [] := by kernel_rfl
theorem resM63 : M.res 63 = [] := by kernel_rfl
theorem parK63 : E.P.parK 63 = [[0], [0]] := by kernel_rfl
theorem resK63 : E.P.resK 63 = [[0]] := by kernel_rfl
theorem goFn64 : E.P.goFn 64 = true := by kernel_rfl
theorem parM64 : M.par 64 = [] := by kernel_rfl
theorem resM64 : M.res 64 = [] := by kernel_rfl
theorem parK64 : E.P.parK 64 = [[0], [0]] := by kernel_rfl
theorem resK64 : E.P.resK 64 = [[0]] := by kernel_rfl
theorem goFn65 : E.P.goFn 65 = true := by kernel_rfl
theorem parM65 : M.par 65 = [] := by kernel_rfl
theorem resM65 : M.res 65 = [] := by kernel_rfl
theorem parK65 : E.P.parK 65 = [] := by kernel_rfl
theorem resK65 : E.P.resK 65 = [[2]] := by kernel_rfl
theorem goFn66 : E.P.goFn 66 = true := by kernel_rfl
theorem parM66 : M.par 66 = [] := by kernel_rfl
theorem resM66 : M.res 66 = [] := by kernel_rfl
theorem parK66 : E.P.parK 66 = [[0]] := by kernel_rfl
theorem resK66 : E.P.resK 66 = [[0]] := by kernel_rfl
theorem goFn67 : E.P.goFn 67 = true := by kernel_rfl
theorem parM67 : M.par 67 = [] := by kernel_rfl
theorem resM67 : M.res 67 = [] := by kernel_rfl
theorem parK67 : E.P.parK 67 = [[0]] := by kernel_rfl
theorem resK67 : E.P.resK 67 = [[0]] := by kernel_rfl
theorem goFn68 : E.P.goFn 68 = true := by kernel_rfl
theorem parM68 : M.par 68 = [] := by kernel_rfl
theorem resM68 : M.res 68 = [] := by kernel_rfl
theorem parK68 : E.P.parK 68 = [[0]] := by kernel_rfl
theorem resK68 : E.P.resK 68 = [[0]] := by kernel_rfl
theorem goFn69 : E.P.goFn 69 = true := by kernel_rfl
theorem parM69 : M.par 69 = [] := by kernel_rfl
theorem resM69 : M.res 69 = [] := by kernel_rfl
theorem parK69 : E.P.parK 69 = [[0]] := by kernel_rfl
theorem resK69 : E.P.resK 69 = [[0]] := by kernel_rfl
theorem goFn70 : E.P.goFn 70 = true := by kernel_rfl
theorem parM70 : M.par 70 = [] := by kernel_rfl
theorem resM70 : M.res 70 = [] := by kernel_rfl
theorem parK70 : E.P.parK 70 = [[0]] := by kernel_rfl
theorem resK70 : E.P.resK 70 = [[0]] := by kernel_rfl
theorem goFn71 : E.P.goFn 71 = true := by kernel_rfl
theorem parM71 : M.par 71 = [] := by kernel_rfl
theorem resM71 : M.res 71 = [] := by kernel_rfl
theorem parK71 : E.P.parK 71 = [[0], [0]] := by kernel_rfl
theorem resK71 : E.P.resK 71 = [[0]] := by kernel_rfl
theorem goFn72 : E.P.goFn 72 = true := by kernel_rfl
theorem parM72 : M.par 72 = [] := by kernel_rfl
theorem resM72 : M.res 72 = [] := by kernel_rfl
theorem parK72 : E.P.parK 72 = [[0]] := by kernel_rfl
theorem resK72 : E.P.resK 72 = [[0]] := by kernel_rfl
theorem goFn73 : E.P.goFn 73 = true := by kernel_rfl
theorem parM73 : M.par 73 = [] := by kernel_rfl
theorem resM73 : M.res 73 = [] := by kernel_rfl
theorem parK73 : E.P.parK 73 = [[0]] := by kernel_rfl
theorem resK73 : E.P.resK 73 = [[0]] := by kernel_rfl
theorem goFn97 : E.P.goFn 97 = true := by kernel_rfl
theorem parM97 : M.par 97 = [] := by kernel_rfl
theorem resM97 : M.res 97 = [] := by kernel_rfl
theorem parK97 : E.P.parK 97 = [] := by kernel_rfl
theorem resK97 : E.P.resK 97 = [] := by kernel_rfl
theorem locM2 : M.loc 2 = 1 := by kernel_rfl
theorem locM3 : M.loc 3 = 8589933952 := by kernel_rfl
theorem locM4 : M.loc 4 = 4835703278458516698660864 := by kernel_rfl
theorem locM5 : M.loc 5 = 151115727451828646526976 := by kernel_rfl
theorem locM6 : M.loc 6 = 137438953432 := by kernel_rfl
theorem locM7 : M.loc 7 = 562949953421288 := by kernel_rfl
theorem locM8 : M.loc 8 = 262048 := by kernel_rfl
theorem locM9 : M.loc 9 = 4194112 := by kernel_rfl
theorem locM10 : M.loc 10 = 24 := by kernel_rfl
theorem locM11 : M.loc 11 = 68702682872 := by kernel_rfl
theorem locM12 : M.loc 12 = 216 := by kernel_rfl
theorem locM13 : M.loc 13 = 2199023222624 := by kernel_rfl
theorem locM14 : M.loc 14 = 17147362816 := by kernel_rfl
theorem locM15 : M.loc 15 = 134085312 := by kernel_rfl
theorem locM16 : M.loc 16 = 6274880 := by kernel_rfl
theorem locM17 : M.loc 17 = 144114088528576320 := by kernel_rfl
theorem locM18 : M.loc 18 = 54042094942125824 := by kernel_rfl
theorem locM19 : M.loc 19 = 8706863201686967516928 := by kernel_rfl
theorem locM20 : M.loc 20 = 274806996960 := by kernel_rfl
theorem locM21 : M.loc 21 = 266207216 := by kernel_rfl
theorem locM22 : M.loc 22 = 133955344 := by kernel_rfl
theorem locM23 : M.loc 23 = 134182896 := by kernel_rfl
theorem locM24 : M.loc 24 = 56 := by kernel_rfl
theorem locM25 : M.loc 25 = 120 := by kernel_rfl
theorem locM26 : M.loc 26 = 120 := by kernel_rfl
theorem locM27 : M.loc 27 = 4193280 := by kernel_rfl
theorem locM28 : M.loc 28 = 24 := by kernel_rfl
theorem locM29 : M.loc 29 = 8795556146944 := by kernel_rfl
theorem locM30 : M.loc 30 = 6096 := by kernel_rfl
theorem locM31 : M.loc 31 = 1984 := by kernel_rfl
theorem locM32 : M.loc 32 = 504 := by kernel_rfl
theorem locM33 : M.loc 33 = 64960 := by kernel_rfl
theorem locM34 : M.loc 34 = 2093248 := by kernel_rfl
theorem locM35 : M.loc 35 = 65520 := by kernel_rfl
theorem locM36 : M.loc 36 = 131040 := by kernel_rfl
theorem locM37 : M.loc 37 = 16376 := by kernel_rfl
theorem locM38 : M.loc 38 = 24 := by kernel_rfl
theorem locM39 : M.loc 39 = 224 := by kernel_rfl
theorem locM40 : M.loc 40 = 32192 := by kernel_rfl
theorem locM41 : M.loc 41 = 4503569561550336 := by kernel_rfl
theorem locM42 : M.loc 42 = 1152921503532580608 := by kernel_rfl
theorem locM43 : M.loc 43 = 33554424 := by kernel_rfl
theorem locM44 : M.loc 44 = 524220 := by kernel_rfl
theorem locM45 : M.loc 45 = 18014381321090304 := by kernel_rfl
theorem locM46 : M.loc 46 = 224 := by kernel_rfl
theorem locM47 : M.loc 47 = 262112 := by kernel_rfl
theorem locM48 : M.loc 48 = 68215103488 := by kernel_rfl
theorem locM49 : M.loc 49 = 1073676096 := by kernel_rfl
theorem locM50 : M.loc 50 = 2 := by kernel_rfl
theorem locM51 : M.loc 51 = 2595197691317242642214125633929216 := by kernel_rfl
theorem locM52 : M.loc 52 = 68702633792 := by kernel_rfl
theorem locM53 : M.loc 53 = 2 := by kernel_rfl
theorem locM54 : M.loc 54 = 215679573337205118357336120696151728477114015716832964620587687215104 := by kernel_rfl
theorem locM56 : M.loc 56 = 32744 := by kernel_rfl
theorem locM57 : M.loc 57 = 32752 := by kernel_rfl
theorem locM58 : M.loc 58 = 184149205606795480238948490449146349755637850570752 := by kernel_rfl
theorem locM59 : M.loc 59 = 5050176389969560855884357697536 := by kernel_rfl
theorem locM61 : M.loc 61 = 134152096 := by kernel_rfl
theorem locM62 : M.loc 62 = 38685626227650541404552192 := by kernel_rfl
theorem locM63 : M.loc 63 = 480 := by kernel_rfl
theorem locM64 : M.loc 64 = 8160 := by kernel_rfl
theorem locM65 : M.loc 65 = 2 := by kernel_rfl
theorem locM66 : M.loc 66 = 56 := by kernel_rfl
theorem locM67 : M.loc 67 = 33537768 := by kernel_rfl
theorem locM68 : M.loc 68 = 0 := by kernel_rfl
theorem locM69 : M.loc 69 = 248 := by kernel_rfl
theorem locM70 : M.loc 70 = 248 := by kernel_rfl
theorem locM71 : M.loc 71 = 131008 := by kernel_rfl
theorem locM72 : M.loc 72 = 16360 := by kernel_rfl
theorem locM73 : M.loc 73 = 16360 := by kernel_rfl
theorem locM97 : M.loc 97 = 15 := by kernel_rfl
attribute [go_sem] szO0 rowO0 zeroL0 isStr0 isInt0 und0 guard0 szO1 rowO1 zeroL1 isStr1 isInt1 und1 guard1 szO2 rowO2 zeroL2 isStr2 isInt2 kindO2 und2 guard2 szO3 rowO3 zeroL3 isStr3 isInt3 kindO3 und3 guard3 szO4 rowO4 zeroL4 isStr4 isInt4 boolT4 und4 guard4 szO5 rowO5 zeroL5 isStr5 isInt5 kindO5 und5 guard5 szO6 rowO6 zeroL6 isStr6 isInt6 kindO6 und6 guard6 szO7 rowO7 zeroL7 isStr7 isInt7 isComp7 und7 guard7 fldO7_0 fldO7_1 fldO7_2 fldO7_3 places7_0 places7_1 places7_2 places7_3 szO8 rowO8 zeroL8 isStr8 isInt8 isComp8 und8 guard8 fldO8_0 fldO8_1 fldO8_2 fldO8_3 places8_0 places8_1 places8_2 places8_3 szO9 rowO9 zeroL9 isStr9 isInt9 und9 guard9 szO10 rowO10 zeroL10 isStr10 isInt10 und10 guard10 szO11 rowO11 zeroL11 isStr11 isInt11 und11 guard11 szO12 rowO12 zeroL12 isStr12 isInt12 kindO12 und12 guard12 szO13 rowO13 zeroL13 isStr13 isInt13 isComp13 und13 guard13 fldO13_0 fldO13_1 places13_0 places13_1 szO14 rowO14 zeroL14 isStr14 isInt14 isComp14 und14 guard14 fldO14_0 fldO14_1 places14_0 places14_1 szO15 rowO15 zeroL15 isStr15 isInt15 ptrT15 und15 guard15 szO16 rowO16 zeroL16 isStr16 isInt16 ptrT16 und16 guard16 szO17 rowO17 zeroL17 isStr17 isInt17 ptrT17 und17 guard17 szO18 rowO18 zeroL18 isStr18 isInt18 isComp18 und18 guard18 fldO18_0 places18_0 szO19 rowO19 zeroL19 isStr19 isInt19 isComp19 und19 guard19 fldO19_0 places19_0 szO20 rowO20 zeroL20 isStr20 isInt20 und20 guard20 szO21 rowO21 zeroL21 isStr21 isInt21 kindO21 und21 guard21 szO22 rowO22 zeroL22 isStr22 isInt22 kindO22 und22 guard22 szO23 rowO23 zeroL23 elemO23 elemBytes23 elemZero23 isStr23 isInt23 isBytes23 und23 guard23 szO24 rowO24 zeroL24 isStr24 isInt24 und24 guard24 szO25 rowO25 zeroL25 isStr25 isInt25 und25 guard25 szO26 rowO26 zeroL26 isStr26 isInt26 und26 guard26 szO27 rowO27 zeroL27 isStr27 isInt27 und27 guard27 szO28 rowO28 zeroL28 isStr28 isInt28 und28 guard28 szO29 rowO29 zeroL29 isStr29 isInt29 und29 guard29 szO30 rowO30 zeroL30 isStr30 isInt30 und30 guard30 szO31 rowO31 zeroL31 isStr31 isInt31 und31 guard31 szO32 rowO32 zeroL32 isStr32 isInt32 und32 guard32 szO33 rowO33 zeroL33 isStr33 isInt33 und33 guard33 szO34 rowO34 zeroL34 isStr34 isInt34 und34 guard34 szO35 rowO35 zeroL35 isStr35 isInt35 und35 guard35 szO36 rowO36 zeroL36 isStr36 isInt36 und36 guard36 szO37 rowO37 zeroL37 isStr37 isInt37 kindO37 und37 guard37 szO38 rowO38 zeroL38 isStr38 isInt38 und38 guard38 szO39 rowO39 zeroL39 isStr39 isInt39 und39 guard39 szO40 rowO40 zeroL40 isStr40 isInt40 und40 guard40 szO41 rowO41 zeroL41 isStr41 isInt41 und41 guard41 szO42 rowO42 zeroL42 isStr42 isInt42 und42 guard42 szO43 rowO43 zeroL43 isStr43 isInt43 und43 guard43 szO44 rowO44 zeroL44 isStr44 isInt44 ptrT44 und44 guard44 szO45 rowO45 zeroL45 isStr45 isInt45 isComp45 und45 guard45 fldO45_0 fldO45_1 places45_0 places45_1 szO46 rowO46 zeroL46 isStr46 isInt46 isComp46 und46 guard46 fldO46_0 fldO46_1 places46_0 places46_1 szO47 rowO47 zeroL47 isStr47 isInt47 und47 szO48 rowO48 zeroL48 isStr48 isInt48 und48 szO49 rowO49 zeroL49 isStr49 isInt49 und49 guard49 szO50 rowO50 zeroL50 isStr50 isInt50 und50 guard50 szO51 rowO51 zeroL51 isStr51 isInt51 und51 guard51 szO52 rowO52 zeroL52 isStr52 isInt52 und52 guard52 szO53 rowO53 zeroL53 isStr53 isInt53 kindO53 und53 guard53 szO54 rowO54 zeroL54 isStr54 isInt54 und54 guard54 szO55 rowO55 zeroL55 isStr55 isInt55 ptrT55 und55 guard55 szO56 rowO56 zeroL56 isStr56 isInt56 und56 guard56 szO57 rowO57 zeroL57 isStr57 isInt57 und57 guard57 szO58 rowO58 zeroL58 isStr58 isInt58 und58 guard58 szO59 rowO59 zeroL59 isStr59 isInt59 und59 guard59 szO60 rowO60 zeroL60 isStr60 isInt60 isComp60 arrO60 und60 guard60 places60_0 places60_1 places60_2 places60_3 places60_4 places60_5 places60_6 places60_7 places60_8 places60_9 places60_10 places60_11 places60_12 places60_13 places60_14 places60_15 places60_16 places60_17 places60_18 places60_19 places60_20 places60_21 places60_22 places60_23 places60_24 places60_25 places60_26 places60_27 places60_28 places60_29 places60_30 places60_31 places60_32 places60_33 places60_34 places60_35 places60_36 places60_37 places60_38 places60_39 places60_40 places60_41 places60_42 places60_43 places60_44 places60_45 places60_46 places60_47 places60_48 places60_49 places60_50 places60_51 places60_52 places60_53 places60_54 places60_55 places60_56 places60_57 places60_58 places60_59 places60_60 places60_61 places60_62 places60_63 places60_64 places60_65 places60_66 places60_67 places60_68 places60_69 szO61 rowO61 zeroL61 isStr61 isInt61 und61 guard61 szO62 rowO62 zeroL62 isStr62 isInt62 und62 guard62 szO63 rowO63 zeroL63 isStr63 isInt63 isComp63 arrO63 und63 guard63 places63_0 places63_1 places63_2 places63_3 places63_4 places63_5 places63_6 places63_7 places63_8 places63_9 places63_10 places63_11 places63_12 places63_13 places63_14 places63_15 places63_16 places63_17 places63_18 places63_19 places63_20 places63_21 places63_22 places63_23 places63_24 places63_25 places63_26 places63_27 places63_28 places63_29 places63_30 places63_31 places63_32 places63_33 places63_34 places63_35 places63_36 places63_37 places63_38 places63_39 places63_40 places63_41 places63_42 places63_43 places63_44 places63_45 places63_46 places63_47 places63_48 places63_49 places63_50 places63_51 places63_52 places63_53 places63_54 places63_55 places63_56 places63_57 places63_58 places63_59 places63_60 places63_61 places63_62 places63_63 places63_64 places63_65 places63_66 places63_67 places63_68 places63_69 szO64 rowO64 zeroL64 elemO64 elemBytes64 elemZero64 isStr64 isInt64 und64 guard64 szO65 rowO65 zeroL65 isStr65 isInt65 und65 guard65 szO66 rowO66 zeroL66 isStr66 isInt66 und66 guard66 szO67 rowO67 zeroL67 isStr67 isInt67 und67 guard67 szO68 rowO68 zeroL68 isStr68 isInt68 und68 guard68 szO69 rowO69 zeroL69 isStr69 isInt69 isComp69 arrO69 und69 guard69 places69_0 places69_1 places69_2 places69_3 places69_4 places69_5 places69_6 places69_7 places69_8 places69_9 places69_10 places69_11 places69_12 places69_13 places69_14 places69_15 places69_16 places69_17 places69_18 places69_19 places69_20 places69_21 places69_22 places69_23 places69_24 places69_25 places69_26 places69_27 places69_28 places69_29 places69_30 places69_31 places69_32 places69_33 places69_34 places69_35 places69_36 places69_37 places69_38 places69_39 places69_40 places69_41 places69_42 places69_43 places69_44 places69_45 places69_46 places69_47 places69_48 places69_49 places69_50 places69_51 places69_52 places69_53 places69_54 places69_55 places69_56 places69_57 places69_58 places69_59 places69_60 places69_61 places69_62 places69_63 places69_64 places69_65 places69_66 places69_67 places69_68 places69_69 szO70 rowO70 zeroL70 isStr70 isInt70 und70 guard70 szO71 rowO71 zeroL71 isStr71 isInt71 und71 guard71 szO72 rowO72 zeroL72 isStr72 isInt72 und72 guard72 szO73 rowO73 zeroL73 isStr73 isInt73 und73 guard73 szO74 rowO74 zeroL74 elemO74 elemBytes74 elemZero74 isStr74 isInt74 und74 guard74 szO75 rowO75 zeroL75 isStr75 isInt75 und75 guard75 szO76 rowO76 zeroL76 isStr76 isInt76 isComp76 arrO76 und76 guard76 places76_0 places76_1 places76_2 places76_3 places76_4 places76_5 places76_6 places76_7 places76_8 places76_9 places76_10 places76_11 places76_12 places76_13 places76_14 places76_15 places76_16 places76_17 places76_18 places76_19 places76_20 places76_21 places76_22 places76_23 places76_24 places76_25 places76_26 places76_27 places76_28 places76_29 places76_30 places76_31 places76_32 places76_33 places76_34 places76_35 places76_36 places76_37 places76_38 places76_39 places76_40 places76_41 places76_42 places76_43 places76_44 places76_45 places76_46 places76_47 places76_48 places76_49 places76_50 places76_51 places76_52 places76_53 places76_54 places76_55 places76_56 places76_57 places76_58 places76_59 places76_60 places76_61 places76_62 places76_63 places76_64 places76_65 places76_66 places76_67 places76_68 places76_69 szO77 rowO77 zeroL77 isStr77 isInt77 und77 guard77 szO78 rowO78 zeroL78 isStr78 isInt78 und78 guard78 szO79 rowO79 zeroL79 isStr79 isInt79 und79 guard79 szO80 rowO80 zeroL80 isStr80 isInt80 und80 guard80 szO81 rowO81 zeroL81 isStr81 isInt81 und81 guard81 szO82 rowO82 zeroL82 isStr82 isInt82 isComp82 arrO82 und82 guard82 places82_0 places82_1 places82_2 places82_3 places82_4 places82_5 places82_6 places82_7 places82_8 places82_9 places82_10 places82_11 places82_12 places82_13 places82_14 places82_15 places82_16 places82_17 places82_18 places82_19 places82_20 places82_21 places82_22 places82_23 places82_24 places82_25 places82_26 places82_27 places82_28 places82_29 places82_30 places82_31 places82_32 places82_33 places82_34 places82_35 places82_36 places82_37 places82_38 places82_39 places82_40 places82_41 places82_42 places82_43 places82_44 places82_45 places82_46 places82_47 places82_48 places82_49 places82_50 places82_51 places82_52 places82_53 places82_54 places82_55 places82_56 places82_57 places82_58 places82_59 places82_60 places82_61 places82_62 places82_63 places82_64 places82_65 places82_66 places82_67 places82_68 places82_69 szO83 rowO83 zeroL83 isStr83 isInt83 isComp83 arrO83 und83 guard83 places83_0 places83_1 places83_2 places83_3 places83_4 places83_5 places83_6 places83_7 places83_8 places83_9 places83_10 places83_11 places83_12 places83_13 places83_14 places83_15 places83_16 places83_17 places83_18 places83_19 places83_20 places83_21 places83_22 places83_23 places83_24 places83_25 places83_26 places83_27 places83_28 places83_29 places83_30 places83_31 places83_32 places83_33 places83_34 places83_35 places83_36 places83_37 places83_38 places83_39 places83_40 places83_41 places83_42 places83_43 places83_44 places83_45 places83_46 places83_47 places83_48 places83_49 places83_50 places83_51 places83_52 places83_53 places83_54 places83_55 places83_56 places83_57 places83_58 places83_59 places83_60 places83_61 places83_62 places83_63 places83_64 places83_65 places83_66 places83_67 places83_68 places83_69 szO84 rowO84 zeroL84 isStr84 isInt84 und84 guard84 szO85 rowO85 zeroL85 isStr85 isInt85 und85 guard85 szO86 rowO86 zeroL86 isStr86 isInt86 und86 guard86 szO87 rowO87 zeroL87 isStr87 isInt87 isComp87 arrO87 und87 guard87 places87_0 places87_1 places87_2 places87_3 places87_4 places87_5 places87_6 places87_7 places87_8 places87_9 places87_10 places87_11 places87_12 places87_13 places87_14 places87_15 places87_16 places87_17 places87_18 places87_19 places87_20 places87_21 places87_22 places87_23 places87_24 places87_25 places87_26 places87_27 places87_28 places87_29 places87_30 places87_31 places87_32 places87_33 places87_34 places87_35 places87_36 places87_37 places87_38 places87_39 places87_40 places87_41 places87_42 places87_43 places87_44 places87_45 places87_46 places87_47 places87_48 places87_49 places87_50 places87_51 places87_52 places87_53 places87_54 places87_55 places87_56 places87_57 places87_58 places87_59 places87_60 places87_61 places87_62 places87_63 places87_64 places87_65 places87_66 places87_67 places87_68 places87_69 szO88 rowO88 zeroL88 isStr88 isInt88 isComp88 und88 guard88 fldO88_0 fldO88_1 fldO88_2 fldO88_3 places88_0 places88_1 places88_2 places88_3 szO89 rowO89 zeroL89 isStr89 isInt89 isComp89 und89 guard89 fldO89_0 fldO89_1 fldO89_2 fldO89_3 places89_0 places89_1 places89_2 places89_3 szO90 rowO90 zeroL90 isStr90 isInt90 isComp90 arrO90 und90 guard90 places90_0 places90_1 places90_2 places90_3 places90_4 places90_5 places90_6 places90_7 places90_8 places90_9 places90_10 places90_11 places90_12 places90_13 places90_14 places90_15 places90_16 places90_17 places90_18 places90_19 places90_20 places90_21 places90_22 places90_23 places90_24 places90_25 places90_26 places90_27 places90_28 places90_29 places90_30 places90_31 places90_32 places90_33 places90_34 places90_35 places90_36 places90_37 places90_38 places90_39 places90_40 places90_41 places90_42 places90_43 places90_44 places90_45 places90_46 places90_47 places90_48 places90_49 places90_50 places90_51 places90_52 places90_53 places90_54 places90_55 places90_56 places90_57 places90_58 places90_59 places90_60 places90_61 places90_62 places90_63 places90_64 places90_65 places90_66 places90_67 places90_68 places90_69 szO91 rowO91 zeroL91 isStr91 isInt91 isComp91 und91 guard91 places91_0 szO92 rowO92 zeroL92 isStr92 isInt92 isComp92 und92 guard92 places92_0 szO93 rowO93 zeroL93 isStr93 isInt93 und93 guard93 szO94 rowO94 zeroL94 isStr94 isInt94 kindO94 und94 guard94 szO95 rowO95 zeroL95 isStr95 isInt95 kindO95 und95 guard95 szO96 rowO96 zeroL96 isStr96 isInt96 und96 guard96 szO97 rowO97 zeroL97 isStr97 isInt97 kindO97 und97 guard97 szO98 rowO98 zeroL98 isStr98 isInt98 kindO98 und98 guard98 szO99 rowO99 zeroL99 isStr99 isInt99 isComp99 und99 guard99 fldO99_0 fldO99_1 fldO99_2 fldO99_3 fldO99_4 fldO99_5 fldO99_6 fldO99_7 fldO99_8 fldO99_9 fldO99_10 places99_0 places99_1 places99_2 places99_3 places99_4 places99_5 places99_6 places99_7 places99_8 places99_9 places99_10 szO100 rowO100 zeroL100 isStr100 isInt100 isComp100 und100 guard100 fldO100_0 fldO100_1 fldO100_2 fldO100_3 fldO100_4 fldO100_5 fldO100_6 fldO100_7 fldO100_8 fldO100_9 fldO100_10 places100_0 places100_1 places100_2 places100_3 places100_4 places100_5 places100_6 places100_7 places100_8 places100_9 places100_10 goFn2 parM2 resM2 parK2 resK2 goFn3 parM3 resM3 parK3 resK3 goFn4 parM4 resM4 parK4 resK4 goFn5 parM5 resM5 parK5 resK5 goFn6 parM6 resM6 parK6 resK6 goFn7 parM7 resM7 parK7 resK7 goFn8 parM8 resM8 parK8 resK8 goFn9 parM9 resM9 parK9 resK9 goFn10 parM10 resM10 parK10 resK10 goFn11 parM11 resM11 parK11 resK11 goFn12 parM12 resM12 parK12 resK12 goFn13 parM13 resM13 parK13 resK13 goFn14 parM14 resM14 parK14 resK14 goFn15 parM15 resM15 parK15 resK15 goFn16 parM16 resM16 parK16 resK16 goFn17 parM17 resM17 parK17 resK17 goFn18 parM18 resM18 parK18 resK18 goFn19 parM19 resM19 parK19 resK19 goFn20 parM20 resM20 parK20 resK20 goFn21 parM21 resM21 parK21 resK21 goFn22 parM22 resM22 parK22 resK22 goFn23 parM23 resM23 parK23 resK23 goFn24 parM24 resM24 parK24 resK24 goFn25 parM25 resM25 parK25 resK25 goFn26 parM26 resM26 parK26 resK26 goFn27 parM27 resM27 parK27 resK27 goFn28 parM28 resM28 parK28 resK28 goFn29 parM29 resM29 parK29 resK29 goFn30 parM30 resM30 parK30 resK30 goFn31 parM31 resM31 parK31 resK31 goFn32 parM32 resM32 parK32 resK32 goFn33 parM33 resM33 parK33 resK33 goFn34 parM34 resM34 parK34 resK34 goFn35 parM35 resM35 parK35 resK35 goFn36 parM36 resM36 parK36 resK36 goFn37 parM37 resM37 parK37 resK37 goFn38 parM38 resM38 parK38 resK38 goFn39 parM39 resM39 parK39 resK39 goFn40 parM40 resM40 parK40 resK40 goFn41 parM41 resM41 parK41 resK41 goFn42 parM42 resM42 parK42 resK42 goFn43 parM43 resM43 parK43 resK43 goFn44 parM44 resM44 parK44 resK44 goFn45 parM45 resM45 parK45 resK45 goFn46 parM46 resM46 parK46 resK46 goFn47 parM47 resM47 parK47 resK47 goFn48 parM48 resM48 parK48 resK48 goFn49 parM49 resM49 parK49 resK49 goFn50 parM50 resM50 parK50 resK50 goFn51 parM51 resM51 parK51 resK51 goFn52 parM52 resM52 parK52 resK52 goFn53 parM53 resM53 parK53 resK53 goFn54 parM54 resM54 parK54 resK54 goFn56 parM56 resM56 parK56 resK56 goFn57 parM57 resM57 parK57 resK57 goFn58 parM58 resM58 parK58 resK58 goFn59 parM59 resM59 parK59 resK59 goFn61 parM61 resM61 parK61 resK61 goFn62 parM62 resM62 parK62 resK62 goFn63 parM63 resM63 parK63 resK63 goFn64 parM64 resM64 parK64 resK64 goFn65 parM65 resM65 parK65 resK65 goFn66 parM66 resM66 parK66 resK66 goFn67 parM67 resM67 parK67 resK67 goFn68 parM68 resM68 parK68 resK68 goFn69 parM69 resM69 parK69 resK69 goFn70 parM70 resM70 parK70 resK70 goFn71 parM71 resM71 parK71 resK71 goFn72 parM72 resM72 parK72 resK72 goFn73 parM73 resM73 parK73 resK73 goFn97 parM97 resM97 parK97 resK97 locM2 locM3 locM4 locM5 locM6 locM7 locM8 locM9 locM10 locM11 locM12 locM13 locM14 locM15 locM16 locM17 locM18 locM19 locM20 locM21 locM22 locM23 locM24 locM25 locM26 locM27 locM28 locM29 locM30 locM31 locM32 locM33 locM34 locM35 locM36 locM37 locM38 locM39 locM40 locM41 locM42 locM43 locM44 locM45 locM46 locM47 locM48 locM49 locM50 locM51 locM52 locM53 locM54 locM56 locM57 locM58 locM59 locM61 locM62 locM63 locM64 locM65 locM66 locM67 locM68 locM69 locM70 locM71 locM72 locM73 locM97
end Go.Proofs.YtfifgnffipdmeaaDoor
