import Derived.Test.YtpdaanlppimbcaaProg
import Derived.Test.YtpdaanlppimbcaaDn6
namespace Go.Proofs.Ytpdaanlppimbcaa
open Go.Am
set_option maxRecDepth 100000
def parM : FuncId → List Nat
  | 30 => [1]
  | _ => []
def resM : FuncId → List Nat
  | _ => []
def locM : FuncId → Nat
  | 2 => 1
  | 3 => 10384593717069655257060990509907968
  | 4 => 8769008473744985566938285821921232496123185364992
  | 5 => 243388914955755654729421008011264
  | 6 => 268434352
  | 7 => 1180591620717411301568
  | 8 => 72634050390035251200
  | 9 => 2269741575705706496
  | 10 => 128896
  | 11 => 33028992
  | 12 => 33536960
  | 13 => 224
  | 14 => 785856
  | 15 => 16642997760
  | 16 => 257698037616
  | 17 => 9002800134238208
  | 18 => 133955344
  | 19 => 4194296
  | 20 => 56
  | 21 => 24
  | 22 => 70093865746176
  | 23 => 134182896
  | 24 => 4503565267623680
  | 25 => 457792
  | 26 => 240
  | 27 => 2097144
  | 28 => 137422143424
  | 29 => 232
  | 30 => 39614080961984263615267404800
  | 32 => 1008
  | 33 => 16368
  | 34 => 268434928
  | _ => 0
noncomputable def E : Env := ⟨Try.prog, fun _ => none⟩
noncomputable def M : Mds := ⟨parM, resM, locM⟩
noncomputable def C0 : Cf := ⟨E, M, fun _ => none⟩
@[go_sem] theorem C0_E : C0.E = E := rfl
@[go_sem] theorem C0_M : C0.M = M := rfl
theorem mixed : E.P.follows .mixedOrders = true := by kernel_rfl
theorem szO0 : E.P.szO 0 = some 1 := by kernel_rfl
theorem rowO0 : E.P.rowO 0 = some false := by kernel_rfl
theorem zeroL0 : E.P.zeroL 0 = some [AVal.sc (Value.tuple { toList := [] })] := by kernel_rfl
theorem isStr0 : E.P.isStr 0 = false := by kernel_rfl
theorem isInt0 : E.P.isInt 0 = false := by kernel_rfl
theorem und0 : (E.P.underlying 0).isSome = true := by kernel_rfl
theorem guard0 : E.P.eqGuardType E.P.depth 0 = false := by kernel_rfl
theorem szO1 : E.P.szO 1 = some 1 := by kernel_rfl
theorem rowO1 : E.P.rowO 1 = some false := by kernel_rfl
theorem zeroL1 : E.P.zeroL 1 = some [AVal.sc Value.nilFunc] := by kernel_rfl
theorem isStr1 : E.P.isStr 1 = false := by kernel_rfl
theorem isInt1 : E.P.isInt 1 = false := by kernel_rfl
theorem und1 : (E.P.underlying 1).isSome = true := by kernel_rfl
theorem guard1 : E.P.eqGuardType E.P.depth 1 = false := by kernel_rfl
theorem szO2 : E.P.szO 2 = some 1 := by kernel_rfl
theorem rowO2 : E.P.rowO 2 = some false := by kernel_rfl
theorem zeroL2 : E.P.zeroL 2 = some [AVal.int IntKind.i64 (0)] := by kernel_rfl
theorem isStr2 : E.P.isStr 2 = false := by kernel_rfl
theorem isInt2 : E.P.isInt 2 = true := by kernel_rfl
theorem kindO2 : kindO E.P 2 = some IntKind.i64 := by kernel_rfl
theorem und2 : (E.P.underlying 2).isSome = true := by kernel_rfl
theorem guard2 : E.P.eqGuardType E.P.depth 2 = false := by kernel_rfl
theorem szO3 : E.P.szO 3 = some 1 := by kernel_rfl
theorem rowO3 : E.P.rowO 3 = some false := by kernel_rfl
theorem zeroL3 : E.P.zeroL 3 = some [AVal.int IntKind.i64 (0)] := by kernel_rfl
theorem isStr3 : E.P.isStr 3 = false := by kernel_rfl
theorem isInt3 : E.P.isInt 3 = true := by kernel_rfl
theorem kindO3 : kindO E.P 3 = some IntKind.i64 := by kernel_rfl
theorem und3 : (E.P.underlying 3).isSome = true := by kernel_rfl
theorem guard3 : E.P.eqGuardType E.P.depth 3 = false := by kernel_rfl
theorem szO4 : E.P.szO 4 = some 1 := by kernel_rfl
theorem rowO4 : E.P.rowO 4 = some false := by kernel_rfl
theorem zeroL4 : E.P.zeroL 4 = some [AVal.bool false] := by kernel_rfl
theorem isStr4 : E.P.isStr 4 = false := by kernel_rfl
theorem isInt4 : E.P.isInt 4 = false := by kernel_rfl
theorem boolT4 : boolT E.P 4 = true := by kernel_rfl
theorem und4 : (E.P.underlying 4).isSome = true := by kernel_rfl
theorem guard4 : E.P.eqGuardType E.P.depth 4 = false := by kernel_rfl
theorem szO5 : E.P.szO 5 = some 1 := by kernel_rfl
theorem rowO5 : E.P.rowO 5 = some false := by kernel_rfl
theorem zeroL5 : E.P.zeroL 5 = some [AVal.int IntKind.u8 (0)] := by kernel_rfl
theorem isStr5 : E.P.isStr 5 = false := by kernel_rfl
theorem isInt5 : E.P.isInt 5 = true := by kernel_rfl
theorem kindO5 : kindO E.P 5 = some IntKind.u8 := by kernel_rfl
theorem und5 : (E.P.underlying 5).isSome = true := by kernel_rfl
theorem guard5 : E.P.eqGuardType E.P.depth 5 = false := by kernel_rfl
theorem szO6 : E.P.szO 6 = some 1 := by kernel_rfl
theorem rowO6 : E.P.rowO 6 = some false := by kernel_rfl
theorem zeroL6 : E.P.zeroL 6 = some [AVal.int IntKind.u8 (0)] := by kernel_rfl
theorem isStr6 : E.P.isStr 6 = false := by kernel_rfl
theorem isInt6 : E.P.isInt 6 = true := by kernel_rfl
theorem kindO6 : kindO E.P 6 = some IntKind.u8 := by kernel_rfl
theorem und6 : (E.P.underlying 6).isSome = true := by kernel_rfl
theorem guard6 : E.P.eqGuardType E.P.depth 6 = false := by kernel_rfl
theorem szO7 : E.P.szO 7 = some 4 := by kernel_rfl
theorem rowO7 : E.P.rowO 7 = some true := by kernel_rfl
theorem zeroL7 : E.P.zeroL 7 = some [AVal.int IntKind.i64 (0), AVal.int IntKind.i64 (0), AVal.bool false, AVal.int IntKind.u8 (0)] := by kernel_rfl
theorem isStr7 : E.P.isStr 7 = false := by kernel_rfl
theorem isInt7 : E.P.isInt 7 = false := by kernel_rfl
theorem isComp7 : E.P.isComp 7 = true := by kernel_rfl
theorem und7 : (E.P.underlying 7).isSome = true := by kernel_rfl
theorem guard7 : E.P.eqGuardType E.P.depth 7 = false := by kernel_rfl
theorem fldO7_0 : E.P.fldO 7 0 = some (0, 1, false) := by kernel_rfl
theorem fldO7_1 : E.P.fldO 7 1 = some (1, 1, false) := by kernel_rfl
theorem fldO7_2 : E.P.fldO 7 2 = some (2, 1, false) := by kernel_rfl
theorem fldO7_3 : E.P.fldO 7 3 = some (3, 1, false) := by kernel_rfl
theorem places7_0 : E.P.places 7 0 = some (0, 1) := by kernel_rfl
theorem places7_1 : E.P.places 7 1 = some (1, 1) := by kernel_rfl
theorem places7_2 : E.P.places 7 2 = some (2, 1) := by kernel_rfl
theorem places7_3 : E.P.places 7 3 = some (3, 1) := by kernel_rfl
theorem szO8 : E.P.szO 8 = some 4 := by kernel_rfl
theorem rowO8 : E.P.rowO 8 = some true := by kernel_rfl
theorem zeroL8 : E.P.zeroL 8 = some [AVal.int IntKind.i64 (0), AVal.int IntKind.i64 (0), AVal.bool false, AVal.int IntKind.u8 (0)] := by kernel_rfl
theorem isStr8 : E.P.isStr 8 = false := by kernel_rfl
theorem isInt8 : E.P.isInt 8 = false := by kernel_rfl
theorem isComp8 : E.P.isComp 8 = true := by kernel_rfl
theorem und8 : (E.P.underlying 8).isSome = true := by kernel_rfl
theorem guard8 : E.P.eqGuardType E.P.depth 8 = false := by kernel_rfl
theorem fldO8_0 : E.P.fldO 8 0 = some (0, 1, false) := by kernel_rfl
theorem fldO8_1 : E.P.fldO 8 1 = some (1, 1, false) := by kernel_rfl
theorem fldO8_2 : E.P.fldO 8 2 = some (2, 1, false) := by kernel_rfl
theorem fldO8_3 : E.P.fldO 8 3 = some (3, 1, false) := by kernel_rfl
theorem places8_0 : E.P.places 8 0 = some (0, 1) := by kernel_rfl
theorem places8_1 : E.P.places 8 1 = some (1, 1) := by kernel_rfl
theorem places8_2 : E.P.places 8 2 = some (2, 1) := by kernel_rfl
theorem places8_3 : E.P.places 8 3 = some (3, 1) := by kernel_rfl
theorem szO9 : E.P.szO 9 = some 1 := by kernel_rfl
theorem rowO9 : E.P.rowO 9 = some false := by kernel_rfl
theorem zeroL9 : E.P.zeroL 9 = some [AVal.str []] := by kernel_rfl
theorem isStr9 : E.P.isStr 9 = true := by kernel_rfl
theorem isInt9 : E.P.isInt 9 = false := by kernel_rfl
theorem und9 : (E.P.underlying 9).isSome = true := by kernel_rfl
theorem guard9 : E.P.eqGuardType E.P.depth 9 = false := by kernel_rfl
theorem szO10 : E.P.szO 10 = some 1 := by kernel_rfl
theorem rowO10 : E.P.rowO 10 = some false := by kernel_rfl
theorem zeroL10 : E.P.zeroL 10 = some [AVal.str []] := by kernel_rfl
theorem isStr10 : E.P.isStr 10 = true := by kernel_rfl
theorem isInt10 : E.P.isInt 10 = false := by kernel_rfl
theorem und10 : (E.P.underlying 10).isSome = true := by kernel_rfl
theorem guard10 : E.P.eqGuardType E.P.depth 10 = false := by kernel_rfl
theorem szO11 : E.P.szO 11 = some 1 := by kernel_rfl
theorem rowO11 : E.P.rowO 11 = some false := by kernel_rfl
theorem zeroL11 : E.P.zeroL 11 = some [AVal.str []] := by kernel_rfl
theorem isStr11 : E.P.isStr 11 = true := by kernel_rfl
theorem isInt11 : E.P.isInt 11 = false := by kernel_rfl
theorem und11 : (E.P.underlying 11).isSome = true := by kernel_rfl
theorem guard11 : E.P.eqGuardType E.P.depth 11 = false := by kernel_rfl
theorem szO12 : E.P.szO 12 = some 1 := by kernel_rfl
theorem rowO12 : E.P.rowO 12 = some false := by kernel_rfl
theorem zeroL12 : E.P.zeroL 12 = some [AVal.int IntKind.u64 (0)] := by kernel_rfl
theorem isStr12 : E.P.isStr 12 = false := by kernel_rfl
theorem isInt12 : E.P.isInt 12 = true := by kernel_rfl
theorem kindO12 : kindO E.P 12 = some IntKind.u64 := by kernel_rfl
theorem und12 : (E.P.underlying 12).isSome = true := by kernel_rfl
theorem guard12 : E.P.eqGuardType E.P.depth 12 = false := by kernel_rfl
theorem szO13 : E.P.szO 13 = some 2 := by kernel_rfl
theorem rowO13 : E.P.rowO 13 = some true := by kernel_rfl
theorem zeroL13 : E.P.zeroL 13 = some [AVal.str [], AVal.int IntKind.u64 (0)] := by kernel_rfl
theorem isStr13 : E.P.isStr 13 = false := by kernel_rfl
theorem isInt13 : E.P.isInt 13 = false := by kernel_rfl
theorem isComp13 : E.P.isComp 13 = true := by kernel_rfl
theorem und13 : (E.P.underlying 13).isSome = true := by kernel_rfl
theorem guard13 : E.P.eqGuardType E.P.depth 13 = false := by kernel_rfl
theorem fldO13_0 : E.P.fldO 13 0 = some (0, 1, false) := by kernel_rfl
theorem fldO13_1 : E.P.fldO 13 1 = some (1, 1, false) := by kernel_rfl
theorem places13_0 : E.P.places 13 0 = some (0, 1) := by kernel_rfl
theorem places13_1 : E.P.places 13 1 = some (1, 1) := by kernel_rfl
theorem szO14 : E.P.szO 14 = some 2 := by kernel_rfl
theorem rowO14 : E.P.rowO 14 = some true := by kernel_rfl
theorem zeroL14 : E.P.zeroL 14 = some [AVal.str [], AVal.int IntKind.u64 (0)] := by kernel_rfl
theorem isStr14 : E.P.isStr 14 = false := by kernel_rfl
theorem isInt14 : E.P.isInt 14 = false := by kernel_rfl
theorem isComp14 : E.P.isComp 14 = true := by kernel_rfl
theorem und14 : (E.P.underlying 14).isSome = true := by kernel_rfl
theorem guard14 : E.P.eqGuardType E.P.depth 14 = false := by kernel_rfl
theorem fldO14_0 : E.P.fldO 14 0 = some (0, 1, false) := by kernel_rfl
theorem fldO14_1 : E.P.fldO 14 1 = some (1, 1, false) := by kernel_rfl
theorem places14_0 : E.P.places 14 0 = some (0, 1) := by kernel_rfl
theorem places14_1 : E.P.places 14 1 = some (1, 1) := by kernel_rfl
theorem szO15 : E.P.szO 15 = some 1 := by kernel_rfl
theorem rowO15 : E.P.rowO 15 = some false := by kernel_rfl
theorem zeroL15 : E.P.zeroL 15 = some [AVal.sc (Value.pointer none)] := by kernel_rfl
theorem isStr15 : E.P.isStr 15 = false := by kernel_rfl
theorem isInt15 : E.P.isInt 15 = false := by kernel_rfl
theorem ptrT15 : ptrT E.P 15 = true := by kernel_rfl
theorem und15 : (E.P.underlying 15).isSome = true := by kernel_rfl
theorem guard15 : E.P.eqGuardType E.P.depth 15 = false := by kernel_rfl
theorem szO16 : E.P.szO 16 = some 1 := by kernel_rfl
theorem rowO16 : E.P.rowO 16 = some false := by kernel_rfl
theorem zeroL16 : E.P.zeroL 16 = some [AVal.sc (Value.pointer none)] := by kernel_rfl
theorem isStr16 : E.P.isStr 16 = false := by kernel_rfl
theorem isInt16 : E.P.isInt 16 = false := by kernel_rfl
theorem ptrT16 : ptrT E.P 16 = true := by kernel_rfl
theorem und16 : (E.P.underlying 16).isSome = true := by kernel_rfl
theorem guard16 : E.P.eqGuardType E.P.depth 16 = false := by kernel_rfl
theorem szO17 : E.P.szO 17 = some 1 := by kernel_rfl
theorem rowO17 : E.P.rowO 17 = some false := by kernel_rfl
theorem zeroL17 : E.P.zeroL 17 = some [AVal.sc (Value.pointer none)] := by kernel_rfl
theorem isStr17 : E.P.isStr 17 = false := by kernel_rfl
theorem isInt17 : E.P.isInt 17 = false := by kernel_rfl
theorem ptrT17 : ptrT E.P 17 = true := by kernel_rfl
theorem und17 : (E.P.underlying 17).isSome = true := by kernel_rfl
theorem guard17 : E.P.eqGuardType E.P.depth 17 = false := by kernel_rfl
theorem szO18 : E.P.szO 18 = some 1 := by kernel_rfl
theorem rowO18 : E.P.rowO 18 = some true := by kernel_rfl
theorem zeroL18 : E.P.zeroL 18 = some [AVal.sc (Value.pointer none)] := by kernel_rfl
theorem isStr18 : E.P.isStr 18 = false := by kernel_rfl
theorem isInt18 : E.P.isInt 18 = false := by kernel_rfl
theorem isComp18 : E.P.isComp 18 = true := by kernel_rfl
theorem und18 : (E.P.underlying 18).isSome = true := by kernel_rfl
theorem guard18 : E.P.eqGuardType E.P.depth 18 = false := by kernel_rfl
theorem fldO18_0 : E.P.fldO 18 0 = some (0, 1, false) := by kernel_rfl
theorem places18_0 : E.P.places 18 0 = some (0, 1) := by kernel_rfl
theorem szO19 : E.P.szO 19 = some 1 := by kernel_rfl
theorem rowO19 : E.P.rowO 19 = some true := by kernel_rfl
theorem zeroL19 : E.P.zeroL 19 = some [AVal.sc (Value.pointer none)] := by kernel_rfl
theorem isStr19 : E.P.isStr 19 = false := by kernel_rfl
theorem isInt19 : E.P.isInt 19 = false := by kernel_rfl
theorem isComp19 : E.P.isComp 19 = true := by kernel_rfl
theorem und19 : (E.P.underlying 19).isSome = true := by kernel_rfl
theorem guard19 : E.P.eqGuardType E.P.depth 19 = false := by kernel_rfl
theorem fldO19_0 : E.P.fldO 19 0 = some (0, 1, false) := by kernel_rfl
theorem places19_0 : E.P.places 19 0 = some (0, 1) := by kernel_rfl
theorem szO20 : E.P.szO 20 = some 1 := by kernel_rfl
theorem rowO20 : E.P.rowO 20 = some false := by kernel_rfl
theorem zeroL20 : E.P.zeroL 20 = some [AVal.sc Value.nilIface] := by kernel_rfl
theorem isStr20 : E.P.isStr 20 = false := by kernel_rfl
theorem isInt20 : E.P.isInt 20 = false := by kernel_rfl
theorem und20 : (E.P.underlying 20).isSome = true := by kernel_rfl
theorem guard20 : E.P.eqGuardType E.P.depth 20 = false := by kernel_rfl
theorem szO21 : E.P.szO 21 = some 1 := by kernel_rfl
theorem rowO21 : E.P.rowO 21 = some false := by kernel_rfl
theorem zeroL21 : E.P.zeroL 21 = some [AVal.int IntKind.i32 (0)] := by kernel_rfl
theorem isStr21 : E.P.isStr 21 = false := by kernel_rfl
theorem isInt21 : E.P.isInt 21 = true := by kernel_rfl
theorem kindO21 : kindO E.P 21 = some IntKind.i32 := by kernel_rfl
theorem und21 : (E.P.underlying 21).isSome = true := by kernel_rfl
theorem guard21 : E.P.eqGuardType E.P.depth 21 = false := by kernel_rfl
theorem szO22 : E.P.szO 22 = some 1 := by kernel_rfl
theorem rowO22 : E.P.rowO 22 = some false := by kernel_rfl
theorem zeroL22 : E.P.zeroL 22 = some [AVal.sc (Value.slice none 0 0)] := by kernel_rfl
theorem elemO22 : E.P.elemO 22 = some 4 := by kernel_rfl
theorem elemBytes22 : E.P.elemBytes 22 = some 48 := by kernel_rfl
theorem elemZero22 : E.P.elemZero 22 = some [AVal.str [], AVal.str [], AVal.int IntKind.i64 (0), AVal.bool false] := by kernel_rfl
theorem isStr22 : E.P.isStr 22 = false := by kernel_rfl
theorem isInt22 : E.P.isInt 22 = false := by kernel_rfl
theorem und22 : (E.P.underlying 22).isSome = true := by kernel_rfl
theorem guard22 : E.P.eqGuardType E.P.depth 22 = false := by kernel_rfl
theorem szO23 : E.P.szO 23 = some 1 := by kernel_rfl
theorem rowO23 : E.P.rowO 23 = some false := by kernel_rfl
theorem zeroL23 : E.P.zeroL 23 = some [AVal.sc Value.nilFunc] := by kernel_rfl
theorem isStr23 : E.P.isStr 23 = false := by kernel_rfl
theorem isInt23 : E.P.isInt 23 = false := by kernel_rfl
theorem und23 : (E.P.underlying 23).isSome = true := by kernel_rfl
theorem guard23 : E.P.eqGuardType E.P.depth 23 = false := by kernel_rfl
theorem szO24 : E.P.szO 24 = some 1 := by kernel_rfl
theorem rowO24 : E.P.rowO 24 = some false := by kernel_rfl
theorem zeroL24 : E.P.zeroL 24 = some [AVal.sc Value.nilFunc] := by kernel_rfl
theorem isStr24 : E.P.isStr 24 = false := by kernel_rfl
theorem isInt24 : E.P.isInt 24 = false := by kernel_rfl
theorem und24 : (E.P.underlying 24).isSome = true := by kernel_rfl
theorem guard24 : E.P.eqGuardType E.P.depth 24 = false := by kernel_rfl
theorem szO25 : E.P.szO 25 = some 4 := by kernel_rfl
theorem rowO25 : E.P.rowO 25 = some true := by kernel_rfl
theorem zeroL25 : E.P.zeroL 25 = some [AVal.str [], AVal.str [], AVal.int IntKind.i64 (0), AVal.bool false] := by kernel_rfl
theorem isStr25 : E.P.isStr 25 = false := by kernel_rfl
theorem isInt25 : E.P.isInt 25 = false := by kernel_rfl
theorem isComp25 : E.P.isComp 25 = true := by kernel_rfl
theorem und25 : (E.P.underlying 25).isSome = true := by kernel_rfl
theorem guard25 : E.P.eqGuardType E.P.depth 25 = false := by kernel_rfl
theorem fldO25_0 : E.P.fldO 25 0 = some (0, 1, false) := by kernel_rfl
theorem fldO25_1 : E.P.fldO 25 1 = some (1, 1, false) := by kernel_rfl
theorem fldO25_2 : E.P.fldO 25 2 = some (2, 1, false) := by kernel_rfl
theorem fldO25_3 : E.P.fldO 25 3 = some (3, 1, false) := by kernel_rfl
theorem places25_0 : E.P.places 25 0 = some (0, 1) := by kernel_rfl
theorem places25_1 : E.P.places 25 1 = some (1, 1) := by kernel_rfl
theorem places25_2 : E.P.places 25 2 = some (2, 1) := by kernel_rfl
theorem places25_3 : E.P.places 25 3 = some (3, 1) := by kernel_rfl
theorem szO26 : E.P.szO 26 = some 4 := by kernel_rfl
theorem rowO26 : E.P.rowO 26 = some true := by kernel_rfl
theorem zeroL26 : E.P.zeroL 26 = some [AVal.str [], AVal.str [], AVal.int IntKind.i64 (0), AVal.bool false] := by kernel_rfl
theorem isStr26 : E.P.isStr 26 = false := by kernel_rfl
theorem isInt26 : E.P.isInt 26 = false := by kernel_rfl
theorem isComp26 : E.P.isComp 26 = true := by kernel_rfl
theorem und26 : (E.P.underlying 26).isSome = true := by kernel_rfl
theorem guard26 : E.P.eqGuardType E.P.depth 26 = false := by kernel_rfl
theorem fldO26_0 : E.P.fldO 26 0 = some (0, 1, false) := by kernel_rfl
theorem fldO26_1 : E.P.fldO 26 1 = some (1, 1, false) := by kernel_rfl
theorem fldO26_2 : E.P.fldO 26 2 = some (2, 1, false) := by kernel_rfl
theorem fldO26_3 : E.P.fldO 26 3 = some (3, 1, false) := by kernel_rfl
theorem places26_0 : E.P.places 26 0 = some (0, 1) := by kernel_rfl
theorem places26_1 : E.P.places 26 1 = some (1, 1) := by kernel_rfl
theorem places26_2 : E.P.places 26 2 = some (2, 1) := by kernel_rfl
theorem places26_3 : E.P.places 26 3 = some (3, 1) := by kernel_rfl
theorem szO27 : E.P.szO 27 = some 1 := by kernel_rfl
theorem rowO27 : E.P.rowO 27 = some false := by kernel_rfl
theorem zeroL27 : E.P.zeroL 27 = some [AVal.int IntKind.i64 (0)] := by kernel_rfl
theorem isStr27 : E.P.isStr 27 = false := by kernel_rfl
theorem isInt27 : E.P.isInt 27 = true := by kernel_rfl
theorem kindO27 : kindO E.P 27 = some IntKind.i64 := by kernel_rfl
theorem und27 : (E.P.underlying 27).isSome = true := by kernel_rfl
theorem guard27 : E.P.eqGuardType E.P.depth 27 = false := by kernel_rfl
theorem szO28 : E.P.szO 28 = some 1 := by kernel_rfl
theorem rowO28 : E.P.rowO 28 = some false := by kernel_rfl
theorem zeroL28 : E.P.zeroL 28 = some [AVal.sc (Value.tuple { toList := [Value.slice none 0 0, Value.agg { toList := [Value.string { data := { toList := [] } }, Value.string { data := { toList := [] } }, Value.int IntKind.i64 (0), Value.bool false] }, Value.int IntKind.i64 (0)] })] := by kernel_rfl
theorem isStr28 : E.P.isStr 28 = false := by kernel_rfl
theorem isInt28 : E.P.isInt 28 = false := by kernel_rfl
theorem und28 : (E.P.underlying 28).isSome = true := by kernel_rfl
theorem guard28 : E.P.eqGuardType E.P.depth 28 = false := by kernel_rfl
theorem szO29 : E.P.szO 29 = some 1 := by kernel_rfl
theorem rowO29 : E.P.rowO 29 = some false := by kernel_rfl
theorem zeroL29 : E.P.zeroL 29 = some [AVal.sc Value.nilFunc] := by kernel_rfl
theorem isStr29 : E.P.isStr 29 = false := by kernel_rfl
theorem isInt29 : E.P.isInt 29 = false := by kernel_rfl
theorem und29 : (E.P.underlying 29).isSome = true := by kernel_rfl
theorem guard29 : E.P.eqGuardType E.P.depth 29 = false := by kernel_rfl
theorem szO30 : E.P.szO 30 = some 1 := by kernel_rfl
theorem rowO30 : E.P.rowO 30 = some false := by kernel_rfl
theorem zeroL30 : E.P.zeroL 30 = some [AVal.sc (Value.tuple { toList := [Value.slice none 0 0, Value.agg { toList := [Value.string { data := { toList := [] } }, Value.string { data := { toList := [] } }, Value.int IntKind.i64 (0), Value.bool false] }, Value.int IntKind.i64 (0)] })] := by kernel_rfl
theorem isStr30 : E.P.isStr 30 = false := by kernel_rfl
theorem isInt30 : E.P.isInt 30 = false := by kernel_rfl
theorem und30 : (E.P.underlying 30).isSome = true := by kernel_rfl
theorem guard30 : E.P.eqGuardType E.P.depth 30 = false := by kernel_rfl
theorem szO31 : E.P.szO 31 = some 1 := by kernel_rfl
theorem rowO31 : E.P.rowO 31 = some false := by kernel_rfl
theorem zeroL31 : E.P.zeroL 31 = some [AVal.sc Value.nilFunc] := by kernel_rfl
theorem isStr31 : E.P.isStr 31 = false := by kernel_rfl
theorem isInt31 : E.P.isInt 31 = false := by kernel_rfl
theorem und31 : (E.P.underlying 31).isSome = true := by kernel_rfl
theorem guard31 : E.P.eqGuardType E.P.depth 31 = false := by kernel_rfl
theorem szO32 : E.P.szO 32 = some 1 := by kernel_rfl
theorem rowO32 : E.P.rowO 32 = some false := by kernel_rfl
theorem zeroL32 : E.P.zeroL 32 = some [AVal.sc (Value.tuple { toList := [Value.agg { toList := [Value.string { data := { toList := [] } }, Value.string { data := { toList := [] } }, Value.int IntKind.i64 (0), Value.bool false] }, Value.bool false] })] := by kernel_rfl
theorem isStr32 : E.P.isStr 32 = false := by kernel_rfl
theorem isInt32 : E.P.isInt 32 = false := by kernel_rfl
theorem und32 : (E.P.underlying 32).isSome = true := by kernel_rfl
theorem guard32 : E.P.eqGuardType E.P.depth 32 = false := by kernel_rfl
theorem szO33 : E.P.szO 33 = some 1 := by kernel_rfl
theorem rowO33 : E.P.rowO 33 = some false := by kernel_rfl
theorem zeroL33 : E.P.zeroL 33 = some [AVal.sc Value.nilFunc] := by kernel_rfl
theorem isStr33 : E.P.isStr 33 = false := by kernel_rfl
theorem isInt33 : E.P.isInt 33 = false := by kernel_rfl
theorem und33 : (E.P.underlying 33).isSome = true := by kernel_rfl
theorem guard33 : E.P.eqGuardType E.P.depth 33 = false := by kernel_rfl
theorem szO34 : E.P.szO 34 = some 1 := by kernel_rfl
theorem rowO34 : E.P.rowO 34 = some false := by kernel_rfl
theorem zeroL34 : E.P.zeroL 34 = some [AVal.sc Value.nilFunc] := by kernel_rfl
theorem isStr34 : E.P.isStr 34 = false := by kernel_rfl
theorem isInt34 : E.P.isInt 34 = false := by kernel_rfl
theorem und34 : (E.P.underlying 34).isSome = true := by kernel_rfl
theorem guard34 : E.P.eqGuardType E.P.depth 34 = false := by kernel_rfl
theorem szO35 : E.P.szO 35 = some 1 := by kernel_rfl
theorem rowO35 : E.P.rowO 35 = some false := by kernel_rfl
theorem zeroL35 : E.P.zeroL 35 = some [AVal.sc Value.nilFunc] := by kernel_rfl
theorem isStr35 : E.P.isStr 35 = false := by kernel_rfl
theorem isInt35 : E.P.isInt 35 = false := by kernel_rfl
theorem und35 : (E.P.underlying 35).isSome = true := by kernel_rfl
theorem guard35 : E.P.eqGuardType E.P.depth 35 = false := by kernel_rfl
theorem szO36 : E.P.szO 36 = some 1 := by kernel_rfl
theorem rowO36 : E.P.rowO 36 = some false := by kernel_rfl
theorem zeroL36 : E.P.zeroL 36 = some [AVal.sc Value.nilFunc] := by kernel_rfl
theorem isStr36 : E.P.isStr 36 = false := by kernel_rfl
theorem isInt36 : E.P.isInt 36 = false := by kernel_rfl
theorem und36 : (E.P.underlying 36).isSome = true := by kernel_rfl
theorem guard36 : E.P.eqGuardType E.P.depth 36 = false := by kernel_rfl
theorem szO37 : E.P.szO 37 = some 1 := by kernel_rfl
theorem rowO37 : E.P.rowO 37 = some false := by kernel_rfl
theorem zeroL37 : E.P.zeroL 37 = some [AVal.sc (Value.tuple { toList := [Value.slice none 0 0, Value.int IntKind.i64 (0)] })] := by kernel_rfl
theorem isStr37 : E.P.isStr 37 = false := by kernel_rfl
theorem isInt37 : E.P.isInt 37 = false := by kernel_rfl
theorem und37 : (E.P.underlying 37).isSome = true := by kernel_rfl
theorem guard37 : E.P.eqGuardType E.P.depth 37 = false := by kernel_rfl
theorem szO38 : E.P.szO 38 = some 1 := by kernel_rfl
theorem rowO38 : E.P.rowO 38 = some false := by kernel_rfl
theorem zeroL38 : E.P.zeroL 38 = some [AVal.sc Value.nilFunc] := by kernel_rfl
theorem isStr38 : E.P.isStr 38 = false := by kernel_rfl
theorem isInt38 : E.P.isInt 38 = false := by kernel_rfl
theorem und38 : (E.P.underlying 38).isSome = true := by kernel_rfl
theorem guard38 : E.P.eqGuardType E.P.depth 38 = false := by kernel_rfl
theorem szO39 : E.P.szO 39 = some 1 := by kernel_rfl
theorem rowO39 : E.P.rowO 39 = some false := by kernel_rfl
theorem zeroL39 : E.P.zeroL 39 = some [AVal.sc Value.nilFunc] := by kernel_rfl
theorem isStr39 : E.P.isStr 39 = false := by kernel_rfl
theorem isInt39 : E.P.isInt 39 = false := by kernel_rfl
theorem und39 : (E.P.underlying 39).isSome = true := by kernel_rfl
theorem guard39 : E.P.eqGuardType E.P.depth 39 = false := by kernel_rfl
theorem szO40 : E.P.szO 40 = some 1 := by kernel_rfl
theorem rowO40 : E.P.rowO 40 = some false := by kernel_rfl
theorem zeroL40 : E.P.zeroL 40 = some [AVal.sc Value.nilFunc] := by kernel_rfl
theorem isStr40 : E.P.isStr 40 = false := by kernel_rfl
theorem isInt40 : E.P.isInt 40 = false := by kernel_rfl
theorem und40 : (E.P.underlying 40).isSome = true := by kernel_rfl
theorem guard40 : E.P.eqGuardType E.P.depth 40 = false := by kernel_rfl
theorem szO41 : E.P.szO 41 = some 1 := by kernel_rfl
theorem rowO41 : E.P.rowO 41 = some false := by kernel_rfl
theorem zeroL41 : E.P.zeroL 41 = some [AVal.sc Value.nilFunc] := by kernel_rfl
theorem isStr41 : E.P.isStr 41 = false := by kernel_rfl
theorem isInt41 : E.P.isInt 41 = false := by kernel_rfl
theorem und41 : (E.P.underlying 41).isSome = true := by kernel_rfl
theorem guard41 : E.P.eqGuardType E.P.depth 41 = false := by kernel_rfl
theorem szO42 : E.P.szO 42 = some 1 := by kernel_rfl
theorem rowO42 : E.P.rowO 42 = some false := by kernel_rfl
theorem zeroL42 : E.P.zeroL 42 = some [AVal.sc Value.nilFunc] := by kernel_rfl
theorem isStr42 : E.P.isStr 42 = false := by kernel_rfl
theorem isInt42 : E.P.isInt 42 = false := by kernel_rfl
theorem und42 : (E.P.underlying 42).isSome = true := by kernel_rfl
theorem guard42 : E.P.eqGuardType E.P.depth 42 = false := by kernel_rfl
theorem szO43 : E.P.szO 43 = some 1 := by kernel_rfl
theorem rowO43 : E.P.rowO 43 = some false := by kernel_rfl
theorem zeroL43 : E.P.zeroL 43 = some [AVal.sc Value.nilFunc] := by kernel_rfl
theorem isStr43 : E.P.isStr 43 = false := by kernel_rfl
theorem isInt43 : E.P.isInt 43 = false := by kernel_rfl
theorem und43 : (E.P.underlying 43).isSome = true := by kernel_rfl
theorem guard43 : E.P.eqGuardType E.P.depth 43 = false := by kernel_rfl
theorem szO44 : E.P.szO 44 = some 1 := by kernel_rfl
theorem rowO44 : E.P.rowO 44 = some false := by kernel_rfl
theorem zeroL44 : E.P.zeroL 44 = some [AVal.sc Value.nilFunc] := by kernel_rfl
theorem isStr44 : E.P.isStr 44 = false := by kernel_rfl
theorem isInt44 : E.P.isInt 44 = false := by kernel_rfl
theorem und44 : (E.P.underlying 44).isSome = true := by kernel_rfl
theorem guard44 : E.P.eqGuardType E.P.depth 44 = false := by kernel_rfl
theorem szO45 : E.P.szO 45 = some 1 := by kernel_rfl
theorem rowO45 : E.P.rowO 45 = some false := by kernel_rfl
theorem zeroL45 : E.P.zeroL 45 = some [AVal.sc Value.nilFunc] := by kernel_rfl
theorem isStr45 : E.P.isStr 45 = false := by kernel_rfl
theorem isInt45 : E.P.isInt 45 = false := by kernel_rfl
theorem und45 : (E.P.underlying 45).isSome = true := by kernel_rfl
theorem guard45 : E.P.eqGuardType E.P.depth 45 = false := by kernel_rfl
theorem szO46 : E.P.szO 46 = some 1 := by kernel_rfl
theorem rowO46 : E.P.rowO 46 = some false := by kernel_rfl
theorem zeroL46 : E.P.zeroL 46 = some [AVal.sc Value.nilFunc] := by kernel_rfl
theorem isStr46 : E.P.isStr 46 = false := by kernel_rfl
theorem isInt46 : E.P.isInt 46 = false := by kernel_rfl
theorem und46 : (E.P.underlying 46).isSome = true := by kernel_rfl
theorem guard46 : E.P.eqGuardType E.P.depth 46 = false := by kernel_rfl
theorem szO47 : E.P.szO 47 = some 1 := by kernel_rfl
theorem rowO47 : E.P.rowO 47 = some false := by kernel_rfl
theorem zeroL47 : E.P.zeroL 47 = some [AVal.sc Value.nilFunc] := by kernel_rfl
theorem isStr47 : E.P.isStr 47 = false := by kernel_rfl
theorem isInt47 : E.P.isInt 47 = false := by kernel_rfl
theorem und47 : (E.P.underlying 47).isSome = true := by kernel_rfl
theorem guard47 : E.P.eqGuardType E.P.depth 47 = false := by kernel_rfl
theorem szO48 : E.P.szO 48 = some 1 := by kernel_rfl
theorem rowO48 : E.P.rowO 48 = some false := by kernel_rfl
theorem zeroL48 : E.P.zeroL 48 = some [AVal.sc Value.nilFunc] := by kernel_rfl
theorem isStr48 : E.P.isStr 48 = false := by kernel_rfl
theorem isInt48 : E.P.isInt 48 = false := by kernel_rfl
theorem und48 : (E.P.underlying 48).isSome = true := by kernel_rfl
theorem guard48 : E.P.eqGuardType E.P.depth 48 = false := by kernel_rfl
theorem szO49 : E.P.szO 49 = some 1 := by kernel_rfl
theorem rowO49 : E.P.rowO 49 = some false := by kernel_rfl
theorem zeroL49 : E.P.zeroL 49 = some [AVal.sc Value.nilFunc] := by kernel_rfl
theorem isStr49 : E.P.isStr 49 = false := by kernel_rfl
theorem isInt49 : E.P.isInt 49 = false := by kernel_rfl
theorem und49 : (E.P.underlying 49).isSome = true := by kernel_rfl
theorem guard49 : E.P.eqGuardType E.P.depth 49 = false := by kernel_rfl
theorem szO50 : E.P.szO 50 = some 4 := by kernel_rfl
theorem rowO50 : E.P.rowO 50 = some true := by kernel_rfl
theorem zeroL50 : E.P.zeroL 50 = some [AVal.sc (Value.pointer none), AVal.sc (Value.pointer none), AVal.sc (Value.pointer none), AVal.str []] := by kernel_rfl
theorem isStr50 : E.P.isStr 50 = false := by kernel_rfl
theorem isInt50 : E.P.isInt 50 = false := by kernel_rfl
theorem isComp50 : E.P.isComp 50 = true := by kernel_rfl
theorem und50 : (E.P.underlying 50).isSome = true := by kernel_rfl
theorem guard50 : E.P.eqGuardType E.P.depth 50 = false := by kernel_rfl
theorem fldO50_0 : E.P.fldO 50 0 = some (0, 1, false) := by kernel_rfl
theorem fldO50_1 : E.P.fldO 50 1 = some (1, 1, false) := by kernel_rfl
theorem fldO50_2 : E.P.fldO 50 2 = some (2, 1, false) := by kernel_rfl
theorem fldO50_3 : E.P.fldO 50 3 = some (3, 1, false) := by kernel_rfl
theorem places50_0 : E.P.places 50 0 = some (0, 1) := by kernel_rfl
theorem places50_1 : E.P.places 50 1 = some (1, 1) := by kernel_rfl
theorem places50_2 : E.P.places 50 2 = some (2, 1) := by kernel_rfl
theorem places50_3 : E.P.places 50 3 = some (3, 1) := by kernel_rfl
theorem szO51 : E.P.szO 51 = some 4 := by kernel_rfl
theorem rowO51 : E.P.rowO 51 = some true := by kernel_rfl
theorem zeroL51 : E.P.zeroL 51 = some [AVal.sc (Value.pointer none), AVal.sc (Value.pointer none), AVal.sc (Value.pointer none), AVal.str []] := by kernel_rfl
theorem isStr51 : E.P.isStr 51 = false := by kernel_rfl
theorem isInt51 : E.P.isInt 51 = false := by kernel_rfl
theorem isComp51 : E.P.isComp 51 = true := by kernel_rfl
theorem und51 : (E.P.underlying 51).isSome = true := by kernel_rfl
theorem guard51 : E.P.eqGuardType E.P.depth 51 = false := by kernel_rfl
theorem fldO51_0 : E.P.fldO 51 0 = some (0, 1, false) := by kernel_rfl
theorem fldO51_1 : E.P.fldO 51 1 = some (1, 1, false) := by kernel_rfl
theorem fldO51_2 : E.P.fldO 51 2 = some (2, 1, false) := by kernel_rfl
theorem fldO51_3 : E.P.fldO 51 3 = some (3, 1, false) := by kernel_rfl
theorem places51_0 : E.P.places 51 0 = some (0, 1) := by kernel_rfl
theorem places51_1 : E.P.places 51 1 = some (1, 1) := by kernel_rfl
theorem places51_2 : E.P.places 51 2 = some (2, 1) := by kernel_rfl
theorem places51_3 : E.P.places 51 3 = some (3, 1) := by kernel_rfl
theorem szO52 : E.P.szO 52 = some 0 := by kernel_rfl
theorem rowO52 : E.P.rowO 52 = some true := by kernel_rfl
theorem zeroL52 : E.P.zeroL 52 = some [] := by kernel_rfl
theorem isStr52 : E.P.isStr 52 = false := by kernel_rfl
theorem isInt52 : E.P.isInt 52 = false := by kernel_rfl
theorem isComp52 : E.P.isComp 52 = true := by kernel_rfl
theorem arrO52 : E.P.arrO 52 = some (0, 1, false) := by kernel_rfl
theorem und52 : (E.P.underlying 52).isSome = true := by kernel_rfl
theorem guard52 : E.P.eqGuardType E.P.depth 52 = false := by kernel_rfl
theorem places52_0 : E.P.places 52 0 = some (0, 1) := by kernel_rfl
theorem places52_1 : E.P.places 52 1 = some (1, 1) := by kernel_rfl
theorem places52_2 : E.P.places 52 2 = some (2, 1) := by kernel_rfl
theorem places52_3 : E.P.places 52 3 = some (3, 1) := by kernel_rfl
theorem places52_4 : E.P.places 52 4 = some (4, 1) := by kernel_rfl
theorem places52_5 : E.P.places 52 5 = some (5, 1) := by kernel_rfl
theorem places52_6 : E.P.places 52 6 = some (6, 1) := by kernel_rfl
theorem places52_7 : E.P.places 52 7 = some (7, 1) := by kernel_rfl
theorem places52_8 : E.P.places 52 8 = some (8, 1) := by kernel_rfl
theorem places52_9 : E.P.places 52 9 = some (9, 1) := by kernel_rfl
theorem places52_10 : E.P.places 52 10 = some (10, 1) := by kernel_rfl
theorem places52_11 : E.P.places 52 11 = some (11, 1) := by kernel_rfl
theorem places52_12 : E.P.places 52 12 = some (12, 1) := by kernel_rfl
theorem places52_13 : E.P.places 52 13 = some (13, 1) := by kernel_rfl
theorem places52_14 : E.P.places 52 14 = some (14, 1) := by kernel_rfl
theorem places52_15 : E.P.places 52 15 = some (15, 1) := by kernel_rfl
theorem places52_16 : E.P.places 52 16 = some (16, 1) := by kernel_rfl
theorem places52_17 : E.P.places 52 17 = some (17, 1) := by kernel_rfl
theorem places52_18 : E.P.places 52 18 = some (18, 1) := by kernel_rfl
theorem places52_19 : E.P.places 52 19 = some (19, 1) := by kernel_rfl
theorem places52_20 : E.P.places 52 20 = some (20, 1) := by kernel_rfl
theorem places52_21 : E.P.places 52 21 = some (21, 1) := by kernel_rfl
theorem places52_22 : E.P.places 52 22 = some (22, 1) := by kernel_rfl
theorem places52_23 : E.P.places 52 23 = some (23, 1) := by kernel_rfl
theorem places52_24 : E.P.places 52 24 = some (24, 1) := by kernel_rfl
theorem places52_25 : E.P.places 52 25 = some (25, 1) := by kernel_rfl
theorem places52_26 : E.P.places 52 26 = some (26, 1) := by kernel_rfl
theorem places52_27 : E.P.places 52 27 = some (27, 1) := by kernel_rfl
theorem places52_28 : E.P.places 52 28 = some (28, 1) := by kernel_rfl
theorem places52_29 : E.P.places 52 29 = some (29, 1) := by kernel_rfl
theorem places52_30 : E.P.places 52 30 = some (30, 1) := by kernel_rfl
theorem places52_31 : E.P.places 52 31 = some (31, 1) := by kernel_rfl
theorem places52_32 : E.P.places 52 32 = some (32, 1) := by kernel_rfl
theorem places52_33 : E.P.places 52 33 = some (33, 1) := by kernel_rfl
theorem places52_34 : E.P.places 52 34 = some (34, 1) := by kernel_rfl
theorem places52_35 : E.P.places 52 35 = some (35, 1) := by kernel_rfl
theorem places52_36 : E.P.places 52 36 = some (36, 1) := by kernel_rfl
theorem places52_37 : E.P.places 52 37 = some (37, 1) := by kernel_rfl
theorem places52_38 : E.P.places 52 38 = some (38, 1) := by kernel_rfl
theorem places52_39 : E.P.places 52 39 = some (39, 1) := by kernel_rfl
theorem places52_40 : E.P.places 52 40 = some (40, 1) := by kernel_rfl
theorem places52_41 : E.P.places 52 41 = some (41, 1) := by kernel_rfl
theorem places52_42 : E.P.places 52 42 = some (42, 1) := by kernel_rfl
theorem places52_43 : E.P.places 52 43 = some (43, 1) := by kernel_rfl
theorem places52_44 : E.P.places 52 44 = some (44, 1) := by kernel_rfl
theorem places52_45 : E.P.places 52 45 = some (45, 1) := by kernel_rfl
theorem places52_46 : E.P.places 52 46 = some (46, 1) := by kernel_rfl
theorem places52_47 : E.P.places 52 47 = some (47, 1) := by kernel_rfl
theorem places52_48 : E.P.places 52 48 = some (48, 1) := by kernel_rfl
theorem places52_49 : E.P.places 52 49 = some (49, 1) := by kernel_rfl
theorem places52_50 : E.P.places 52 50 = some (50, 1) := by kernel_rfl
theorem places52_51 : E.P.places 52 51 = some (51, 1) := by kernel_rfl
theorem places52_52 : E.P.places 52 52 = some (52, 1) := by kernel_rfl
theorem places52_53 : E.P.places 52 53 = some (53, 1) := by kernel_rfl
theorem places52_54 : E.P.places 52 54 = some (54, 1) := by kernel_rfl
theorem places52_55 : E.P.places 52 55 = some (55, 1) := by kernel_rfl
theorem places52_56 : E.P.places 52 56 = some (56, 1) := by kernel_rfl
theorem places52_57 : E.P.places 52 57 = some (57, 1) := by kernel_rfl
theorem places52_58 : E.P.places 52 58 = some (58, 1) := by kernel_rfl
theorem places52_59 : E.P.places 52 59 = some (59, 1) := by kernel_rfl
theorem places52_60 : E.P.places 52 60 = some (60, 1) := by kernel_rfl
theorem places52_61 : E.P.places 52 61 = some (61, 1) := by kernel_rfl
theorem places52_62 : E.P.places 52 62 = some (62, 1) := by kernel_rfl
theorem places52_63 : E.P.places 52 63 = some (63, 1) := by kernel_rfl
theorem places52_64 : E.P.places 52 64 = some (64, 1) := by kernel_rfl
theorem places52_65 : E.P.places 52 65 = some (65, 1) := by kernel_rfl
theorem places52_66 : E.P.places 52 66 = some (66, 1) := by kernel_rfl
theorem places52_67 : E.P.places 52 67 = some (67, 1) := by kernel_rfl
theorem places52_68 : E.P.places 52 68 = some (68, 1) := by kernel_rfl
theorem places52_69 : E.P.places 52 69 = some (69, 1) := by kernel_rfl
theorem szO53 : E.P.szO 53 = some 0 := by kernel_rfl
theorem rowO53 : E.P.rowO 53 = some true := by kernel_rfl
theorem zeroL53 : E.P.zeroL 53 = some [] := by kernel_rfl
theorem isStr53 : E.P.isStr 53 = false := by kernel_rfl
theorem isInt53 : E.P.isInt 53 = false := by kernel_rfl
theorem isComp53 : E.P.isComp 53 = true := by kernel_rfl
theorem und53 : (E.P.underlying 53).isSome = true := by kernel_rfl
theorem guard53 : E.P.eqGuardType E.P.depth 53 = false := by kernel_rfl
theorem places53_0 : E.P.places 53 0 = some (0, 0) := by kernel_rfl
theorem szO54 : E.P.szO 54 = some 0 := by kernel_rfl
theorem rowO54 : E.P.rowO 54 = some true := by kernel_rfl
theorem zeroL54 : E.P.zeroL 54 = some [] := by kernel_rfl
theorem isStr54 : E.P.isStr 54 = false := by kernel_rfl
theorem isInt54 : E.P.isInt 54 = false := by kernel_rfl
theorem isComp54 : E.P.isComp 54 = true := by kernel_rfl
theorem und54 : (E.P.underlying 54).isSome = true := by kernel_rfl
theorem guard54 : E.P.eqGuardType E.P.depth 54 = false := by kernel_rfl
theorem places54_0 : E.P.places 54 0 = some (0, 0) := by kernel_rfl
theorem szO55 : E.P.szO 55 = some 1 := by kernel_rfl
theorem rowO55 : E.P.rowO 55 = some false := by kernel_rfl
theorem zeroL55 : E.P.zeroL 55 = some [AVal.sc Value.nilFunc] := by kernel_rfl
theorem isStr55 : E.P.isStr 55 = false := by kernel_rfl
theorem isInt55 : E.P.isInt 55 = false := by kernel_rfl
theorem und55 : (E.P.underlying 55).isSome = true := by kernel_rfl
theorem guard55 : E.P.eqGuardType E.P.depth 55 = false := by kernel_rfl
theorem szO56 : E.P.szO 56 = some 1 := by kernel_rfl
theorem rowO56 : E.P.rowO 56 = some false := by kernel_rfl
theorem zeroL56 : E.P.zeroL 56 = some [AVal.int IntKind.u32 (0)] := by kernel_rfl
theorem isStr56 : E.P.isStr 56 = false := by kernel_rfl
theorem isInt56 : E.P.isInt 56 = true := by kernel_rfl
theorem kindO56 : kindO E.P 56 = some IntKind.u32 := by kernel_rfl
theorem und56 : (E.P.underlying 56).isSome = true := by kernel_rfl
theorem guard56 : E.P.eqGuardType E.P.depth 56 = false := by kernel_rfl
theorem szO57 : E.P.szO 57 = some 1 := by kernel_rfl
theorem rowO57 : E.P.rowO 57 = some false := by kernel_rfl
theorem zeroL57 : E.P.zeroL 57 = some [AVal.int IntKind.u8 (0)] := by kernel_rfl
theorem isStr57 : E.P.isStr 57 = false := by kernel_rfl
theorem isInt57 : E.P.isInt 57 = true := by kernel_rfl
theorem kindO57 : kindO E.P 57 = some IntKind.u8 := by kernel_rfl
theorem und57 : (E.P.underlying 57).isSome = true := by kernel_rfl
theorem guard57 : E.P.eqGuardType E.P.depth 57 = false := by kernel_rfl
theorem szO58 : E.P.szO 58 = some 1 := by kernel_rfl
theorem rowO58 : E.P.rowO 58 = some false := by kernel_rfl
theorem zeroL58 : E.P.zeroL 58 = some [AVal.int IntKind.u8 (0)] := by kernel_rfl
theorem isStr58 : E.P.isStr 58 = false := by kernel_rfl
theorem isInt58 : E.P.isInt 58 = true := by kernel_rfl
theorem kindO58 : kindO E.P 58 = some IntKind.u8 := by kernel_rfl
theorem und58 : (E.P.underlying 58).isSome = true := by kernel_rfl
theorem guard58 : E.P.eqGuardType E.P.depth 58 = false := by kernel_rfl
theorem szO59 : E.P.szO 59 = some 1 := by kernel_rfl
theorem rowO59 : E.P.rowO 59 = some false := by kernel_rfl
theorem zeroL59 : E.P.zeroL 59 = some [AVal.sc Value.nilFunc] := by kernel_rfl
theorem isStr59 : E.P.isStr 59 = false := by kernel_rfl
theorem isInt59 : E.P.isInt 59 = false := by kernel_rfl
theorem und59 : (E.P.underlying 59).isSome = true := by kernel_rfl
theorem guard59 : E.P.eqGuardType E.P.depth 59 = false := by kernel_rfl
theorem szO60 : E.P.szO 60 = some 1 := by kernel_rfl
theorem rowO60 : E.P.rowO 60 = some false := by kernel_rfl
theorem zeroL60 : E.P.zeroL 60 = some [AVal.sc (Value.pointer none)] := by kernel_rfl
theorem isStr60 : E.P.isStr 60 = false := by kernel_rfl
theorem isInt60 : E.P.isInt 60 = false := by kernel_rfl
theorem ptrT60 : ptrT E.P 60 = true := by kernel_rfl
theorem und60 : (E.P.underlying 60).isSome = true := by kernel_rfl
theorem guard60 : E.P.eqGuardType E.P.depth 60 = false := by kernel_rfl
theorem szO61 : E.P.szO 61 = some 1 := by kernel_rfl
theorem rowO61 : E.P.rowO 61 = some false := by kernel_rfl
theorem zeroL61 : E.P.zeroL 61 = some [AVal.int IntKind.i32 (0)] := by kernel_rfl
theorem isStr61 : E.P.isStr 61 = false := by kernel_rfl
theorem isInt61 : E.P.isInt 61 = true := by kernel_rfl
theorem kindO61 : kindO E.P 61 = some IntKind.i32 := by kernel_rfl
theorem und61 : (E.P.underlying 61).isSome = true := by kernel_rfl
theorem guard61 : E.P.eqGuardType E.P.depth 61 = false := by kernel_rfl
theorem szO62 : E.P.szO 62 = some 1 := by kernel_rfl
theorem rowO62 : E.P.rowO 62 = some false := by kernel_rfl
theorem zeroL62 : E.P.zeroL 62 = some [AVal.int IntKind.i32 (0)] := by kernel_rfl
theorem isStr62 : E.P.isStr 62 = false := by kernel_rfl
theorem isInt62 : E.P.isInt 62 = true := by kernel_rfl
theorem kindO62 : kindO E.P 62 = some IntKind.i32 := by kernel_rfl
theorem und62 : (E.P.underlying 62).isSome = true := by kernel_rfl
theorem guard62 : E.P.eqGuardType E.P.depth 62 = false := by kernel_rfl
theorem szO63 : E.P.szO 63 = some 11 := by kernel_rfl
theorem rowO63 : E.P.rowO 63 = some true := by kernel_rfl
theorem zeroL63 : E.P.zeroL 63 = some [AVal.int IntKind.u64 (0), AVal.int IntKind.u64 (0), AVal.int IntKind.u32 (0), AVal.int IntKind.u8 (0), AVal.int IntKind.u8 (0), AVal.int IntKind.u8 (0), AVal.int IntKind.u8 (0), AVal.sc Value.nilFunc, AVal.sc (Value.pointer none), AVal.int IntKind.i32 (0), AVal.int IntKind.i32 (0)] := by kernel_rfl
theorem isStr63 : E.P.isStr 63 = false := by kernel_rfl
theorem isInt63 : E.P.isInt 63 = false := by kernel_rfl
theorem isComp63 : E.P.isComp 63 = true := by kernel_rfl
theorem und63 : (E.P.underlying 63).isSome = true := by kernel_rfl
theorem guard63 : E.P.eqGuardType E.P.depth 63 = false := by kernel_rfl
theorem fldO63_0 : E.P.fldO 63 0 = some (0, 1, false) := by kernel_rfl
theorem fldO63_1 : E.P.fldO 63 1 = some (1, 1, false) := by kernel_rfl
theorem fldO63_2 : E.P.fldO 63 2 = some (2, 1, false) := by kernel_rfl
theorem fldO63_3 : E.P.fldO 63 3 = some (3, 1, false) := by kernel_rfl
theorem fldO63_4 : E.P.fldO 63 4 = some (4, 1, false) := by kernel_rfl
theorem fldO63_5 : E.P.fldO 63 5 = some (5, 1, false) := by kernel_rfl
theorem fldO63_6 : E.P.fldO 63 6 = some (6, 1, false) := by kernel_rfl
theorem fldO63_7 : E.P.fldO 63 7 = some (7, 1, false) := by kernel_rfl
theorem fldO63_8 : E.P.fldO 63 8 = some (8, 1, false) := by kernel_rfl
theorem fldO63_9 : E.P.fldO 63 9 = some (9, 1, false) := by kernel_rfl
theorem fldO63_10 : E.P.fldO 63 10 = some (10, 1, false) := by kernel_rfl
theorem places63_0 : E.P.places 63 0 = some (0, 1) := by kernel_rfl
theorem places63_1 : E.P.places 63 1 = some (1, 1) := by kernel_rfl
theorem places63_2 : E.P.places 63 2 = some (2, 1) := by kernel_rfl
theorem places63_3 : E.P.places 63 3 = some (3, 1) := by kernel_rfl
theorem places63_4 : E.P.places 63 4 = some (4, 1) := by kernel_rfl
theorem places63_5 : E.P.places 63 5 = some (5, 1) := by kernel_rfl
theorem places63_6 : E.P.places 63 6 = some (6, 1) := by kernel_rfl
theorem places63_7 : E.P.places 63 7 = some (7, 1) := by kernel_rfl
theorem places63_8 : E.P.places 63 8 = some (8, 1) := by kernel_rfl
theorem places63_9 : E.P.places 63 9 = some (9, 1) := by kernel_rfl
theorem places63_10 : E.P.places 63 10 = some (10, 1) := by kernel_rfl
theorem szO64 : E.P.szO 64 = some 11 := by kernel_rfl
theorem rowO64 : E.P.rowO 64 = some true := by kernel_rfl
theorem zeroL64 : E.P.zeroL 64 = some [AVal.int IntKind.u64 (0), AVal.int IntKind.u64 (0), AVal.int IntKind.u32 (0), AVal.int IntKind.u8 (0), AVal.int IntKind.u8 (0), AVal.int IntKind.u8 (0), AVal.int IntKind.u8 (0), AVal.sc Value.nilFunc, AVal.sc (Value.pointer none), AVal.int IntKind.i32 (0), AVal.int IntKind.i32 (0)] := by kernel_rfl
theorem isStr64 : E.P.isStr 64 = false := by kernel_rfl
theorem isInt64 : E.P.isInt 64 = false := by kernel_rfl
theorem isComp64 : E.P.isComp 64 = true := by kernel_rfl
theorem und64 : (E.P.underlying 64).isSome = true := by kernel_rfl
theorem guard64 : E.P.eqGuardType E.P.depth 64 = false := by kernel_rfl
theorem fldO64_0 : E.P.fldO 64 0 = some (0, 1, false) := by kernel_rfl
theorem fldO64_1 : E.P.fldO 64 1 = some (1, 1, false) := by kernel_rfl
theorem fldO64_2 : E.P.fldO 64 2 = some (2, 1, false) := by kernel_rfl
theorem fldO64_3 : E.P.fldO 64 3 = some (3, 1, false) := by kernel_rfl
theorem fldO64_4 : E.P.fldO 64 4 = some (4, 1, false) := by kernel_rfl
theorem fldO64_5 : E.P.fldO 64 5 = some (5, 1, false) := by kernel_rfl
theorem fldO64_6 : E.P.fldO 64 6 = some (6, 1, false) := by kernel_rfl
theorem fldO64_7 : E.P.fldO 64 7 = some (7, 1, false) := by kernel_rfl
theorem fldO64_8 : E.P.fldO 64 8 = some (8, 1, false) := by kernel_rfl
theorem fldO64_9 : E.P.fldO 64 9 = some (9, 1, false) := by kernel_rfl
theorem fldO64_10 : E.P.fldO 64 10 = some (10, 1, false) := by kernel_rfl
theorem places64_0 : E.P.places 64 0 = some (0, 1) := by kernel_rfl
theorem places64_1 : E.P.places 64 1 = some (1, 1) := by kernel_rfl
theorem places64_2 : E.P.places 64 2 = some (2, 1) := by kernel_rfl
theorem places64_3 : E.P.places 64 3 = some (3, 1) := by kernel_rfl
theorem places64_4 : E.P.places 64 4 = some (4, 1) := by kernel_rfl
theorem places64_5 : E.P.places 64 5 = some (5, 1) := by kernel_rfl
theorem places64_6 : E.P.places 64 6 = some (6, 1) := by kernel_rfl
theorem places64_7 : E.P.places 64 7 = some (7, 1) := by kernel_rfl
theorem places64_8 : E.P.places 64 8 = some (8, 1) := by kernel_rfl
theorem places64_9 : E.P.places 64 9 = some (9, 1) := by kernel_rfl
theorem places64_10 : E.P.places 64 10 = some (10, 1) := by kernel_rfl
theorem szO65 : E.P.szO 65 = some 1 := by kernel_rfl
theorem rowO65 : E.P.rowO 65 = some false := by kernel_rfl
theorem zeroL65 : E.P.zeroL 65 = some [AVal.sc (Value.pointer none)] := by kernel_rfl
theorem isStr65 : E.P.isStr 65 = false := by kernel_rfl
theorem isInt65 : E.P.isInt 65 = false := by kernel_rfl
theorem und65 : (E.P.underlying 65).isSome = true := by kernel_rfl
theorem guard65 : E.P.eqGuardType E.P.depth 65 = false := by kernel_rfl
theorem goFn2 : E.P.goFn 2 = true := by kernel_rfl
theorem parM2 : M.par 2 = [] := by kernel_rfl
theorem resM2 : M.res 2 = [] := by kernel_rfl
theorem parK2 : E.P.parK 2 = [] := by kernel_rfl
theorem resK2 : E.P.resK 2 = [] := by kernel_rfl
theorem goFn3 : E.P.goFn 3 = true := by kernel_rfl
theorem parM3 : M.par 3 = [] := by kernel_rfl
theorem resM3 : M.res 3 = [] := by kernel_rfl
theorem parK3 : E.P.parK 3 = [[5], [0], [0], [0]] := by kernel_rfl
theorem resK3 : E.P.resK 3 = [[0]] := by kernel_rfl
theorem goFn4 : E.P.goFn 4 = true := by kernel_rfl
theorem parM4 : M.par 4 = [] := by kernel_rfl
theorem resM4 : M.res 4 = [] := by kernel_rfl
theorem parK4 : E.P.parK 4 = [[5], [0], [0], [0], [5]] := by kernel_rfl
theorem resK4 : E.P.resK 4 = [[0]] := by kernel_rfl
theorem goFn5 : E.P.goFn 5 = true := by kernel_rfl
theorem parM5 : M.par 5 = [] := by kernel_rfl
theorem resM5 : M.res 5 = [] := by kernel_rfl
theorem parK5 : E.P.parK 5 = [[5], [5]] := by kernel_rfl
theorem resK5 : E.P.resK 5 = [[0]] := by kernel_rfl
theorem goFn6 : E.P.goFn 6 = true := by kernel_rfl
theorem parM6 : M.par 6 = [] := by kernel_rfl
theorem resM6 : M.res 6 = [] := by kernel_rfl
theorem parK6 : E.P.parK 6 = [[5]] := by kernel_rfl
theorem resK6 : E.P.resK 6 = [[0]] := by kernel_rfl
theorem goFn7 : E.P.goFn 7 = true := by kernel_rfl
theorem parM7 : M.par 7 = [] := by kernel_rfl
theorem resM7 : M.res 7 = [] := by kernel_rfl
theorem parK7 : E.P.parK 7 = [] := by kernel_rfl
theorem resK7 : E.P.resK 7 = [[0]] := by kernel_rfl
theorem goFn8 : E.P.goFn 8 = true := by kernel_rfl
theorem parM8 : M.par 8 = [] := by kernel_rfl
theorem resM8 : M.res 8 = [] := by kernel_rfl
theorem parK8 : E.P.parK 8 = [[5], [0], [0], [0]] := by kernel_rfl
theorem resK8 : E.P.resK 8 = [[5], [0, 0, 0, 0], [0]] := by kernel_rfl
theorem goFn9 : E.P.goFn 9 = true := by kernel_rfl
theorem parM9 : M.par 9 = [] := by kernel_rfl
theorem resM9 : M.res 9 = [] := by kernel_rfl
theorem parK9 : E.P.parK 9 = [[5], [0], [0], [0]] := by kernel_rfl
theorem resK9 : E.P.resK 9 = [[5], [0, 0, 0, 0], [0]] := by kernel_rfl
theorem goFn10 : E.P.goFn 10 = true := by kernel_rfl
theorem parM10 : M.par 10 = [] := by kernel_rfl
theorem resM10 : M.res 10 = [] := by kernel_rfl
theorem parK10 : E.P.parK 10 = [[5], [0]] := by kernel_rfl
theorem resK10 : E.P.resK 10 = [[0, 0, 0, 0], [0]] := by kernel_rfl
theorem goFn11 : E.P.goFn 11 = true := by kernel_rfl
theorem parM11 : M.par 11 = [] := by kernel_rfl
theorem resM11 : M.res 11 = [] := by kernel_rfl
theorem parK11 : E.P.parK 11 = [[5], [0]] := by kernel_rfl
theorem resK11 : E.P.resK 11 = [[0, 0, 0, 0], [0]] := by kernel_rfl
theorem goFn12 : E.P.goFn 12 = true := by kernel_rfl
theorem parM12 : M.par 12 = [] := by kernel_rfl
theorem resM12 : M.res 12 = [] := by kernel_rfl
theorem parK12 : E.P.parK 12 = [[5], [5]] := by kernel_rfl
theorem resK12 : E.P.resK 12 = [[0]] := by kernel_rfl
theorem goFn13 : E.P.goFn 13 = true := by kernel_rfl
theorem parM13 : M.par 13 = [] := by kernel_rfl
theorem resM13 : M.res 13 = [] := by kernel_rfl
theorem parK13 : E.P.parK 13 = [[5], [0]] := by kernel_rfl
theorem resK13 : E.P.resK 13 = [[0]] := by kernel_rfl
theorem goFn14 : E.P.goFn 14 = true := by kernel_rfl
theorem parM14 : M.par 14 = [] := by kernel_rfl
theorem resM14 : M.res 14 = [] := by kernel_rfl
theorem parK14 : E.P.parK 14 = [[5], [0]] := by kernel_rfl
theorem resK14 : E.P.resK 14 = [[0]] := by kernel_rfl
theorem goFn15 : E.P.goFn 15 = true := by kernel_rfl
theorem parM15 : M.par 15 = [] := by kernel_rfl
theorem resM15 : M.res 15 = [] := by kernel_rfl
theorem parK15 : E.P.parK 15 = [[5]] := by kernel_rfl
theorem resK15 : E.P.resK 15 = [[0]] := by kernel_rfl
theorem goFn16 : E.P.goFn 16 = true := by kernel_rfl
theorem parM16 : M.par 16 = [] := by kernel_rfl
theorem resM16 : M.res 16 = [] := by kernel_rfl
theorem parK16 : E.P.parK 16 = [[5]] := by kernel_rfl
theorem resK16 : E.P.resK 16 = [[0]] := by kernel_rfl
theorem goFn17 : E.P.goFn 17 = true := by kernel_rfl
theorem parM17 : M.par 17 = [] := by kernel_rfl
theorem resM17 : M.res 17 = [] := by kernel_rfl
theorem parK17 : E.P.parK 17 = [[5], [5]] := by kernel_rfl
theorem resK17 : E.P.resK 17 = [[5], [0]] := by kernel_rfl
theorem goFn18 : E.P.goFn 18 = true := by kernel_rfl
theorem parM18 : M.par 18 = [] := by kernel_rfl
theorem resM18 : M.res 18 = [] := by kernel_rfl
theorem parK18 : E.P.parK 18 = [[0]] := by kernel_rfl
theorem resK18 : E.P.resK 18 = [[0]] := by kernel_rfl
theorem goFn19 : E.P.goFn 19 = true := by kernel_rfl
theorem parM19 : M.par 19 = [] := by kernel_rfl
theorem resM19 : M.res 19 = [] := by kernel_rfl
theorem parK19 : E.P.parK 19 = [[0, 0, 0, 0]] := by kernel_rfl
theorem resK19 : E.P.resK 19 = [[0]] := by kernel_rfl
theorem goFn20 : E.P.goFn 20 = true := by kernel_rfl
theorem parM20 : M.par 20 = [] := by kernel_rfl
theorem resM20 : M.res 20 = [] := by kernel_rfl
theorem parK20 : E.P.parK 20 = [[0]] := by kernel_rfl
theorem resK20 : E.P.resK 20 = [[0]] := by kernel_rfl
theorem goFn21 : E.P.goFn 21 = true := by kernel_rfl
theorem parM21 : M.par 21 = [] := by kernel_rfl
theorem resM21 : M.res 21 = [] := by kernel_rfl
theorem parK21 : E.P.parK 21 = [[5]] := by kernel_rfl
theorem resK21 : E.P.resK 21 = [[5]] := by kernel_rfl
theorem goFn22 : E.P.goFn 22 = true := by kernel_rfl
theorem parM22 : M.par 22 = [] := by kernel_rfl
theorem resM22 : M.res 22 = [] := by kernel_rfl
theorem parK22 : E.P.parK 22 = [[5], [0, 0, 0, 0]] := by kernel_rfl
theorem resK22 : E.P.resK 22 = [[5]] := by kernel_rfl
theorem goFn23 : E.P.goFn 23 = true := by kernel_rfl
theorem parM23 : M.par 23 = [] := by kernel_rfl
theorem resM23 : M.res 23 = [] := by kernel_rfl
theorem parK23 : E.P.parK 23 = [[0]] := by kernel_rfl
theorem resK23 : E.P.resK 23 = [[0]] := by kernel_rfl
theorem goFn24 : E.P.goFn 24 = true := by kernel_rfl
theorem parM24 : M.par 24 = [] := by kernel_rfl
theorem resM24 : M.res 24 = [] := by kernel_rfl
theorem parK24 : E.P.parK 24 = [[5], [0, 0, 0, 0]] := by kernel_rfl
theorem resK24 : E.P.resK 24 = [[5]] := by kernel_rfl
theorem goFn25 : E.P.goFn 25 = true := by kernel_rfl
theorem parM25 : M.par 25 = [] := by kernel_rfl
theorem resM25 : M.res 25 = [] := by kernel_rfl
theorem parK25 : E.P.parK 25 = [[5], [0]] := by kernel_rfl
theorem resK25 : E.P.resK 25 = [[0]] := by kernel_rfl
theorem goFn26 : E.P.goFn 26 = true := by kernel_rfl
theorem parM26 : M.par 26 = [] := by kernel_rfl
theorem resM26 : M.res 26 = [] := by kernel_rfl
theorem parK26 : E.P.parK 26 = [[0, 0, 0, 0]] := by kernel_rfl
theorem resK26 : E.P.resK 26 = [[0]] := by kernel_rfl
theorem goFn27 : E.P.goFn 27 = true := by kernel_rfl
theorem parM27 : M.par 27 = [] := by kernel_rfl
theorem resM27 : M.res 27 = [] := by kernel_rfl
theorem parK27 : E.P.parK 27 = [[0, 0, 0, 0]] := by kernel_rfl
theorem resK27 : E.P.resK 27 = [[0]] := by kernel_rfl
theorem goFn28 : E.P.goFn 28 = true := by kernel_rfl
theorem parM28 : M.par 28 = [] := by kernel_rfl
theorem resM28 : M.res 28 = [] := by kernel_rfl
theorem parK28 : E.P.parK 28 = [[0], [0]] := by kernel_rfl
theorem resK28 : E.P.resK 28 = [[0]] := by kernel_rfl
theorem goFn29 : E.P.goFn 29 = true := by kernel_rfl
theorem parM29 : M.par 29 = [] := by kernel_rfl
theorem resM29 : M.res 29 = [] := by kernel_rfl
theorem parK29 : E.P.parK 29 = [[5]] := by kernel_rfl
theorem resK29 : E.P.resK 29 = [[5]] := by kernel_rfl
theorem goFn30 : E.P.goFn 30 = true := by kernel_rfl
theorem parM30 : M.par 30 = [1] := by kernel_rfl
theorem resM30 : M.res 30 = [] := by kernel_rfl
theorem parK30 : E.P.parK 30 = [[5], [0], [5]] := by kernel_rfl
theorem resK30 : E.P.resK 30 = [[5]] := by kernel_rfl
theorem goFn32 : E.P.goFn 32 = true := by kernel_rfl
theorem parM32 : M.par 32 = [] := by kernel_rfl
theorem resM32 : M.res 32 = [] := by kernel_rfl
theorem parK32 : E.P.parK 32 = [[5], [0]] := by kernel_rfl
theorem resK32 : E.P.resK 32 = [] := by kernel_rfl
theorem goFn33 : E.P.goFn 33 = true := by kernel_rfl
theorem parM33 : M.par 33 = [] := by kernel_rfl
theorem resM33 : M.res 33 = [] := by kernel_rfl
theorem parK33 : E.P.parK 33 = [[5], [0]] := by kernel_rfl
theorem resK33 : E.P.resK 33 = [] := by kernel_rfl
theorem goFn34 : E.P.goFn 34 = true := by kernel_rfl
theorem parM34 : M.par 34 = [] := by kernel_rfl
theorem resM34 : M.res 34 = [] := by kernel_rfl
theorem parK34 : E.P.parK 34 = [[5]] := by kernel_rfl
theorem resK34 : E.P.resK 34 = [] := by kernel_rfl
theorem locM2 : M.loc 2 = 1 := by kernel_rfl
theorem locM3 : M.loc 3 = 10384593717069655257060990509907968 := by kernel_rfl
theorem locM4 : M.loc 4 = 8769008473744985566938285821921232496123185364992 := by kernel_rfl
theorem locM5 : M.loc 5 = 243388914955755654729421008011264 := by kernel_rfl
theorem locM6 : M.loc 6 = 268434352 := by kernel_rfl
theorem locM7 : M.loc 7 = 1180591620717411301568 := by kernel_rfl
theorem locM8 : M.loc 8 = 72634050390035251200 := by kernel_rfl
theorem locM9 : M.loc 9 = 2269741575705706496 := by kernel_rfl
theorem locM10 : M.loc 10 = 128896 := by kernel_rfl
theorem locM11 : M.loc 11 = 33028992 := by kernel_rfl
theorem locM12 : M.loc 12 = 33536960 := by kernel_rfl
theorem locM13 : M.loc 13 = 224 := by kernel_rfl
theorem locM14 : M.loc 14 = 785856 := by kernel_rfl
theorem locM15 : M.loc 15 = 16642997760 := by kernel_rfl
theorem locM16 : M.loc 16 = 257698037616 := by kernel_rfl
theorem locM17 : M.loc 17 = 9002800134238208 := by kernel_rfl
theorem locM18 : M.loc 18 = 133955344 := by kernel_rfl
theorem locM19 : M.loc 19 = 4194296 := by kernel_rfl
theorem locM20 : M.loc 20 = 56 := by kernel_rfl
theorem locM21 : M.loc 21 = 24 := by kernel_rfl
theorem locM22 : M.loc 22 = 70093865746176 := by kernel_rfl
theorem locM23 : M.loc 23 = 134182896 := by kernel_rfl
theorem locM24 : M.loc 24 = 4503565267623680 := by kernel_rfl
theorem locM25 : M.loc 25 = 457792 := by kernel_rfl
theorem locM26 : M.loc 26 = 240 := by kernel_rfl
theorem locM27 : M.loc 27 = 2097144 := by kernel_rfl
theorem locM28 : M.loc 28 = 137422143424 := by kernel_rfl
theorem locM29 : M.loc 29 = 232 := by kernel_rfl
theorem locM30 : M.loc 30 = 39614080961984263615267404800 := by kernel_rfl
theorem locM32 : M.loc 32 = 1008 := by kernel_rfl
theorem locM33 : M.loc 33 = 16368 := by kernel_rfl
theorem locM34 : M.loc 34 = 268434928 := by kernel_rfl
attribute [go_sem] szO0 rowO0 zeroL0 isStr0 isInt0 und0 guard0 szO1 rowO1 zeroL1 isStr1 isInt1 und1 guard1 szO2 rowO2 zeroL2 isStr2 isInt2 kindO2 und2 guard2 szO3 rowO3 zeroL3 isStr3 isInt3 kindO3 und3 guard3 szO4 rowO4 zeroL4 isStr4 isInt4 boolT4 und4 guard4 szO5 rowO5 zeroL5 isStr5 isInt5 kindO5 und5 guard5 szO6 rowO6 zeroL6 isStr6 isInt6 kindO6 und6 guard6 szO7 rowO7 zeroL7 isStr7 isInt7 isComp7 und7 guard7 fldO7_0 fldO7_1 fldO7_2 fldO7_3 places7_0 places7_1 places7_2 places7_3 szO8 rowO8 zeroL8 isStr8 isInt8 isComp8 und8 guard8 fldO8_0 fldO8_1 fldO8_2 fldO8_3 places8_0 places8_1 places8_2 places8_3 szO9 rowO9 zeroL9 isStr9 isInt9 und9 guard9 szO10 rowO10 zeroL10 isStr10 isInt10 und10 guard10 szO11 rowO11 zeroL11 isStr11 isInt11 und11 guard11 szO12 rowO12 zeroL12 isStr12 isInt12 kindO12 und12 guard12 szO13 rowO13 zeroL13 isStr13 isInt13 isComp13 und13 guard13 fldO13_0 fldO13_1 places13_0 places13_1 szO14 rowO14 zeroL14 isStr14 isInt14 isComp14 und14 guard14 fldO14_0 fldO14_1 places14_0 places14_1 szO15 rowO15 zeroL15 isStr15 isInt15 ptrT15 und15 guard15 szO16 rowO16 zeroL16 isStr16 isInt16 ptrT16 und16 guard16 szO17 rowO17 zeroL17 isStr17 isInt17 ptrT17 und17 guard17 szO18 rowO18 zeroL18 isStr18 isInt18 isComp18 und18 guard18 fldO18_0 places18_0 szO19 rowO19 zeroL19 isStr19 isInt19 isComp19 und19 guard19 fldO19_0 places19_0 szO20 rowO20 zeroL20 isStr20 isInt20 und20 guard20 szO21 rowO21 zeroL21 isStr21 isInt21 kindO21 und21 guard21 szO22 rowO22 zeroL22 elemO22 elemBytes22 elemZero22 isStr22 isInt22 und22 guard22 szO23 rowO23 zeroL23 isStr23 isInt23 und23 guard23 szO24 rowO24 zeroL24 isStr24 isInt24 und24 guard24 szO25 rowO25 zeroL25 isStr25 isInt25 isComp25 und25 guard25 fldO25_0 fldO25_1 fldO25_2 fldO25_3 places25_0 places25_1 places25_2 places25_3 szO26 rowO26 zeroL26 isStr26 isInt26 isComp26 und26 guard26 fldO26_0 fldO26_1 fldO26_2 fldO26_3 places26_0 places26_1 places26_2 places26_3 szO27 rowO27 zeroL27 isStr27 isInt27 kindO27 und27 guard27 szO28 rowO28 zeroL28 isStr28 isInt28 und28 guard28 szO29 rowO29 zeroL29 isStr29 isInt29 und29 guard29 szO30 rowO30 zeroL30 isStr30 isInt30 und30 guard30 szO31 rowO31 zeroL31 isStr31 isInt31 und31 guard31 szO32 rowO32 zeroL32 isStr32 isInt32 und32 guard32 szO33 rowO33 zeroL33 isStr33 isInt33 und33 guard33 szO34 rowO34 zeroL34 isStr34 isInt34 und34 guard34 szO35 rowO35 zeroL35 isStr35 isInt35 und35 guard35 szO36 rowO36 zeroL36 isStr36 isInt36 und36 guard36 szO37 rowO37 zeroL37 isStr37 isInt37 und37 guard37 szO38 rowO38 zeroL38 isStr38 isInt38 und38 guard38 szO39 rowO39 zeroL39 isStr39 isInt39 und39 guard39 szO40 rowO40 zeroL40 isStr40 isInt40 und40 guard40 szO41 rowO41 zeroL41 isStr41 isInt41 und41 guard41 szO42 rowO42 zeroL42 isStr42 isInt42 und42 guard42 szO43 rowO43 zeroL43 isStr43 isInt43 und43 guard43 szO44 rowO44 zeroL44 isStr44 isInt44 und44 guard44 szO45 rowO45 zeroL45 isStr45 isInt45 und45 guard45 szO46 rowO46 zeroL46 isStr46 isInt46 und46 guard46 szO47 rowO47 zeroL47 isStr47 isInt47 und47 guard47 szO48 rowO48 zeroL48 isStr48 isInt48 und48 guard48 szO49 rowO49 zeroL49 isStr49 isInt49 und49 guard49 szO50 rowO50 zeroL50 isStr50 isInt50 isComp50 und50 guard50 fldO50_0 fldO50_1 fldO50_2 fldO50_3 places50_0 places50_1 places50_2 places50_3 szO51 rowO51 zeroL51 isStr51 isInt51 isComp51 und51 guard51 fldO51_0 fldO51_1 fldO51_2 fldO51_3 places51_0 places51_1 places51_2 places51_3 szO52 rowO52 zeroL52 isStr52 isInt52 isComp52 arrO52 und52 guard52 places52_0 places52_1 places52_2 places52_3 places52_4 places52_5 places52_6 places52_7 places52_8 places52_9 places52_10 places52_11 places52_12 places52_13 places52_14 places52_15 places52_16 places52_17 places52_18 places52_19 places52_20 places52_21 places52_22 places52_23 places52_24 places52_25 places52_26 places52_27 places52_28 places52_29 places52_30 places52_31 places52_32 places52_33 places52_34 places52_35 places52_36 places52_37 places52_38 places52_39 places52_40 places52_41 places52_42 places52_43 places52_44 places52_45 places52_46 places52_47 places52_48 places52_49 places52_50 places52_51 places52_52 places52_53 places52_54 places52_55 places52_56 places52_57 places52_58 places52_59 places52_60 places52_61 places52_62 places52_63 places52_64 places52_65 places52_66 places52_67 places52_68 places52_69 szO53 rowO53 zeroL53 isStr53 isInt53 isComp53 und53 guard53 places53_0 szO54 rowO54 zeroL54 isStr54 isInt54 isComp54 und54 guard54 places54_0 szO55 rowO55 zeroL55 isStr55 isInt55 und55 guard55 szO56 rowO56 zeroL56 isStr56 isInt56 kindO56 und56 guard56 szO57 rowO57 zeroL57 isStr57 isInt57 kindO57 und57 guard57 szO58 rowO58 zeroL58 isStr58 isInt58 kindO58 und58 guard58 szO59 rowO59 zeroL59 isStr59 isInt59 und59 guard59 szO60 rowO60 zeroL60 isStr60 isInt60 ptrT60 und60 guard60 szO61 rowO61 zeroL61 isStr61 isInt61 kindO61 und61 guard61 szO62 rowO62 zeroL62 isStr62 isInt62 kindO62 und62 guard62 szO63 rowO63 zeroL63 isStr63 isInt63 isComp63 und63 guard63 fldO63_0 fldO63_1 fldO63_2 fldO63_3 fldO63_4 fldO63_5 fldO63_6 fldO63_7 fldO63_8 fldO63_9 fldO63_10 places63_0 places63_1 places63_2 places63_3 places63_4 places63_5 places63_6 places63_7 places63_8 places63_9 places63_10 szO64 rowO64 zeroL64 isStr64 isInt64 isComp64 und64 guard64 fldO64_0 fldO64_1 fldO64_2 fldO64_3 fldO64_4 fldO64_5 fldO64_6 fldO64_7 fldO64_8 fldO64_9 fldO64_10 places64_0 places64_1 places64_2 places64_3 places64_4 places64_5 places64_6 places64_7 places64_8 places64_9 places64_10 szO65 rowO65 zeroL65 isStr65 isInt65 und65 guard65 goFn2 parM2 resM2 parK2 resK2 goFn3 parM3 resM3 parK3 resK3 goFn4 parM4 resM4 parK4 resK4 goFn5 parM5 resM5 parK5 resK5 goFn6 parM6 resM6 parK6 resK6 goFn7 parM7 resM7 parK7 resK7 goFn8 parM8 resM8 parK8 resK8 goFn9 parM9 resM9 parK9 resK9 goFn10 parM10 resM10 parK10 resK10 goFn11 parM11 resM11 parK11 resK11 goFn12 parM12 resM12 parK12 resK12 goFn13 parM13 resM13 parK13 resK13 goFn14 parM14 resM14 parK14 resK14 goFn15 parM15 resM15 parK15 resK15 goFn16 parM16 resM16 parK16 resK16 goFn17 parM17 resM17 parK17 resK17 goFn18 parM18 resM18 parK18 resK18 goFn19 parM19 resM19 parK19 resK19 goFn20 parM20 resM20 parK20 resK20 goFn21 parM21 resM21 parK21 resK21 goFn22 parM22 resM22 parK22 resK22 goFn23 parM23 resM23 parK23 resK23 goFn24 parM24 resM24 parK24 resK24 goFn25 parM25 resM25 parK25 resK25 goFn26 parM26 resM26 parK26 resK26 goFn27 parM27 resM27 parK27 resK27 goFn28 parM28 resM28 parK28 resK28 goFn29 parM29 resM29 parK29 resK29 goFn30 parM30 resM30 parK30 resK30 goFn32 parM32 resM32 parK32 resK32 goFn33 parM33 resM33 parK33 resK33 goFn34 parM34 resM34 parK34 resK34 locM2 locM3 locM4 locM5 locM6 locM7 locM8 locM9 locM10 locM11 locM12 locM13 locM14 locM15 locM16 locM17 locM18 locM19 locM20 locM21 locM22 locM23 locM24 locM25 locM26 locM27 locM28 locM29 locM30 locM32 locM33 locM34
end Go.Proofs.Ytpdaanlppimbcaa
