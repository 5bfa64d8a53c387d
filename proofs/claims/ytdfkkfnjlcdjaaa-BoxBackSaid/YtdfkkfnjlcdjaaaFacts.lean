import Derived.Test.YtdfkkfnjlcdjaaaProg
import Derived.Test.YtdfkkfnjlcdjaaaDn7
namespace Go.Proofs.Ytdfkkfnjlcdjaaa
open Go.Am
set_option maxRecDepth 100000
def parM : FuncId → List Nat
  | 18 => [1]
  | 21 => [1]
  | 23 => [1]
  | _ => []
def resM : FuncId → List Nat
  | 18 => [1]
  | 19 => [1]
  | 21 => [1]
  | 23 => [1]
  | 29 => [1]
  | 45 => [1]
  | 7 => [1]
  | 40 => [1]
  | 27 => [1]
  | 15 => [1]
  | 11 => [1]
  | 14 => [1]
  | 55 => [1]
  | _ => []
def locM : FuncId → Nat
  | 2 => 1
  | 3 => 4722366482865350213632
  | 4 => 2305843008139943936
  | 5 => 1266412660041370068631857659904
  | 6 => 288230376151711552
  | 7 => 35184338460672
  | 8 => 549486850048
  | 9 => 56
  | 10 => 56
  | 11 => 4575657221407870976
  | 12 => 34909491820544
  | 13 => 8160
  | 14 => 37778923979457716224000
  | 15 => 2251799813678080
  | 16 => 36893487579407564800
  | 17 => 8796093015040
  | 18 => 4294729472
  | 19 => 70351560080384
  | 20 => 2092544
  | 21 => 1976
  | 22 => 4193792
  | 23 => 1048320
  | 24 => 8160
  | 25 => 274777236480
  | 26 => 2251799813659776
  | 27 => 140737487825920
  | 28 => 713623841036067957389479453910188168019181568
  | 29 => 31728
  | 30 => 262048
  | 31 => 39614080076540407333248663552
  | 32 => 65504
  | 33 => 33554424
  | 34 => 274877120384
  | 35 => 35167192211456
  | 36 => 8795958615904
  | 37 => 2198989686784
  | 38 => 4398046510976
  | 39 => 524032
  | 40 => 68719469312
  | 41 => 8796025905920
  | 42 => 520176
  | 43 => 33554424
  | 44 => 281474974531584
  | 45 => 16772992
  | 46 => 73786976294838206384
  | 47 => 2243003720592384
  | 48 => 17163091952
  | 49 => 56
  | 50 => 8589704960
  | 51 => 274877904896
  | 52 => 1008
  | 53 => 268434672
  | 54 => 8160
  | 55 => 17179336640
  | 56 => 73786971827803782528
  | 57 => 130048
  | 58 => 17592186040320
  | 59 => 131008
  | _ => 0
noncomputable def E : Env := ⟨Try.prog, fun _ => none⟩
noncomputable def M : Mds := ⟨parM, resM, locM⟩
noncomputable def C0 : Cf := ⟨E, M, fun _ => none⟩
@[go_sem] theorem C0_E : C0.E = E := rfl
@[go_sem] theorem C0_M : C0.M = M := rfl
theorem mixed : E.P.follows .mixedOrders = true := by kernel_rfl
theorem szO0 : E.P.szO 0 = some 1 := by kernel_rfl
theorem rowO0 : E.P.rowO 0 = some false := by kernel_rfl
theorem zeroL0 : E.P.zeroL 0 = some [AVal.sc (Value.tuple { toList := [] })] := by kernel_rfl
theorem isStr0 : E.P.isStr 0 = false := by kernel_rfl
theorem isInt0 : E.P.isInt 0 = false := by kernel_rfl
theorem und0 : (E.P.underlying 0).isSome = true := by kernel_rfl
theorem guard0 : E.P.eqGuardType E.P.depth 0 = false := by kernel_rfl
theorem szO1 : E.P.szO 1 = some 1 := by kernel_rfl
theorem rowO1 : E.P.rowO 1 = some false := by kernel_rfl
theorem zeroL1 : E.P.zeroL 1 = some [AVal.sc Value.nilFunc] := by kernel_rfl
theorem isStr1 : E.P.isStr 1 = false := by kernel_rfl
theorem isInt1 : E.P.isInt 1 = false := by kernel_rfl
theorem und1 : (E.P.underlying 1).isSome = true := by kernel_rfl
theorem guard1 : E.P.eqGuardType E.P.depth 1 = false := by kernel_rfl
theorem szO2 : E.P.szO 2 = some 1 := by kernel_rfl
theorem rowO2 : E.P.rowO 2 = some false := by kernel_rfl
theorem zeroL2 : E.P.zeroL 2 = some [AVal.int IntKind.i64 (0)] := by kernel_rfl
theorem isStr2 : E.P.isStr 2 = false := by kernel_rfl
theorem isInt2 : E.P.isInt 2 = true := by kernel_rfl
theorem kindO2 : kindO E.P 2 = some IntKind.i64 := by kernel_rfl
theorem und2 : (E.P.underlying 2).isSome = true := by kernel_rfl
theorem guard2 : E.P.eqGuardType E.P.depth 2 = false := by kernel_rfl
theorem szO3 : E.P.szO 3 = some 1 := by kernel_rfl
theorem rowO3 : E.P.rowO 3 = some false := by kernel_rfl
theorem zeroL3 : E.P.zeroL 3 = some [AVal.int IntKind.i64 (0)] := by kernel_rfl
theorem isStr3 : E.P.isStr 3 = false := by kernel_rfl
theorem isInt3 : E.P.isInt 3 = true := by kernel_rfl
theorem kindO3 : kindO E.P 3 = some IntKind.i64 := by kernel_rfl
theorem und3 : (E.P.underlying 3).isSome = true := by kernel_rfl
theorem guard3 : E.P.eqGuardType E.P.depth 3 = false := by kernel_rfl
theorem szO4 : E.P.szO 4 = some 1 := by kernel_rfl
theorem rowO4 : E.P.rowO 4 = some false := by kernel_rfl
theorem zeroL4 : E.P.zeroL 4 = some [AVal.bool false] := by kernel_rfl
theorem isStr4 : E.P.isStr 4 = false := by kernel_rfl
theorem isInt4 : E.P.isInt 4 = false := by kernel_rfl
theorem boolT4 : boolT E.P 4 = true := by kernel_rfl
theorem und4 : (E.P.underlying 4).isSome = true := by kernel_rfl
theorem guard4 : E.P.eqGuardType E.P.depth 4 = false := by kernel_rfl
theorem szO5 : E.P.szO 5 = some 1 := by kernel_rfl
theorem rowO5 : E.P.rowO 5 = some false := by kernel_rfl
theorem zeroL5 : E.P.zeroL 5 = some [AVal.int IntKind.u8 (0)] := by kernel_rfl
theorem isStr5 : E.P.isStr 5 = false := by kernel_rfl
theorem isInt5 : E.P.isInt 5 = true := by kernel_rfl
theorem kindO5 : kindO E.P 5 = some IntKind.u8 := by kernel_rfl
theorem und5 : (E.P.underlying 5).isSome = true := by kernel_rfl
theorem guard5 : E.P.eqGuardType E.P.depth 5 = false := by kernel_rfl
theorem szO6 : E.P.szO 6 = some 1 := by kernel_rfl
theorem rowO6 : E.P.rowO 6 = some false := by kernel_rfl
theorem zeroL6 : E.P.zeroL 6 = some [AVal.int IntKind.u8 (0)] := by kernel_rfl
theorem isStr6 : E.P.isStr 6 = false := by kernel_rfl
theorem isInt6 : E.P.isInt 6 = true := by kernel_rfl
theorem kindO6 : kindO E.P 6 = some IntKind.u8 := by kernel_rfl
theorem und6 : (E.P.underlying 6).isSome = true := by kernel_rfl
theorem guard6 : E.P.eqGuardType E.P.depth 6 = false := by kernel_rfl
theorem szO7 : E.P.szO 7 = some 4 := by kernel_rfl
theorem rowO7 : E.P.rowO 7 = some true := by kernel_rfl
theorem zeroL7 : E.P.zeroL 7 = some [AVal.int IntKind.i64 (0), AVal.int IntKind.i64 (0), AVal.bool false, AVal.int IntKind.u8 (0)] := by kernel_rfl
theorem isStr7 : E.P.isStr 7 = false := by kernel_rfl
theorem isInt7 : E.P.isInt 7 = false := by kernel_rfl
theorem isComp7 : E.P.isComp 7 = true := by kernel_rfl
theorem und7 : (E.P.underlying 7).isSome = true := by kernel_rfl
theorem guard7 : E.P.eqGuardType E.P.depth 7 = false := by kernel_rfl
theorem fldO7_0 : E.P.fldO 7 0 = some (0, 1, false) := by kernel_rfl
theorem fldO7_1 : E.P.fldO 7 1 = some (1, 1, false) := by kernel_rfl
theorem fldO7_2 : E.P.fldO 7 2 = some (2, 1, false) := by kernel_rfl
theorem fldO7_3 : E.P.fldO 7 3 = some (3, 1, false) := by kernel_rfl
theorem places7_0 : E.P.places 7 0 = some (0, 1) := by kernel_rfl
theorem places7_1 : E.P.places 7 1 = some (1, 1) := by kernel_rfl
theorem places7_2 : E.P.places 7 2 = some (2, 1) := by kernel_rfl
theorem places7_3 : E.P.places 7 3 = some (3, 1) := by kernel_rfl
theorem szO8 : E.P.szO 8 = some 4 := by kernel_rfl
theorem rowO8 : E.P.rowO 8 = some true := by kernel_rfl
theorem zeroL8 : E.P.zeroL 8 = some [AVal.int IntKind.i64 (0), AVal.int IntKind.i64 (0), AVal.bool false, AVal.int IntKind.u8 (0)] := by kernel_rfl
theorem isStr8 : E.P.isStr 8 = false := by kernel_rfl
theorem isInt8 : E.P.isInt 8 = false := by kernel_rfl
theorem isComp8 : E.P.isComp 8 = true := by kernel_rfl
theorem und8 : (E.P.underlying 8).isSome = true := by kernel_rfl
theorem guard8 : E.P.eqGuardType E.P.depth 8 = false := by kernel_rfl
theorem fldO8_0 : E.P.fldO 8 0 = some (0, 1, false) := by kernel_rfl
theorem fldO8_1 : E.P.fldO 8 1 = some (1, 1, false) := by kernel_rfl
theorem fldO8_2 : E.P.fldO 8 2 = some (2, 1, false) := by kernel_rfl
theorem fldO8_3 : E.P.fldO 8 3 = some (3, 1, false) := by kernel_rfl
theorem places8_0 : E.P.places 8 0 = some (0, 1) := by kernel_rfl
theorem places8_1 : E.P.places 8 1 = some (1, 1) := by kernel_rfl
theorem places8_2 : E.P.places 8 2 = some (2, 1) := by kernel_rfl
theorem places8_3 : E.P.places 8 3 = some (3, 1) := by kernel_rfl
theorem szO9 : E.P.szO 9 = some 1 := by kernel_rfl
theorem rowO9 : E.P.rowO 9 = some false := by kernel_rfl
theorem zeroL9 : E.P.zeroL 9 = some [AVal.str []] := by kernel_rfl
theorem isStr9 : E.P.isStr 9 = true := by kernel_rfl
theorem isInt9 : E.P.isInt 9 = false := by kernel_rfl
theorem und9 : (E.P.underlying 9).isSome = true := by kernel_rfl
theorem guard9 : E.P.eqGuardType E.P.depth 9 = false := by kernel_rfl
theorem szO10 : E.P.szO 10 = some 1 := by kernel_rfl
theorem rowO10 : E.P.rowO 10 = some false := by kernel_rfl
theorem zeroL10 : E.P.zeroL 10 = some [AVal.str []] := by kernel_rfl
theorem isStr10 : E.P.isStr 10 = true := by kernel_rfl
theorem isInt10 : E.P.isInt 10 = false := by kernel_rfl
theorem und10 : (E.P.underlying 10).isSome = true := by kernel_rfl
theorem guard10 : E.P.eqGuardType E.P.depth 10 = false := by kernel_rfl
theorem szO11 : E.P.szO 11 = some 1 := by kernel_rfl
theorem rowO11 : E.P.rowO 11 = some false := by kernel_rfl
theorem zeroL11 : E.P.zeroL 11 = some [AVal.str []] := by kernel_rfl
theorem isStr11 : E.P.isStr 11 = true := by kernel_rfl
theorem isInt11 : E.P.isInt 11 = false := by kernel_rfl
theorem und11 : (E.P.underlying 11).isSome = true := by kernel_rfl
theorem guard11 : E.P.eqGuardType E.P.depth 11 = false := by kernel_rfl
theorem szO12 : E.P.szO 12 = some 1 := by kernel_rfl
theorem rowO12 : E.P.rowO 12 = some false := by kernel_rfl
theorem zeroL12 : E.P.zeroL 12 = some [AVal.int IntKind.u64 (0)] := by kernel_rfl
theorem isStr12 : E.P.isStr 12 = false := by kernel_rfl
theorem isInt12 : E.P.isInt 12 = true := by kernel_rfl
theorem kindO12 : kindO E.P 12 = some IntKind.u64 := by kernel_rfl
theorem und12 : (E.P.underlying 12).isSome = true := by kernel_rfl
theorem guard12 : E.P.eqGuardType E.P.depth 12 = false := by kernel_rfl
theorem szO13 : E.P.szO 13 = some 2 := by kernel_rfl
theorem rowO13 : E.P.rowO 13 = some true := by kernel_rfl
theorem zeroL13 : E.P.zeroL 13 = some [AVal.str [], AVal.int IntKind.u64 (0)] := by kernel_rfl
theorem isStr13 : E.P.isStr 13 = false := by kernel_rfl
theorem isInt13 : E.P.isInt 13 = false := by kernel_rfl
theorem isComp13 : E.P.isComp 13 = true := by kernel_rfl
theorem und13 : (E.P.underlying 13).isSome = true := by kernel_rfl
theorem guard13 : E.P.eqGuardType E.P.depth 13 = false := by kernel_rfl
theorem fldO13_0 : E.P.fldO 13 0 = some (0, 1, false) := by kernel_rfl
theorem fldO13_1 : E.P.fldO 13 1 = some (1, 1, false) := by kernel_rfl
theorem places13_0 : E.P.places 13 0 = some (0, 1) := by kernel_rfl
theorem places13_1 : E.P.places 13 1 = some (1, 1) := by kernel_rfl
theorem szO14 : E.P.szO 14 = some 2 := by kernel_rfl
theorem rowO14 : E.P.rowO 14 = some true := by kernel_rfl
theorem zeroL14 : E.P.zeroL 14 = some [AVal.str [], AVal.int IntKind.u64 (0)] := by kernel_rfl
theorem isStr14 : E.P.isStr 14 = false := by kernel_rfl
theorem isInt14 : E.P.isInt 14 = false := by kernel_rfl
theorem isComp14 : E.P.isComp 14 = true := by kernel_rfl
theorem und14 : (E.P.underlying 14).isSome = true := by kernel_rfl
theorem guard14 : E.P.eqGuardType E.P.depth 14 = false := by kernel_rfl
theorem fldO14_0 : E.P.fldO 14 0 = some (0, 1, false) := by kernel_rfl
theorem fldO14_1 : E.P.fldO 14 1 = some (1, 1, false) := by kernel_rfl
theorem places14_0 : E.P.places 14 0 = some (0, 1) := by kernel_rfl
theorem places14_1 : E.P.places 14 1 = some (1, 1) := by kernel_rfl
theorem szO15 : E.P.szO 15 = some 1 := by kernel_rfl
theorem rowO15 : E.P.rowO 15 = some false := by kernel_rfl
theorem zeroL15 : E.P.zeroL 15 = some [AVal.sc (Value.pointer none)] := by kernel_rfl
theorem isStr15 : E.P.isStr 15 = false := by kernel_rfl
theorem isInt15 : E.P.isInt 15 = false := by kernel_rfl
theorem ptrT15 : ptrT E.P 15 = true := by kernel_rfl
theorem und15 : (E.P.underlying 15).isSome = true := by kernel_rfl
theorem guard15 : E.P.eqGuardType E.P.depth 15 = false := by kernel_rfl
theorem szO16 : E.P.szO 16 = some 1 := by kernel_rfl
theorem rowO16 : E.P.rowO 16 = some false := by kernel_rfl
theorem zeroL16 : E.P.zeroL 16 = some [AVal.sc (Value.pointer none)] := by kernel_rfl
theorem isStr16 : E.P.isStr 16 = false := by kernel_rfl
theorem isInt16 : E.P.isInt 16 = false := by kernel_rfl
theorem ptrT16 : ptrT E.P 16 = true := by kernel_rfl
theorem und16 : (E.P.underlying 16).isSome = true := by kernel_rfl
theorem guard16 : E.P.eqGuardType E.P.depth 16 = false := by kernel_rfl
theorem szO17 : E.P.szO 17 = some 1 := by kernel_rfl
theorem rowO17 : E.P.rowO 17 = some false := by kernel_rfl
theorem zeroL17 : E.P.zeroL 17 = some [AVal.sc (Value.pointer none)] := by kernel_rfl
theorem isStr17 : E.P.isStr 17 = false := by kernel_rfl
theorem isInt17 : E.P.isInt 17 = false := by kernel_rfl
theorem ptrT17 : ptrT E.P 17 = true := by kernel_rfl
theorem und17 : (E.P.underlying 17).isSome = true := by kernel_rfl
theorem guard17 : E.P.eqGuardType E.P.depth 17 = false := by kernel_rfl
theorem szO18 : E.P.szO 18 = some 1 := by kernel_rfl
theorem rowO18 : E.P.rowO 18 = some true := by kernel_rfl
theorem zeroL18 : E.P.zeroL 18 = some [AVal.sc (Value.pointer none)] := by kernel_rfl
theorem isStr18 : E.P.isStr 18 = false := by kernel_rfl
theorem isInt18 : E.P.isInt 18 = false := by kernel_rfl
theorem isComp18 : E.P.isComp 18 = true := by kernel_rfl
theorem und18 : (E.P.underlying 18).isSome = true := by kernel_rfl
theorem guard18 : E.P.eqGuardType E.P.depth 18 = false := by kernel_rfl
theorem fldO18_0 : E.P.fldO 18 0 = some (0, 1, false) := by kernel_rfl
theorem places18_0 : E.P.places 18 0 = some (0, 1) := by kernel_rfl
theorem szO19 : E.P.szO 19 = some 1 := by kernel_rfl
theorem rowO19 : E.P.rowO 19 = some true := by kernel_rfl
theorem zeroL19 : E.P.zeroL 19 = some [AVal.sc (Value.pointer none)] := by kernel_rfl
theorem isStr19 : E.P.isStr 19 = false := by kernel_rfl
theorem isInt19 : E.P.isInt 19 = false := by kernel_rfl
theorem isComp19 : E.P.isComp 19 = true := by kernel_rfl
theorem und19 : (E.P.underlying 19).isSome = true := by kernel_rfl
theorem guard19 : E.P.eqGuardType E.P.depth 19 = false := by kernel_rfl
theorem fldO19_0 : E.P.fldO 19 0 = some (0, 1, false) := by kernel_rfl
theorem places19_0 : E.P.places 19 0 = some (0, 1) := by kernel_rfl
theorem szO20 : E.P.szO 20 = some 1 := by kernel_rfl
theorem rowO20 : E.P.rowO 20 = some false := by kernel_rfl
theorem zeroL20 : E.P.zeroL 20 = some [AVal.sc Value.nilIface] := by kernel_rfl
theorem isStr20 : E.P.isStr 20 = false := by kernel_rfl
theorem isInt20 : E.P.isInt 20 = false := by kernel_rfl
theorem und20 : (E.P.underlying 20).isSome = true := by kernel_rfl
theorem guard20 : E.P.eqGuardType E.P.depth 20 = false := by kernel_rfl
theorem szO21 : E.P.szO 21 = some 1 := by kernel_rfl
theorem rowO21 : E.P.rowO 21 = some false := by kernel_rfl
theorem zeroL21 : E.P.zeroL 21 = some [AVal.int IntKind.i32 (0)] := by kernel_rfl
theorem isStr21 : E.P.isStr 21 = false := by kernel_rfl
theorem isInt21 : E.P.isInt 21 = true := by kernel_rfl
theorem kindO21 : kindO E.P 21 = some IntKind.i32 := by kernel_rfl
theorem und21 : (E.P.underlying 21).isSome = true := by kernel_rfl
theorem guard21 : E.P.eqGuardType E.P.depth 21 = false := by kernel_rfl
theorem szO22 : E.P.szO 22 = some 1 := by kernel_rfl
theorem rowO22 : E.P.rowO 22 = some false := by kernel_rfl
theorem zeroL22 : E.P.zeroL 22 = some [AVal.sc (Value.slice none 0 0)] := by kernel_rfl
theorem elemO22 : E.P.elemO 22 = some 1 := by kernel_rfl
theorem elemBytes22 : E.P.elemBytes 22 = some 1 := by kernel_rfl
theorem elemZero22 : E.P.elemZero 22 = some [AVal.int IntKind.u8 (0)] := by kernel_rfl
theorem isStr22 : E.P.isStr 22 = false := by kernel_rfl
theorem isInt22 : E.P.isInt 22 = false := by kernel_rfl
theorem isBytes22 : E.P.isBytes 22 = true := by kernel_rfl
theorem und22 : (E.P.underlying 22).isSome = true := by kernel_rfl
theorem guard22 : E.P.eqGuardType E.P.depth 22 = false := by kernel_rfl
theorem szO23 : E.P.szO 23 = some 1 := by kernel_rfl
theorem rowO23 : E.P.rowO 23 = some false := by kernel_rfl
theorem zeroL23 : E.P.zeroL 23 = some [AVal.int IntKind.u64 (0)] := by kernel_rfl
theorem isStr23 : E.P.isStr 23 = false := by kernel_rfl
theorem isInt23 : E.P.isInt 23 = true := by kernel_rfl
theorem kindO23 : kindO E.P 23 = some IntKind.u64 := by kernel_rfl
theorem und23 : (E.P.underlying 23).isSome = true := by kernel_rfl
theorem guard23 : E.P.eqGuardType E.P.depth 23 = false := by kernel_rfl
theorem szO24 : E.P.szO 24 = some 1 := by kernel_rfl
theorem rowO24 : E.P.rowO 24 = some false := by kernel_rfl
theorem zeroL24 : E.P.zeroL 24 = some [AVal.sc Value.nilFunc] := by kernel_rfl
theorem isStr24 : E.P.isStr 24 = false := by kernel_rfl
theorem isInt24 : E.P.isInt 24 = false := by kernel_rfl
theorem und24 : (E.P.underlying 24).isSome = true := by kernel_rfl
theorem guard24 : E.P.eqGuardType E.P.depth 24 = false := by kernel_rfl
theorem szO25 : E.P.szO 25 = some 1 := by kernel_rfl
theorem rowO25 : E.P.rowO 25 = some false := by kernel_rfl
theorem zeroL25 : E.P.zeroL 25 = some [AVal.int IntKind.i64 (0)] := by kernel_rfl
theorem isStr25 : E.P.isStr 25 = false := by kernel_rfl
theorem isInt25 : E.P.isInt 25 = true := by kernel_rfl
theorem kindO25 : kindO E.P 25 = some IntKind.i64 := by kernel_rfl
theorem und25 : (E.P.underlying 25).isSome = true := by kernel_rfl
theorem guard25 : E.P.eqGuardType E.P.depth 25 = false := by kernel_rfl
theorem szO26 : E.P.szO 26 = some 1 := by kernel_rfl
theorem rowO26 : E.P.rowO 26 = some false := by kernel_rfl
theorem zeroL26 : E.P.zeroL 26 = some [AVal.sc (Value.tuple { toList := [Value.slice none 0 0, Value.int IntKind.i64 (0)] })] := by kernel_rfl
theorem isStr26 : E.P.isStr 26 = false := by kernel_rfl
theorem isInt26 : E.P.isInt 26 = false := by kernel_rfl
theorem und26 : (E.P.underlying 26).isSome = true := by kernel_rfl
theorem guard26 : E.P.eqGuardType E.P.depth 26 = false := by kernel_rfl
theorem szO27 : E.P.szO 27 = some 1 := by kernel_rfl
theorem rowO27 : E.P.rowO 27 = some false := by kernel_rfl
theorem zeroL27 : E.P.zeroL 27 = some [AVal.sc Value.nilFunc] := by kernel_rfl
theorem isStr27 : E.P.isStr 27 = false := by kernel_rfl
theorem isInt27 : E.P.isInt 27 = false := by kernel_rfl
theorem und27 : (E.P.underlying 27).isSome = true := by kernel_rfl
theorem guard27 : E.P.eqGuardType E.P.depth 27 = false := by kernel_rfl
theorem szO28 : E.P.szO 28 = some 1 := by kernel_rfl
theorem rowO28 : E.P.rowO 28 = some false := by kernel_rfl
theorem zeroL28 : E.P.zeroL 28 = some [AVal.sc (Value.tuple { toList := [Value.slice none 0 0, Value.int IntKind.i64 (0)] })] := by kernel_rfl
theorem isStr28 : E.P.isStr 28 = false := by kernel_rfl
theorem isInt28 : E.P.isInt 28 = false := by kernel_rfl
theorem und28 : (E.P.underlying 28).isSome = true := by kernel_rfl
theorem guard28 : E.P.eqGuardType E.P.depth 28 = false := by kernel_rfl
theorem szO29 : E.P.szO 29 = some 1 := by kernel_rfl
theorem rowO29 : E.P.rowO 29 = some false := by kernel_rfl
theorem zeroL29 : E.P.zeroL 29 = some [AVal.sc Value.nilFunc] := by kernel_rfl
theorem isStr29 : E.P.isStr 29 = false := by kernel_rfl
theorem isInt29 : E.P.isInt 29 = false := by kernel_rfl
theorem und29 : (E.P.underlying 29).isSome = true := by kernel_rfl
theorem guard29 : E.P.eqGuardType E.P.depth 29 = false := by kernel_rfl
theorem szO30 : E.P.szO 30 = some 1 := by kernel_rfl
theorem rowO30 : E.P.rowO 30 = some false := by kernel_rfl
theorem zeroL30 : E.P.zeroL 30 = some [AVal.sc Value.nilFunc] := by kernel_rfl
theorem isStr30 : E.P.isStr 30 = false := by kernel_rfl
theorem isInt30 : E.P.isInt 30 = false := by kernel_rfl
theorem und30 : (E.P.underlying 30).isSome = true := by kernel_rfl
theorem guard30 : E.P.eqGuardType E.P.depth 30 = false := by kernel_rfl
theorem szO31 : E.P.szO 31 = some 1 := by kernel_rfl
theorem rowO31 : E.P.rowO 31 = some false := by kernel_rfl
theorem zeroL31 : E.P.zeroL 31 = some [AVal.sc Value.nilFunc] := by kernel_rfl
theorem isStr31 : E.P.isStr 31 = false := by kernel_rfl
theorem isInt31 : E.P.isInt 31 = false := by kernel_rfl
theorem und31 : (E.P.underlying 31).isSome = true := by kernel_rfl
theorem guard31 : E.P.eqGuardType E.P.depth 31 = false := by kernel_rfl
theorem szO32 : E.P.szO 32 = some 1 := by kernel_rfl
theorem rowO32 : E.P.rowO 32 = some false := by kernel_rfl
theorem zeroL32 : E.P.zeroL 32 = some [AVal.sc Value.nilFunc] := by kernel_rfl
theorem isStr32 : E.P.isStr 32 = false := by kernel_rfl
theorem isInt32 : E.P.isInt 32 = false := by kernel_rfl
theorem und32 : (E.P.underlying 32).isSome = true := by kernel_rfl
theorem guard32 : E.P.eqGuardType E.P.depth 32 = false := by kernel_rfl
theorem szO33 : E.P.szO 33 = some 32 := by kernel_rfl
theorem rowO33 : E.P.rowO 33 = some true := by kernel_rfl
theorem zeroL33 : E.P.zeroL 33 = some [AVal.int IntKind.u8 (0), AVal.int IntKind.u8 (0), AVal.int IntKind.u8 (0), AVal.int IntKind.u8 (0), AVal.int IntKind.u8 (0), AVal.int IntKind.u8 (0), AVal.int IntKind.u8 (0), AVal.int IntKind.u8 (0), AVal.int IntKind.u8 (0), AVal.int IntKind.u8 (0), AVal.int IntKind.u8 (0), AVal.int IntKind.u8 (0), AVal.int IntKind.u8 (0), AVal.int IntKind.u8 (0), AVal.int IntKind.u8 (0), AVal.int IntKind.u8 (0), AVal.int IntKind.u8 (0), AVal.int IntKind.u8 (0), AVal.int IntKind.u8 (0), AVal.int IntKind.u8 (0), AVal.int IntKind.u8 (0), AVal.int IntKind.u8 (0), AVal.int IntKind.u8 (0), AVal.int IntKind.u8 (0), AVal.int IntKind.u8 (0), AVal.int IntKind.u8 (0), AVal.int IntKind.u8 (0), AVal.int IntKind.u8 (0), AVal.int IntKind.u8 (0), AVal.int IntKind.u8 (0), AVal.int IntKind.u8 (0), AVal.int IntKind.u8 (0)] := by kernel_rfl
theorem isStr33 : E.P.isStr 33 = false := by kernel_rfl
theorem isInt33 : E.P.isInt 33 = false := by kernel_rfl
theorem isComp33 : E.P.isComp 33 = true := by kernel_rfl
theorem arrO33 : E.P.arrO 33 = some (32, 1, false) := by kernel_rfl
theorem und33 : (E.P.underlying 33).isSome = true := by kernel_rfl
theorem guard33 : E.P.eqGuardType E.P.depth 33 = false := by kernel_rfl
theorem places33_0 : E.P.places 33 0 = some (0, 1) := by kernel_rfl
theorem places33_1 : E.P.places 33 1 = some (1, 1) := by kernel_rfl
theorem places33_2 : E.P.places 33 2 = some (2, 1) := by kernel_rfl
theorem places33_3 : E.P.places 33 3 = some (3, 1) := by kernel_rfl
theorem places33_4 : E.P.places 33 4 = some (4, 1) := by kernel_rfl
theorem places33_5 : E.P.places 33 5 = some (5, 1) := by kernel_rfl
theorem places33_6 : E.P.places 33 6 = some (6, 1) := by kernel_rfl
theorem places33_7 : E.P.places 33 7 = some (7, 1) := by kernel_rfl
theorem places33_8 : E.P.places 33 8 = some (8, 1) := by kernel_rfl
theorem places33_9 : E.P.places 33 9 = some (9, 1) := by kernel_rfl
theorem places33_10 : E.P.places 33 10 = some (10, 1) := by kernel_rfl
theorem places33_11 : E.P.places 33 11 = some (11, 1) := by kernel_rfl
theorem places33_12 : E.P.places 33 12 = some (12, 1) := by kernel_rfl
theorem places33_13 : E.P.places 33 13 = some (13, 1) := by kernel_rfl
theorem places33_14 : E.P.places 33 14 = some (14, 1) := by kernel_rfl
theorem places33_15 : E.P.places 33 15 = some (15, 1) := by kernel_rfl
theorem places33_16 : E.P.places 33 16 = some (16, 1) := by kernel_rfl
theorem places33_17 : E.P.places 33 17 = some (17, 1) := by kernel_rfl
theorem places33_18 : E.P.places 33 18 = some (18, 1) := by kernel_rfl
theorem places33_19 : E.P.places 33 19 = some (19, 1) := by kernel_rfl
theorem places33_20 : E.P.places 33 20 = some (20, 1) := by kernel_rfl
theorem places33_21 : E.P.places 33 21 = some (21, 1) := by kernel_rfl
theorem places33_22 : E.P.places 33 22 = some (22, 1) := by kernel_rfl
theorem places33_23 : E.P.places 33 23 = some (23, 1) := by kernel_rfl
theorem places33_24 : E.P.places 33 24 = some (24, 1) := by kernel_rfl
theorem places33_25 : E.P.places 33 25 = some (25, 1) := by kernel_rfl
theorem places33_26 : E.P.places 33 26 = some (26, 1) := by kernel_rfl
theorem places33_27 : E.P.places 33 27 = some (27, 1) := by kernel_rfl
theorem places33_28 : E.P.places 33 28 = some (28, 1) := by kernel_rfl
theorem places33_29 : E.P.places 33 29 = some (29, 1) := by kernel_rfl
theorem places33_30 : E.P.places 33 30 = some (30, 1) := by kernel_rfl
theorem places33_31 : E.P.places 33 31 = some (31, 1) := by kernel_rfl
theorem places33_32 : E.P.places 33 32 = some (32, 1) := by kernel_rfl
theorem places33_33 : E.P.places 33 33 = some (33, 1) := by kernel_rfl
theorem places33_34 : E.P.places 33 34 = some (34, 1) := by kernel_rfl
theorem places33_35 : E.P.places 33 35 = some (35, 1) := by kernel_rfl
theorem places33_36 : E.P.places 33 36 = some (36, 1) := by kernel_rfl
theorem places33_37 : E.P.places 33 37 = some (37, 1) := by kernel_rfl
theorem places33_38 : E.P.places 33 38 = some (38, 1) := by kernel_rfl
theorem places33_39 : E.P.places 33 39 = some (39, 1) := by kernel_rfl
theorem places33_40 : E.P.places 33 40 = some (40, 1) := by kernel_rfl
theorem places33_41 : E.P.places 33 41 = some (41, 1) := by kernel_rfl
theorem places33_42 : E.P.places 33 42 = some (42, 1) := by kernel_rfl
theorem places33_43 : E.P.places 33 43 = some (43, 1) := by kernel_rfl
theorem places33_44 : E.P.places 33 44 = some (44, 1) := by kernel_rfl
theorem places33_45 : E.P.places 33 45 = some (45, 1) := by kernel_rfl
theorem places33_46 : E.P.places 33 46 = some (46, 1) := by kernel_rfl
theorem places33_47 : E.P.places 33 47 = some (47, 1) := by kernel_rfl
theorem places33_48 : E.P.places 33 48 = some (48, 1) := by kernel_rfl
theorem places33_49 : E.P.places 33 49 = some (49, 1) := by kernel_rfl
theorem places33_50 : E.P.places 33 50 = some (50, 1) := by kernel_rfl
theorem places33_51 : E.P.places 33 51 = some (51, 1) := by kernel_rfl
theorem places33_52 : E.P.places 33 52 = some (52, 1) := by kernel_rfl
theorem places33_53 : E.P.places 33 53 = some (53, 1) := by kernel_rfl
theorem places33_54 : E.P.places 33 54 = some (54, 1) := by kernel_rfl
theorem places33_55 : E.P.places 33 55 = some (55, 1) := by kernel_rfl
theorem places33_56 : E.P.places 33 56 = some (56, 1) := by kernel_rfl
theorem places33_57 : E.P.places 33 57 = some (57, 1) := by kernel_rfl
theorem places33_58 : E.P.places 33 58 = some (58, 1) := by kernel_rfl
theorem places33_59 : E.P.places 33 59 = some (59, 1) := by kernel_rfl
theorem places33_60 : E.P.places 33 60 = some (60, 1) := by kernel_rfl
theorem places33_61 : E.P.places 33 61 = some (61, 1) := by kernel_rfl
theorem places33_62 : E.P.places 33 62 = some (62, 1) := by kernel_rfl
theorem places33_63 : E.P.places 33 63 = some (63, 1) := by kernel_rfl
theorem places33_64 : E.P.places 33 64 = some (64, 1) := by kernel_rfl
theorem places33_65 : E.P.places 33 65 = some (65, 1) := by kernel_rfl
theorem places33_66 : E.P.places 33 66 = some (66, 1) := by kernel_rfl
theorem places33_67 : E.P.places 33 67 = some (67, 1) := by kernel_rfl
theorem places33_68 : E.P.places 33 68 = some (68, 1) := by kernel_rfl
theorem places33_69 : E.P.places 33 69 = some (69, 1) := by kernel_rfl
theorem szO34 : E.P.szO 34 = some 1 := by kernel_rfl
theorem rowO34 : E.P.rowO 34 = some false := by kernel_rfl
theorem zeroL34 : E.P.zeroL 34 = some [AVal.sc Value.nilFunc] := by kernel_rfl
theorem isStr34 : E.P.isStr 34 = false := by kernel_rfl
theorem isInt34 : E.P.isInt 34 = false := by kernel_rfl
theorem und34 : (E.P.underlying 34).isSome = true := by kernel_rfl
theorem guard34 : E.P.eqGuardType E.P.depth 34 = false := by kernel_rfl
theorem szO35 : E.P.szO 35 = some 1 := by kernel_rfl
theorem rowO35 : E.P.rowO 35 = some false := by kernel_rfl
theorem zeroL35 : E.P.zeroL 35 = some [AVal.sc Value.nilFunc] := by kernel_rfl
theorem isStr35 : E.P.isStr 35 = false := by kernel_rfl
theorem isInt35 : E.P.isInt 35 = false := by kernel_rfl
theorem und35 : (E.P.underlying 35).isSome = true := by kernel_rfl
theorem guard35 : E.P.eqGuardType E.P.depth 35 = false := by kernel_rfl
theorem szO36 : E.P.szO 36 = some 1 := by kernel_rfl
theorem rowO36 : E.P.rowO 36 = some false := by kernel_rfl
theorem zeroL36 : E.P.zeroL 36 = some [AVal.sc Value.nilFunc] := by kernel_rfl
theorem isStr36 : E.P.isStr 36 = false := by kernel_rfl
theorem isInt36 : E.P.isInt 36 = false := by kernel_rfl
theorem und36 : (E.P.underlying 36).isSome = true := by kernel_rfl
theorem guard36 : E.P.eqGuardType E.P.depth 36 = false := by kernel_rfl
theorem szO37 : E.P.szO 37 = some 1 := by kernel_rfl
theorem rowO37 : E.P.rowO 37 = some false := by kernel_rfl
theorem zeroL37 : E.P.zeroL 37 = some [AVal.int IntKind.u32 (0)] := by kernel_rfl
theorem isStr37 : E.P.isStr 37 = false := by kernel_rfl
theorem isInt37 : E.P.isInt 37 = true := by kernel_rfl
theorem kindO37 : kindO E.P 37 = some IntKind.u32 := by kernel_rfl
theorem und37 : (E.P.underlying 37).isSome = true := by kernel_rfl
theorem guard37 : E.P.eqGuardType E.P.depth 37 = false := by kernel_rfl
theorem szO38 : E.P.szO 38 = some 1 := by kernel_rfl
theorem rowO38 : E.P.rowO 38 = some false := by kernel_rfl
theorem zeroL38 : E.P.zeroL 38 = some [AVal.sc Value.nilFunc] := by kernel_rfl
theorem isStr38 : E.P.isStr 38 = false := by kernel_rfl
theorem isInt38 : E.P.isInt 38 = false := by kernel_rfl
theorem und38 : (E.P.underlying 38).isSome = true := by kernel_rfl
theorem guard38 : E.P.eqGuardType E.P.depth 38 = false := by kernel_rfl
theorem szO39 : E.P.szO 39 = some 1 := by kernel_rfl
theorem rowO39 : E.P.rowO 39 = some false := by kernel_rfl
theorem zeroL39 : E.P.zeroL 39 = some [AVal.sc Value.nilFunc] := by kernel_rfl
theorem isStr39 : E.P.isStr 39 = false := by kernel_rfl
theorem isInt39 : E.P.isInt 39 = false := by kernel_rfl
theorem und39 : (E.P.underlying 39).isSome = true := by kernel_rfl
theorem guard39 : E.P.eqGuardType E.P.depth 39 = false := by kernel_rfl
theorem szO40 : E.P.szO 40 = some 1 := by kernel_rfl
theorem rowO40 : E.P.rowO 40 = some false := by kernel_rfl
theorem zeroL40 : E.P.zeroL 40 = some [AVal.sc Value.nilFunc] := by kernel_rfl
theorem isStr40 : E.P.isStr 40 = false := by kernel_rfl
theorem isInt40 : E.P.isInt 40 = false := by kernel_rfl
theorem und40 : (E.P.underlying 40).isSome = true := by kernel_rfl
theorem guard40 : E.P.eqGuardType E.P.depth 40 = false := by kernel_rfl
theorem szO41 : E.P.szO 41 = some 1 := by kernel_rfl
theorem rowO41 : E.P.rowO 41 = some false := by kernel_rfl
theorem zeroL41 : E.P.zeroL 41 = some [AVal.sc Value.nilFunc] := by kernel_rfl
theorem isStr41 : E.P.isStr 41 = false := by kernel_rfl
theorem isInt41 : E.P.isInt 41 = false := by kernel_rfl
theorem und41 : (E.P.underlying 41).isSome = true := by kernel_rfl
theorem guard41 : E.P.eqGuardType E.P.depth 41 = false := by kernel_rfl
theorem szO42 : E.P.szO 42 = some 1 := by kernel_rfl
theorem rowO42 : E.P.rowO 42 = some false := by kernel_rfl
theorem zeroL42 : E.P.zeroL 42 = some [AVal.sc Value.nilFunc] := by kernel_rfl
theorem isStr42 : E.P.isStr 42 = false := by kernel_rfl
theorem isInt42 : E.P.isInt 42 = false := by kernel_rfl
theorem und42 : (E.P.underlying 42).isSome = true := by kernel_rfl
theorem guard42 : E.P.eqGuardType E.P.depth 42 = false := by kernel_rfl
theorem szO43 : E.P.szO 43 = some 1 := by kernel_rfl
theorem rowO43 : E.P.rowO 43 = some false := by kernel_rfl
theorem zeroL43 : E.P.zeroL 43 = some [AVal.sc Value.nilFunc] := by kernel_rfl
theorem isStr43 : E.P.isStr 43 = false := by kernel_rfl
theorem isInt43 : E.P.isInt 43 = false := by kernel_rfl
theorem und43 : (E.P.underlying 43).isSome = true := by kernel_rfl
theorem guard43 : E.P.eqGuardType E.P.depth 43 = false := by kernel_rfl
theorem szO44 : E.P.szO 44 = some 1 := by kernel_rfl
theorem rowO44 : E.P.rowO 44 = some false := by kernel_rfl
theorem zeroL44 : E.P.zeroL 44 = some [AVal.sc Value.nilFunc] := by kernel_rfl
theorem isStr44 : E.P.isStr 44 = false := by kernel_rfl
theorem isInt44 : E.P.isInt 44 = false := by kernel_rfl
theorem und44 : (E.P.underlying 44).isSome = true := by kernel_rfl
theorem guard44 : E.P.eqGuardType E.P.depth 44 = false := by kernel_rfl
theorem szO45 : E.P.szO 45 = some 16 := by kernel_rfl
theorem rowO45 : E.P.rowO 45 = some true := by kernel_rfl
theorem zeroL45 : E.P.zeroL 45 = some [AVal.int IntKind.u32 (0), AVal.int IntKind.u32 (0), AVal.int IntKind.u32 (0), AVal.int IntKind.u32 (0), AVal.int IntKind.u32 (0), AVal.int IntKind.u32 (0), AVal.int IntKind.u32 (0), AVal.int IntKind.u32 (0), AVal.int IntKind.u32 (0), AVal.int IntKind.u32 (0), AVal.int IntKind.u32 (0), AVal.int IntKind.u32 (0), AVal.int IntKind.u32 (0), AVal.int IntKind.u32 (0), AVal.int IntKind.u32 (0), AVal.int IntKind.u32 (0)] := by kernel_rfl
theorem isStr45 : E.P.isStr 45 = false := by kernel_rfl
theorem isInt45 : E.P.isInt 45 = false := by kernel_rfl
theorem isComp45 : E.P.isComp 45 = true := by kernel_rfl
theorem arrO45 : E.P.arrO 45 = some (16, 1, false) := by kernel_rfl
theorem und45 : (E.P.underlying 45).isSome = true := by kernel_rfl
theorem guard45 : E.P.eqGuardType E.P.depth 45 = false := by kernel_rfl
theorem places45_0 : E.P.places 45 0 = some (0, 1) := by kernel_rfl
theorem places45_1 : E.P.places 45 1 = some (1, 1) := by kernel_rfl
theorem places45_2 : E.P.places 45 2 = some (2, 1) := by kernel_rfl
theorem places45_3 : E.P.places 45 3 = some (3, 1) := by kernel_rfl
theorem places45_4 : E.P.places 45 4 = some (4, 1) := by kernel_rfl
theorem places45_5 : E.P.places 45 5 = some (5, 1) := by kernel_rfl
theorem places45_6 : E.P.places 45 6 = some (6, 1) := by kernel_rfl
theorem places45_7 : E.P.places 45 7 = some (7, 1) := by kernel_rfl
theorem places45_8 : E.P.places 45 8 = some (8, 1) := by kernel_rfl
theorem places45_9 : E.P.places 45 9 = some (9, 1) := by kernel_rfl
theorem places45_10 : E.P.places 45 10 = some (10, 1) := by kernel_rfl
theorem places45_11 : E.P.places 45 11 = some (11, 1) := by kernel_rfl
theorem places45_12 : E.P.places 45 12 = some (12, 1) := by kernel_rfl
theorem places45_13 : E.P.places 45 13 = some (13, 1) := by kernel_rfl
theorem places45_14 : E.P.places 45 14 = some (14, 1) := by kernel_rfl
theorem places45_15 : E.P.places 45 15 = some (15, 1) := by kernel_rfl
theorem places45_16 : E.P.places 45 16 = some (16, 1) := by kernel_rfl
theorem places45_17 : E.P.places 45 17 = some (17, 1) := by kernel_rfl
theorem places45_18 : E.P.places 45 18 = some (18, 1) := by kernel_rfl
theorem places45_19 : E.P.places 45 19 = some (19, 1) := by kernel_rfl
theorem places45_20 : E.P.places 45 20 = some (20, 1) := by kernel_rfl
theorem places45_21 : E.P.places 45 21 = some (21, 1) := by kernel_rfl
theorem places45_22 : E.P.places 45 22 = some (22, 1) := by kernel_rfl
theorem places45_23 : E.P.places 45 23 = some (23, 1) := by kernel_rfl
theorem places45_24 : E.P.places 45 24 = some (24, 1) := by kernel_rfl
theorem places45_25 : E.P.places 45 25 = some (25, 1) := by kernel_rfl
theorem places45_26 : E.P.places 45 26 = some (26, 1) := by kernel_rfl
theorem places45_27 : E.P.places 45 27 = some (27, 1) := by kernel_rfl
theorem places45_28 : E.P.places 45 28 = some (28, 1) := by kernel_rfl
theorem places45_29 : E.P.places 45 29 = some (29, 1) := by kernel_rfl
theorem places45_30 : E.P.places 45 30 = some (30, 1) := by kernel_rfl
theorem places45_31 : E.P.places 45 31 = some (31, 1) := by kernel_rfl
theorem places45_32 : E.P.places 45 32 = some (32, 1) := by kernel_rfl
theorem places45_33 : E.P.places 45 33 = some (33, 1) := by kernel_rfl
theorem places45_34 : E.P.places 45 34 = some (34, 1) := by kernel_rfl
theorem places45_35 : E.P.places 45 35 = some (35, 1) := by kernel_rfl
theorem places45_36 : E.P.places 45 36 = some (36, 1) := by kernel_rfl
theorem places45_37 : E.P.places 45 37 = some (37, 1) := by kernel_rfl
theorem places45_38 : E.P.places 45 38 = some (38, 1) := by kernel_rfl
theorem places45_39 : E.P.places 45 39 = some (39, 1) := by kernel_rfl
theorem places45_40 : E.P.places 45 40 = some (40, 1) := by kernel_rfl
theorem places45_41 : E.P.places 45 41 = some (41, 1) := by kernel_rfl
theorem places45_42 : E.P.places 45 42 = some (42, 1) := by kernel_rfl
theorem places45_43 : E.P.places 45 43 = some (43, 1) := by kernel_rfl
theorem places45_44 : E.P.places 45 44 = some (44, 1) := by kernel_rfl
theorem places45_45 : E.P.places 45 45 = some (45, 1) := by kernel_rfl
theorem places45_46 : E.P.places 45 46 = some (46, 1) := by kernel_rfl
theorem places45_47 : E.P.places 45 47 = some (47, 1) := by kernel_rfl
theorem places45_48 : E.P.places 45 48 = some (48, 1) := by kernel_rfl
theorem places45_49 : E.P.places 45 49 = some (49, 1) := by kernel_rfl
theorem places45_50 : E.P.places 45 50 = some (50, 1) := by kernel_rfl
theorem places45_51 : E.P.places 45 51 = some (51, 1) := by kernel_rfl
theorem places45_52 : E.P.places 45 52 = some (52, 1) := by kernel_rfl
theorem places45_53 : E.P.places 45 53 = some (53, 1) := by kernel_rfl
theorem places45_54 : E.P.places 45 54 = some (54, 1) := by kernel_rfl
theorem places45_55 : E.P.places 45 55 = some (55, 1) := by kernel_rfl
theorem places45_56 : E.P.places 45 56 = some (56, 1) := by kernel_rfl
theorem places45_57 : E.P.places 45 57 = some (57, 1) := by kernel_rfl
theorem places45_58 : E.P.places 45 58 = some (58, 1) := by kernel_rfl
theorem places45_59 : E.P.places 45 59 = some (59, 1) := by kernel_rfl
theorem places45_60 : E.P.places 45 60 = some (60, 1) := by kernel_rfl
theorem places45_61 : E.P.places 45 61 = some (61, 1) := by kernel_rfl
theorem places45_62 : E.P.places 45 62 = some (62, 1) := by kernel_rfl
theorem places45_63 : E.P.places 45 63 = some (63, 1) := by kernel_rfl
theorem places45_64 : E.P.places 45 64 = some (64, 1) := by kernel_rfl
theorem places45_65 : E.P.places 45 65 = some (65, 1) := by kernel_rfl
theorem places45_66 : E.P.places 45 66 = some (66, 1) := by kernel_rfl
theorem places45_67 : E.P.places 45 67 = some (67, 1) := by kernel_rfl
theorem places45_68 : E.P.places 45 68 = some (68, 1) := by kernel_rfl
theorem places45_69 : E.P.places 45 69 = some (69, 1) := by kernel_rfl
theorem szO46 : E.P.szO 46 = some 1 := by kernel_rfl
theorem rowO46 : E.P.rowO 46 = some false := by kernel_rfl
theorem zeroL46 : E.P.zeroL 46 = some [AVal.sc Value.nilFunc] := by kernel_rfl
theorem isStr46 : E.P.isStr 46 = false := by kernel_rfl
theorem isInt46 : E.P.isInt 46 = false := by kernel_rfl
theorem und46 : (E.P.underlying 46).isSome = true := by kernel_rfl
theorem guard46 : E.P.eqGuardType E.P.depth 46 = false := by kernel_rfl
theorem szO47 : E.P.szO 47 = some 64 := by kernel_rfl
theorem rowO47 : E.P.rowO 47 = some true := by kernel_rfl
theorem zeroL47 : E.P.zeroL 47 = some [AVal.int IntKind.u8 (0), AVal.int IntKind.u8 (0), AVal.int IntKind.u8 (0), AVal.int IntKind.u8 (0), AVal.int IntKind.u8 (0), AVal.int IntKind.u8 (0), AVal.int IntKind.u8 (0), AVal.int IntKind.u8 (0), AVal.int IntKind.u8 (0), AVal.int IntKind.u8 (0), AVal.int IntKind.u8 (0), AVal.int IntKind.u8 (0), AVal.int IntKind.u8 (0), AVal.int IntKind.u8 (0), AVal.int IntKind.u8 (0), AVal.int IntKind.u8 (0), AVal.int IntKind.u8 (0), AVal.int IntKind.u8 (0), AVal.int IntKind.u8 (0), AVal.int IntKind.u8 (0), AVal.int IntKind.u8 (0), AVal.int IntKind.u8 (0), AVal.int IntKind.u8 (0), AVal.int IntKind.u8 (0), AVal.int IntKind.u8 (0), AVal.int IntKind.u8 (0), AVal.int IntKind.u8 (0), AVal.int IntKind.u8 (0), AVal.int IntKind.u8 (0), AVal.int IntKind.u8 (0), AVal.int IntKind.u8 (0), AVal.int IntKind.u8 (0), AVal.int IntKind.u8 (0), AVal.int IntKind.u8 (0), AVal.int IntKind.u8 (0), AVal.int IntKind.u8 (0), AVal.int IntKind.u8 (0), AVal.int IntKind.u8 (0), AVal.int IntKind.u8 (0), AVal.int IntKind.u8 (0), AVal.int IntKind.u8 (0), AVal.int IntKind.u8 (0), AVal.int IntKind.u8 (0), AVal.int IntKind.u8 (0), AVal.int IntKind.u8 (0), AVal.int IntKind.u8 (0), AVal.int IntKind.u8 (0), AVal.int IntKind.u8 (0), AVal.int IntKind.u8 (0), AVal.int IntKind.u8 (0), AVal.int IntKind.u8 (0), AVal.int IntKind.u8 (0), AVal.int IntKind.u8 (0), AVal.int IntKind.u8 (0), AVal.int IntKind.u8 (0), AVal.int IntKind.u8 (0), AVal.int IntKind.u8 (0), AVal.int IntKind.u8 (0), AVal.int IntKind.u8 (0), AVal.int IntKind.u8 (0), AVal.int IntKind.u8 (0), AVal.int IntKind.u8 (0), AVal.int IntKind.u8 (0), AVal.int IntKind.u8 (0)] := by kernel_rfl
theorem isStr47 : E.P.isStr 47 = false := by kernel_rfl
theorem isInt47 : E.P.isInt 47 = false := by kernel_rfl
theorem isComp47 : E.P.isComp 47 = true := by kernel_rfl
theorem arrO47 : E.P.arrO 47 = some (64, 1, false) := by kernel_rfl
theorem und47 : (E.P.underlying 47).isSome = true := by kernel_rfl
theorem guard47 : E.P.eqGuardType E.P.depth 47 = false := by kernel_rfl
theorem places47_0 : E.P.places 47 0 = some (0, 1) := by kernel_rfl
theorem places47_1 : E.P.places 47 1 = some (1, 1) := by kernel_rfl
theorem places47_2 : E.P.places 47 2 = some (2, 1) := by kernel_rfl
theorem places47_3 : E.P.places 47 3 = some (3, 1) := by kernel_rfl
theorem places47_4 : E.P.places 47 4 = some (4, 1) := by kernel_rfl
theorem places47_5 : E.P.places 47 5 = some (5, 1) := by kernel_rfl
theorem places47_6 : E.P.places 47 6 = some (6, 1) := by kernel_rfl
theorem places47_7 : E.P.places 47 7 = some (7, 1) := by kernel_rfl
theorem places47_8 : E.P.places 47 8 = some (8, 1) := by kernel_rfl
theorem places47_9 : E.P.places 47 9 = some (9, 1) := by kernel_rfl
theorem places47_10 : E.P.places 47 10 = some (10, 1) := by kernel_rfl
theorem places47_11 : E.P.places 47 11 = some (11, 1) := by kernel_rfl
theorem places47_12 : E.P.places 47 12 = some (12, 1) := by kernel_rfl
theorem places47_13 : E.P.places 47 13 = some (13, 1) := by kernel_rfl
theorem places47_14 : E.P.places 47 14 = some (14, 1) := by kernel_rfl
theorem places47_15 : E.P.places 47 15 = some (15, 1) := by kernel_rfl
theorem places47_16 : E.P.places 47 16 = some (16, 1) := by kernel_rfl
theorem places47_17 : E.P.places 47 17 = some (17, 1) := by kernel_rfl
theorem places47_18 : E.P.places 47 18 = some (18, 1) := by kernel_rfl
theorem places47_19 : E.P.places 47 19 = some (19, 1) := by kernel_rfl
theorem places47_20 : E.P.places 47 20 = some (20, 1) := by kernel_rfl
theorem places47_21 : E.P.places 47 21 = some (21, 1) := by kernel_rfl
theorem places47_22 : E.P.places 47 22 = some (22, 1) := by kernel_rfl
theorem places47_23 : E.P.places 47 23 = some (23, 1) := by kernel_rfl
theorem places47_24 : E.P.places 47 24 = some (24, 1) := by kernel_rfl
theorem places47_25 : E.P.places 47 25 = some (25, 1) := by kernel_rfl
theorem places47_26 : E.P.places 47 26 = some (26, 1) := by kernel_rfl
theorem places47_27 : E.P.places 47 27 = some (27, 1) := by kernel_rfl
theorem places47_28 : E.P.places 47 28 = some (28, 1) := by kernel_rfl
theorem places47_29 : E.P.places 47 29 = some (29, 1) := by kernel_rfl
theorem places47_30 : E.P.places 47 30 = some (30, 1) := by kernel_rfl
theorem places47_31 : E.P.places 47 31 = some (31, 1) := by kernel_rfl
theorem places47_32 : E.P.places 47 32 = some (32, 1) := by kernel_rfl
theorem places47_33 : E.P.places 47 33 = some (33, 1) := by kernel_rfl
theorem places47_34 : E.P.places 47 34 = some (34, 1) := by kernel_rfl
theorem places47_35 : E.P.places 47 35 = some (35, 1) := by kernel_rfl
theorem places47_36 : E.P.places 47 36 = some (36, 1) := by kernel_rfl
theorem places47_37 : E.P.places 47 37 = some (37, 1) := by kernel_rfl
theorem places47_38 : E.P.places 47 38 = some (38, 1) := by kernel_rfl
theorem places47_39 : E.P.places 47 39 = some (39, 1) := by kernel_rfl
theorem places47_40 : E.P.places 47 40 = some (40, 1) := by kernel_rfl
theorem places47_41 : E.P.places 47 41 = some (41, 1) := by kernel_rfl
theorem places47_42 : E.P.places 47 42 = some (42, 1) := by kernel_rfl
theorem places47_43 : E.P.places 47 43 = some (43, 1) := by kernel_rfl
theorem places47_44 : E.P.places 47 44 = some (44, 1) := by kernel_rfl
theorem places47_45 : E.P.places 47 45 = some (45, 1) := by kernel_rfl
theorem places47_46 : E.P.places 47 46 = some (46, 1) := by kernel_rfl
theorem places47_47 : E.P.places 47 47 = some (47, 1) := by kernel_rfl
theorem places47_48 : E.P.places 47 48 = some (48, 1) := by kernel_rfl
theorem places47_49 : E.P.places 47 49 = some (49, 1) := by kernel_rfl
theorem places47_50 : E.P.places 47 50 = some (50, 1) := by kernel_rfl
theorem places47_51 : E.P.places 47 51 = some (51, 1) := by kernel_rfl
theorem places47_52 : E.P.places 47 52 = some (52, 1) := by kernel_rfl
theorem places47_53 : E.P.places 47 53 = some (53, 1) := by kernel_rfl
theorem places47_54 : E.P.places 47 54 = some (54, 1) := by kernel_rfl
theorem places47_55 : E.P.places 47 55 = some (55, 1) := by kernel_rfl
theorem places47_56 : E.P.places 47 56 = some (56, 1) := by kernel_rfl
theorem places47_57 : E.P.places 47 57 = some (57, 1) := by kernel_rfl
theorem places47_58 : E.P.places 47 58 = some (58, 1) := by kernel_rfl
theorem places47_59 : E.P.places 47 59 = some (59, 1) := by kernel_rfl
theorem places47_60 : E.P.places 47 60 = some (60, 1) := by kernel_rfl
theorem places47_61 : E.P.places 47 61 = some (61, 1) := by kernel_rfl
theorem places47_62 : E.P.places 47 62 = some (62, 1) := by kernel_rfl
theorem places47_63 : E.P.places 47 63 = some (63, 1) := by kernel_rfl
theorem places47_64 : E.P.places 47 64 = some (64, 1) := by kernel_rfl
theorem places47_65 : E.P.places 47 65 = some (65, 1) := by kernel_rfl
theorem places47_66 : E.P.places 47 66 = some (66, 1) := by kernel_rfl
theorem places47_67 : E.P.places 47 67 = some (67, 1) := by kernel_rfl
theorem places47_68 : E.P.places 47 68 = some (68, 1) := by kernel_rfl
theorem places47_69 : E.P.places 47 69 = some (69, 1) := by kernel_rfl
theorem szO48 : E.P.szO 48 = some 1 := by kernel_rfl
theorem rowO48 : E.P.rowO 48 = some false := by kernel_rfl
theorem zeroL48 : E.P.zeroL 48 = some [AVal.sc Value.nilFunc] := by kernel_rfl
theorem isStr48 : E.P.isStr 48 = false := by kernel_rfl
theorem isInt48 : E.P.isInt 48 = false := by kernel_rfl
theorem und48 : (E.P.underlying 48).isSome = true := by kernel_rfl
theorem guard48 : E.P.eqGuardType E.P.depth 48 = false := by kernel_rfl
theorem szO49 : E.P.szO 49 = some 1 := by kernel_rfl
theorem rowO49 : E.P.rowO 49 = some false := by kernel_rfl
theorem zeroL49 : E.P.zeroL 49 = some [AVal.sc Value.nilFunc] := by kernel_rfl
theorem isStr49 : E.P.isStr 49 = false := by kernel_rfl
theorem isInt49 : E.P.isInt 49 = false := by kernel_rfl
theorem und49 : (E.P.underlying 49).isSome = true := by kernel_rfl
theorem guard49 : E.P.eqGuardType E.P.depth 49 = false := by kernel_rfl
theorem szO50 : E.P.szO 50 = some 1 := by kernel_rfl
theorem rowO50 : E.P.rowO 50 = some false := by kernel_rfl
theorem zeroL50 : E.P.zeroL 50 = some [AVal.sc Value.nilFunc] := by kernel_rfl
theorem isStr50 : E.P.isStr 50 = false := by kernel_rfl
theorem isInt50 : E.P.isInt 50 = false := by kernel_rfl
theorem und50 : (E.P.underlying 50).isSome = true := by kernel_rfl
theorem guard50 : E.P.eqGuardType E.P.depth 50 = false := by kernel_rfl
theorem szO51 : E.P.szO 51 = some 1 := by kernel_rfl
theorem rowO51 : E.P.rowO 51 = some false := by kernel_rfl
theorem zeroL51 : E.P.zeroL 51 = some [AVal.sc Value.nilFunc] := by kernel_rfl
theorem isStr51 : E.P.isStr 51 = false := by kernel_rfl
theorem isInt51 : E.P.isInt 51 = false := by kernel_rfl
theorem und51 : (E.P.underlying 51).isSome = true := by kernel_rfl
theorem guard51 : E.P.eqGuardType E.P.depth 51 = false := by kernel_rfl
theorem szO52 : E.P.szO 52 = some 1 := by kernel_rfl
theorem rowO52 : E.P.rowO 52 = some false := by kernel_rfl
theorem zeroL52 : E.P.zeroL 52 = some [AVal.sc Value.nilFunc] := by kernel_rfl
theorem isStr52 : E.P.isStr 52 = false := by kernel_rfl
theorem isInt52 : E.P.isInt 52 = false := by kernel_rfl
theorem und52 : (E.P.underlying 52).isSome = true := by kernel_rfl
theorem guard52 : E.P.eqGuardType E.P.depth 52 = false := by kernel_rfl
theorem szO53 : E.P.szO 53 = some 1 := by kernel_rfl
theorem rowO53 : E.P.rowO 53 = some false := by kernel_rfl
theorem zeroL53 : E.P.zeroL 53 = some [AVal.sc Value.nilFunc] := by kernel_rfl
theorem isStr53 : E.P.isStr 53 = false := by kernel_rfl
theorem isInt53 : E.P.isInt 53 = false := by kernel_rfl
theorem und53 : (E.P.underlying 53).isSome = true := by kernel_rfl
theorem guard53 : E.P.eqGuardType E.P.depth 53 = false := by kernel_rfl
theorem szO54 : E.P.szO 54 = some 1 := by kernel_rfl
theorem rowO54 : E.P.rowO 54 = some false := by kernel_rfl
theorem zeroL54 : E.P.zeroL 54 = some [AVal.sc Value.nilFunc] := by kernel_rfl
theorem isStr54 : E.P.isStr 54 = false := by kernel_rfl
theorem isInt54 : E.P.isInt 54 = false := by kernel_rfl
theorem und54 : (E.P.underlying 54).isSome = true := by kernel_rfl
theorem guard54 : E.P.eqGuardType E.P.depth 54 = false := by kernel_rfl
theorem szO55 : E.P.szO 55 = some 1 := by kernel_rfl
theorem rowO55 : E.P.rowO 55 = some false := by kernel_rfl
theorem zeroL55 : E.P.zeroL 55 = some [AVal.int IntKind.u64 (0)] := by kernel_rfl
theorem isStr55 : E.P.isStr 55 = false := by kernel_rfl
theorem isInt55 : E.P.isInt 55 = true := by kernel_rfl
theorem kindO55 : kindO E.P 55 = some IntKind.u64 := by kernel_rfl
theorem und55 : (E.P.underlying 55).isSome = true := by kernel_rfl
theorem guard55 : E.P.eqGuardType E.P.depth 55 = false := by kernel_rfl
theorem szO56 : E.P.szO 56 = some 5 := by kernel_rfl
theorem rowO56 : E.P.rowO 56 = some true := by kernel_rfl
theorem zeroL56 : E.P.zeroL 56 = some [AVal.int IntKind.u64 (0), AVal.int IntKind.u64 (0), AVal.int IntKind.u64 (0), AVal.int IntKind.u64 (0), AVal.int IntKind.u64 (0)] := by kernel_rfl
theorem isStr56 : E.P.isStr 56 = false := by kernel_rfl
theorem isInt56 : E.P.isInt 56 = false := by kernel_rfl
theorem isComp56 : E.P.isComp 56 = true := by kernel_rfl
theorem arrO56 : E.P.arrO 56 = some (5, 1, false) := by kernel_rfl
theorem und56 : (E.P.underlying 56).isSome = true := by kernel_rfl
theorem guard56 : E.P.eqGuardType E.P.depth 56 = false := by kernel_rfl
theorem places56_0 : E.P.places 56 0 = some (0, 1) := by kernel_rfl
theorem places56_1 : E.P.places 56 1 = some (1, 1) := by kernel_rfl
theorem places56_2 : E.P.places 56 2 = some (2, 1) := by kernel_rfl
theorem places56_3 : E.P.places 56 3 = some (3, 1) := by kernel_rfl
theorem places56_4 : E.P.places 56 4 = some (4, 1) := by kernel_rfl
theorem places56_5 : E.P.places 56 5 = some (5, 1) := by kernel_rfl
theorem places56_6 : E.P.places 56 6 = some (6, 1) := by kernel_rfl
theorem places56_7 : E.P.places 56 7 = some (7, 1) := by kernel_rfl
theorem places56_8 : E.P.places 56 8 = some (8, 1) := by kernel_rfl
theorem places56_9 : E.P.places 56 9 = some (9, 1) := by kernel_rfl
theorem places56_10 : E.P.places 56 10 = some (10, 1) := by kernel_rfl
theorem places56_11 : E.P.places 56 11 = some (11, 1) := by kernel_rfl
theorem places56_12 : E.P.places 56 12 = some (12, 1) := by kernel_rfl
theorem places56_13 : E.P.places 56 13 = some (13, 1) := by kernel_rfl
theorem places56_14 : E.P.places 56 14 = some (14, 1) := by kernel_rfl
theorem places56_15 : E.P.places 56 15 = some (15, 1) := by kernel_rfl
theorem places56_16 : E.P.places 56 16 = some (16, 1) := by kernel_rfl
theorem places56_17 : E.P.places 56 17 = some (17, 1) := by kernel_rfl
theorem places56_18 : E.P.places 56 18 = some (18, 1) := by kernel_rfl
theorem places56_19 : E.P.places 56 19 = some (19, 1) := by kernel_rfl
theorem places56_20 : E.P.places 56 20 = some (20, 1) := by kernel_rfl
theorem places56_21 : E.P.places 56 21 = some (21, 1) := by kernel_rfl
theorem places56_22 : E.P.places 56 22 = some (22, 1) := by kernel_rfl
theorem places56_23 : E.P.places 56 23 = some (23, 1) := by kernel_rfl
theorem places56_24 : E.P.places 56 24 = some (24, 1) := by kernel_rfl
theorem places56_25 : E.P.places 56 25 = some (25, 1) := by kernel_rfl
theorem places56_26 : E.P.places 56 26 = some (26, 1) := by kernel_rfl
theorem places56_27 : E.P.places 56 27 = some (27, 1) := by kernel_rfl
theorem places56_28 : E.P.places 56 28 = some (28, 1) := by kernel_rfl
theorem places56_29 : E.P.places 56 29 = some (29, 1) := by kernel_rfl
theorem places56_30 : E.P.places 56 30 = some (30, 1) := by kernel_rfl
theorem places56_31 : E.P.places 56 31 = some (31, 1) := by kernel_rfl
theorem places56_32 : E.P.places 56 32 = some (32, 1) := by kernel_rfl
theorem places56_33 : E.P.places 56 33 = some (33, 1) := by kernel_rfl
theorem places56_34 : E.P.places 56 34 = some (34, 1) := by kernel_rfl
theorem places56_35 : E.P.places 56 35 = some (35, 1) := by kernel_rfl
theorem places56_36 : E.P.places 56 36 = some (36, 1) := by kernel_rfl
theorem places56_37 : E.P.places 56 37 = some (37, 1) := by kernel_rfl
theorem places56_38 : E.P.places 56 38 = some (38, 1) := by kernel_rfl
theorem places56_39 : E.P.places 56 39 = some (39, 1) := by kernel_rfl
theorem places56_40 : E.P.places 56 40 = some (40, 1) := by kernel_rfl
theorem places56_41 : E.P.places 56 41 = some (41, 1) := by kernel_rfl
theorem places56_42 : E.P.places 56 42 = some (42, 1) := by kernel_rfl
theorem places56_43 : E.P.places 56 43 = some (43, 1) := by kernel_rfl
theorem places56_44 : E.P.places 56 44 = some (44, 1) := by kernel_rfl
theorem places56_45 : E.P.places 56 45 = some (45, 1) := by kernel_rfl
theorem places56_46 : E.P.places 56 46 = some (46, 1) := by kernel_rfl
theorem places56_47 : E.P.places 56 47 = some (47, 1) := by kernel_rfl
theorem places56_48 : E.P.places 56 48 = some (48, 1) := by kernel_rfl
theorem places56_49 : E.P.places 56 49 = some (49, 1) := by kernel_rfl
theorem places56_50 : E.P.places 56 50 = some (50, 1) := by kernel_rfl
theorem places56_51 : E.P.places 56 51 = some (51, 1) := by kernel_rfl
theorem places56_52 : E.P.places 56 52 = some (52, 1) := by kernel_rfl
theorem places56_53 : E.P.places 56 53 = some (53, 1) := by kernel_rfl
theorem places56_54 : E.P.places 56 54 = some (54, 1) := by kernel_rfl
theorem places56_55 : E.P.places 56 55 = some (55, 1) := by kernel_rfl
theorem places56_56 : E.P.places 56 56 = some (56, 1) := by kernel_rfl
theorem places56_57 : E.P.places 56 57 = some (57, 1) := by kernel_rfl
theorem places56_58 : E.P.places 56 58 = some (58, 1) := by kernel_rfl
theorem places56_59 : E.P.places 56 59 = some (59, 1) := by kernel_rfl
theorem places56_60 : E.P.places 56 60 = some (60, 1) := by kernel_rfl
theorem places56_61 : E.P.places 56 61 = some (61, 1) := by kernel_rfl
theorem places56_62 : E.P.places 56 62 = some (62, 1) := by kernel_rfl
theorem places56_63 : E.P.places 56 63 = some (63, 1) := by kernel_rfl
theorem places56_64 : E.P.places 56 64 = some (64, 1) := by kernel_rfl
theorem places56_65 : E.P.places 56 65 = some (65, 1) := by kernel_rfl
theorem places56_66 : E.P.places 56 66 = some (66, 1) := by kernel_rfl
theorem places56_67 : E.P.places 56 67 = some (67, 1) := by kernel_rfl
theorem places56_68 : E.P.places 56 68 = some (68, 1) := by kernel_rfl
theorem places56_69 : E.P.places 56 69 = some (69, 1) := by kernel_rfl
theorem szO57 : E.P.szO 57 = some 5 := by kernel_rfl
theorem rowO57 : E.P.rowO 57 = some true := by kernel_rfl
theorem zeroL57 : E.P.zeroL 57 = some [AVal.int IntKind.u64 (0), AVal.int IntKind.u64 (0), AVal.int IntKind.u64 (0), AVal.int IntKind.u64 (0), AVal.int IntKind.u64 (0)] := by kernel_rfl
theorem isStr57 : E.P.isStr 57 = false := by kernel_rfl
theorem isInt57 : E.P.isInt 57 = false := by kernel_rfl
theorem isComp57 : E.P.isComp 57 = true := by kernel_rfl
theorem arrO57 : E.P.arrO 57 = some (5, 1, false) := by kernel_rfl
theorem und57 : (E.P.underlying 57).isSome = true := by kernel_rfl
theorem guard57 : E.P.eqGuardType E.P.depth 57 = false := by kernel_rfl
theorem places57_0 : E.P.places 57 0 = some (0, 1) := by kernel_rfl
theorem places57_1 : E.P.places 57 1 = some (1, 1) := by kernel_rfl
theorem places57_2 : E.P.places 57 2 = some (2, 1) := by kernel_rfl
theorem places57_3 : E.P.places 57 3 = some (3, 1) := by kernel_rfl
theorem places57_4 : E.P.places 57 4 = some (4, 1) := by kernel_rfl
theorem places57_5 : E.P.places 57 5 = some (5, 1) := by kernel_rfl
theorem places57_6 : E.P.places 57 6 = some (6, 1) := by kernel_rfl
theorem places57_7 : E.P.places 57 7 = some (7, 1) := by kernel_rfl
theorem places57_8 : E.P.places 57 8 = some (8, 1) := by kernel_rfl
theorem places57_9 : E.P.places 57 9 = some (9, 1) := by kernel_rfl
theorem places57_10 : E.P.places 57 10 = some (10, 1) := by kernel_rfl
theorem places57_11 : E.P.places 57 11 = some (11, 1) := by kernel_rfl
theorem places57_12 : E.P.places 57 12 = some (12, 1) := by kernel_rfl
theorem places57_13 : E.P.places 57 13 = some (13, 1) := by kernel_rfl
theorem places57_14 : E.P.places 57 14 = some (14, 1) := by kernel_rfl
theorem places57_15 : E.P.places 57 15 = some (15, 1) := by kernel_rfl
theorem places57_16 : E.P.places 57 16 = some (16, 1) := by kernel_rfl
theorem places57_17 : E.P.places 57 17 = some (17, 1) := by kernel_rfl
theorem places57_18 : E.P.places 57 18 = some (18, 1) := by kernel_rfl
theorem places57_19 : E.P.places 57 19 = some (19, 1) := by kernel_rfl
theorem places57_20 : E.P.places 57 20 = some (20, 1) := by kernel_rfl
theorem places57_21 : E.P.places 57 21 = some (21, 1) := by kernel_rfl
theorem places57_22 : E.P.places 57 22 = some (22, 1) := by kernel_rfl
theorem places57_23 : E.P.places 57 23 = some (23, 1) := by kernel_rfl
theorem places57_24 : E.P.places 57 24 = some (24, 1) := by kernel_rfl
theorem places57_25 : E.P.places 57 25 = some (25, 1) := by kernel_rfl
theorem places57_26 : E.P.places 57 26 = some (26, 1) := by kernel_rfl
theorem places57_27 : E.P.places 57 27 = some (27, 1) := by kernel_rfl
theorem places57_28 : E.P.places 57 28 = some (28, 1) := by kernel_rfl
theorem places57_29 : E.P.places 57 29 = some (29, 1) := by kernel_rfl
theorem places57_30 : E.P.places 57 30 = some (30, 1) := by kernel_rfl
theorem places57_31 : E.P.places 57 31 = some (31, 1) := by kernel_rfl
theorem places57_32 : E.P.places 57 32 = some (32, 1) := by kernel_rfl
theorem places57_33 : E.P.places 57 33 = some (33, 1) := by kernel_rfl
theorem places57_34 : E.P.places 57 34 = some (34, 1) := by kernel_rfl
theorem places57_35 : E.P.places 57 35 = some (35, 1) := by kernel_rfl
theorem places57_36 : E.P.places 57 36 = some (36, 1) := by kernel_rfl
theorem places57_37 : E.P.places 57 37 = some (37, 1) := by kernel_rfl
theorem places57_38 : E.P.places 57 38 = some (38, 1) := by kernel_rfl
theorem places57_39 : E.P.places 57 39 = some (39, 1) := by kernel_rfl
theorem places57_40 : E.P.places 57 40 = some (40, 1) := by kernel_rfl
theorem places57_41 : E.P.places 57 41 = some (41, 1) := by kernel_rfl
theorem places57_42 : E.P.places 57 42 = some (42, 1) := by kernel_rfl
theorem places57_43 : E.P.places 57 43 = some (43, 1) := by kernel_rfl
theorem places57_44 : E.P.places 57 44 = some (44, 1) := by kernel_rfl
theorem places57_45 : E.P.places 57 45 = some (45, 1) := by kernel_rfl
theorem places57_46 : E.P.places 57 46 = some (46, 1) := by kernel_rfl
theorem places57_47 : E.P.places 57 47 = some (47, 1) := by kernel_rfl
theorem places57_48 : E.P.places 57 48 = some (48, 1) := by kernel_rfl
theorem places57_49 : E.P.places 57 49 = some (49, 1) := by kernel_rfl
theorem places57_50 : E.P.places 57 50 = some (50, 1) := by kernel_rfl
theorem places57_51 : E.P.places 57 51 = some (51, 1) := by kernel_rfl
theorem places57_52 : E.P.places 57 52 = some (52, 1) := by kernel_rfl
theorem places57_53 : E.P.places 57 53 = some (53, 1) := by kernel_rfl
theorem places57_54 : E.P.places 57 54 = some (54, 1) := by kernel_rfl
theorem places57_55 : E.P.places 57 55 = some (55, 1) := by kernel_rfl
theorem places57_56 : E.P.places 57 56 = some (56, 1) := by kernel_rfl
theorem places57_57 : E.P.places 57 57 = some (57, 1) := by kernel_rfl
theorem places57_58 : E.P.places 57 58 = some (58, 1) := by kernel_rfl
theorem places57_59 : E.P.places 57 59 = some (59, 1) := by kernel_rfl
theorem places57_60 : E.P.places 57 60 = some (60, 1) := by kernel_rfl
theorem places57_61 : E.P.places 57 61 = some (61, 1) := by kernel_rfl
theorem places57_62 : E.P.places 57 62 = some (62, 1) := by kernel_rfl
theorem places57_63 : E.P.places 57 63 = some (63, 1) := by kernel_rfl
theorem places57_64 : E.P.places 57 64 = some (64, 1) := by kernel_rfl
theorem places57_65 : E.P.places 57 65 = some (65, 1) := by kernel_rfl
theorem places57_66 : E.P.places 57 66 = some (66, 1) := by kernel_rfl
theorem places57_67 : E.P.places 57 67 = some (67, 1) := by kernel_rfl
theorem places57_68 : E.P.places 57 68 = some (68, 1) := by kernel_rfl
theorem places57_69 : E.P.places 57 69 = some (69, 1) := by kernel_rfl
theorem szO58 : E.P.szO 58 = some 1 := by kernel_rfl
theorem rowO58 : E.P.rowO 58 = some false := by kernel_rfl
theorem zeroL58 : E.P.zeroL 58 = some [AVal.sc Value.nilFunc] := by kernel_rfl
theorem isStr58 : E.P.isStr 58 = false := by kernel_rfl
theorem isInt58 : E.P.isInt 58 = false := by kernel_rfl
theorem und58 : (E.P.underlying 58).isSome = true := by kernel_rfl
theorem guard58 : E.P.eqGuardType E.P.depth 58 = false := by kernel_rfl
theorem szO59 : E.P.szO 59 = some 1 := by kernel_rfl
theorem rowO59 : E.P.rowO 59 = some false := by kernel_rfl
theorem zeroL59 : E.P.zeroL 59 = some [AVal.sc Value.nilFunc] := by kernel_rfl
theorem isStr59 : E.P.isStr 59 = false := by kernel_rfl
theorem isInt59 : E.P.isInt 59 = false := by kernel_rfl
theorem und59 : (E.P.underlying 59).isSome = true := by kernel_rfl
theorem guard59 : E.P.eqGuardType E.P.depth 59 = false := by kernel_rfl
theorem szO60 : E.P.szO 60 = some 1 := by kernel_rfl
theorem rowO60 : E.P.rowO 60 = some false := by kernel_rfl
theorem zeroL60 : E.P.zeroL 60 = some [AVal.sc Value.nilFunc] := by kernel_rfl
theorem isStr60 : E.P.isStr 60 = false := by kernel_rfl
theorem isInt60 : E.P.isInt 60 = false := by kernel_rfl
theorem und60 : (E.P.underlying 60).isSome = true := by kernel_rfl
theorem guard60 : E.P.eqGuardType E.P.depth 60 = false := by kernel_rfl
theorem szO61 : E.P.szO 61 = some 1 := by kernel_rfl
theorem rowO61 : E.P.rowO 61 = some false := by kernel_rfl
theorem zeroL61 : E.P.zeroL 61 = some [AVal.sc Value.nilFunc] := by kernel_rfl
theorem isStr61 : E.P.isStr 61 = false := by kernel_rfl
theorem isInt61 : E.P.isInt 61 = false := by kernel_rfl
theorem und61 : (E.P.underlying 61).isSome = true := by kernel_rfl
theorem guard61 : E.P.eqGuardType E.P.depth 61 = false := by kernel_rfl
theorem szO62 : E.P.szO 62 = some 1 := by kernel_rfl
theorem rowO62 : E.P.rowO 62 = some false := by kernel_rfl
theorem zeroL62 : E.P.zeroL 62 = some [AVal.sc Value.nilFunc] := by kernel_rfl
theorem isStr62 : E.P.isStr 62 = false := by kernel_rfl
theorem isInt62 : E.P.isInt 62 = false := by kernel_rfl
theorem und62 : (E.P.underlying 62).isSome = true := by kernel_rfl
theorem guard62 : E.P.eqGuardType E.P.depth 62 = false := by kernel_rfl
theorem szO63 : E.P.szO 63 = some 1 := by kernel_rfl
theorem rowO63 : E.P.rowO 63 = some false := by kernel_rfl
theorem zeroL63 : E.P.zeroL 63 = some [AVal.sc (Value.slice none 0 0)] := by kernel_rfl
theorem elemO63 : E.P.elemO 63 = some 1 := by kernel_rfl
theorem elemBytes63 : E.P.elemBytes 63 = some 4 := by kernel_rfl
theorem elemZero63 : E.P.elemZero 63 = some [AVal.int IntKind.u32 (0)] := by kernel_rfl
theorem isStr63 : E.P.isStr 63 = false := by kernel_rfl
theorem isInt63 : E.P.isInt 63 = false := by kernel_rfl
theorem und63 : (E.P.underlying 63).isSome = true := by kernel_rfl
theorem guard63 : E.P.eqGuardType E.P.depth 63 = false := by kernel_rfl
theorem szO64 : E.P.szO 64 = some 1 := by kernel_rfl
theorem rowO64 : E.P.rowO 64 = some false := by kernel_rfl
theorem zeroL64 : E.P.zeroL 64 = some [AVal.sc (Value.slice none 0 0)] := by kernel_rfl
theorem elemO64 : E.P.elemO 64 = some 1 := by kernel_rfl
theorem elemBytes64 : E.P.elemBytes 64 = some 8 := by kernel_rfl
theorem elemZero64 : E.P.elemZero 64 = some [AVal.int IntKind.i64 (0)] := by kernel_rfl
theorem isStr64 : E.P.isStr 64 = false := by kernel_rfl
theorem isInt64 : E.P.isInt 64 = false := by kernel_rfl
theorem und64 : (E.P.underlying 64).isSome = true := by kernel_rfl
theorem guard64 : E.P.eqGuardType E.P.depth 64 = false := by kernel_rfl
theorem szO65 : E.P.szO 65 = some 1 := by kernel_rfl
theorem rowO65 : E.P.rowO 65 = some false := by kernel_rfl
theorem zeroL65 : E.P.zeroL 65 = some [AVal.sc (Value.tuple { toList := [Value.int IntKind.u32 (0), Value.int IntKind.u32 (0), Value.int IntKind.u32 (0), Value.int IntKind.u32 (0)] })] := by kernel_rfl
theorem isStr65 : E.P.isStr 65 = false := by kernel_rfl
theorem isInt65 : E.P.isInt 65 = false := by kernel_rfl
theorem und65 : (E.P.underlying 65).isSome = true := by kernel_rfl
theorem guard65 : E.P.eqGuardType E.P.depth 65 = false := by kernel_rfl
theorem szO66 : E.P.szO 66 = some 1 := by kernel_rfl
theorem rowO66 : E.P.rowO 66 = some false := by kernel_rfl
theorem zeroL66 : E.P.zeroL 66 = some [AVal.sc Value.nilFunc] := by kernel_rfl
theorem isStr66 : E.P.isStr 66 = false := by kernel_rfl
theorem isInt66 : E.P.isInt 66 = false := by kernel_rfl
theorem und66 : (E.P.underlying 66).isSome = true := by kernel_rfl
theorem guard66 : E.P.eqGuardType E.P.depth 66 = false := by kernel_rfl
theorem szO67 : E.P.szO 67 = some 1 := by kernel_rfl
theorem rowO67 : E.P.rowO 67 = some false := by kernel_rfl
theorem zeroL67 : E.P.zeroL 67 = some [AVal.sc Value.nilFunc] := by kernel_rfl
theorem isStr67 : E.P.isStr 67 = false := by kernel_rfl
theorem isInt67 : E.P.isInt 67 = false := by kernel_rfl
theorem und67 : (E.P.underlying 67).isSome = true := by kernel_rfl
theorem guard67 : E.P.eqGuardType E.P.depth 67 = false := by kernel_rfl
theorem szO68 : E.P.szO 68 = some 1 := by kernel_rfl
theorem rowO68 : E.P.rowO 68 = some false := by kernel_rfl
theorem zeroL68 : E.P.zeroL 68 = some [AVal.sc Value.nilFunc] := by kernel_rfl
theorem isStr68 : E.P.isStr 68 = false := by kernel_rfl
theorem isInt68 : E.P.isInt 68 = false := by kernel_rfl
theorem und68 : (E.P.underlying 68).isSome = true := by kernel_rfl
theorem guard68 : E.P.eqGuardType E.P.depth 68 = false := by kernel_rfl
theorem szO69 : E.P.szO 69 = some 1 := by kernel_rfl
theorem rowO69 : E.P.rowO 69 = some false := by kernel_rfl
theorem zeroL69 : E.P.zeroL 69 = some [AVal.sc Value.nilFunc] := by kernel_rfl
theorem isStr69 : E.P.isStr 69 = false := by kernel_rfl
theorem isInt69 : E.P.isInt 69 = false := by kernel_rfl
theorem und69 : (E.P.underlying 69).isSome = true := by kernel_rfl
theorem guard69 : E.P.eqGuardType E.P.depth 69 = false := by kernel_rfl
theorem szO70 : E.P.szO 70 = some 1 := by kernel_rfl
theorem rowO70 : E.P.rowO 70 = some false := by kernel_rfl
theorem zeroL70 : E.P.zeroL 70 = some [AVal.sc Value.nilFunc] := by kernel_rfl
theorem isStr70 : E.P.isStr 70 = false := by kernel_rfl
theorem isInt70 : E.P.isInt 70 = false := by kernel_rfl
theorem und70 : (E.P.underlying 70).isSome = true := by kernel_rfl
theorem guard70 : E.P.eqGuardType E.P.depth 70 = false := by kernel_rfl
theorem szO71 : E.P.szO 71 = some 1 := by kernel_rfl
theorem rowO71 : E.P.rowO 71 = some false := by kernel_rfl
theorem zeroL71 : E.P.zeroL 71 = some [AVal.sc Value.nilFunc] := by kernel_rfl
theorem isStr71 : E.P.isStr 71 = false := by kernel_rfl
theorem isInt71 : E.P.isInt 71 = false := by kernel_rfl
theorem und71 : (E.P.underlying 71).isSome = true := by kernel_rfl
theorem guard71 : E.P.eqGuardType E.P.depth 71 = false := by kernel_rfl
theorem szO72 : E.P.szO 72 = some 1 := by kernel_rfl
theorem rowO72 : E.P.rowO 72 = some false := by kernel_rfl
theorem zeroL72 : E.P.zeroL 72 = some [AVal.sc (Value.tuple { toList := [Value.int IntKind.i64 (0), Value.int IntKind.i64 (0)] })] := by kernel_rfl
theorem isStr72 : E.P.isStr 72 = false := by kernel_rfl
theorem isInt72 : E.P.isInt 72 = false := by kernel_rfl
theorem und72 : (E.P.underlying 72).isSome = true := by kernel_rfl
theorem guard72 : E.P.eqGuardType E.P.depth 72 = false := by kernel_rfl
theorem szO73 : E.P.szO 73 = some 1 := by kernel_rfl
theorem rowO73 : E.P.rowO 73 = some false := by kernel_rfl
theorem zeroL73 : E.P.zeroL 73 = some [AVal.sc Value.nilFunc] := by kernel_rfl
theorem isStr73 : E.P.isStr 73 = false := by kernel_rfl
theorem isInt73 : E.P.isInt 73 = false := by kernel_rfl
theorem und73 : (E.P.underlying 73).isSome = true := by kernel_rfl
theorem guard73 : E.P.eqGuardType E.P.depth 73 = false := by kernel_rfl
theorem szO74 : E.P.szO 74 = some 1 := by kernel_rfl
theorem rowO74 : E.P.rowO 74 = some false := by kernel_rfl
theorem zeroL74 : E.P.zeroL 74 = some [AVal.sc (Value.slice none 0 0)] := by kernel_rfl
theorem elemO74 : E.P.elemO 74 = some 1 := by kernel_rfl
theorem elemBytes74 : E.P.elemBytes 74 = some 8 := by kernel_rfl
theorem elemZero74 : E.P.elemZero 74 = some [AVal.int IntKind.u64 (0)] := by kernel_rfl
theorem isStr74 : E.P.isStr 74 = false := by kernel_rfl
theorem isInt74 : E.P.isInt 74 = false := by kernel_rfl
theorem und74 : (E.P.underlying 74).isSome = true := by kernel_rfl
theorem guard74 : E.P.eqGuardType E.P.depth 74 = false := by kernel_rfl
theorem szO75 : E.P.szO 75 = some 1 := by kernel_rfl
theorem rowO75 : E.P.rowO 75 = some false := by kernel_rfl
theorem zeroL75 : E.P.zeroL 75 = some [AVal.sc Value.nilFunc] := by kernel_rfl
theorem isStr75 : E.P.isStr 75 = false := by kernel_rfl
theorem isInt75 : E.P.isInt 75 = false := by kernel_rfl
theorem und75 : (E.P.underlying 75).isSome = true := by kernel_rfl
theorem guard75 : E.P.eqGuardType E.P.depth 75 = false := by kernel_rfl
theorem szO76 : E.P.szO 76 = some 1 := by kernel_rfl
theorem rowO76 : E.P.rowO 76 = some false := by kernel_rfl
theorem zeroL76 : E.P.zeroL 76 = some [AVal.sc Value.nilFunc] := by kernel_rfl
theorem isStr76 : E.P.isStr 76 = false := by kernel_rfl
theorem isInt76 : E.P.isInt 76 = false := by kernel_rfl
theorem und76 : (E.P.underlying 76).isSome = true := by kernel_rfl
theorem guard76 : E.P.eqGuardType E.P.depth 76 = false := by kernel_rfl
theorem szO77 : E.P.szO 77 = some 1 := by kernel_rfl
theorem rowO77 : E.P.rowO 77 = some false := by kernel_rfl
theorem zeroL77 : E.P.zeroL 77 = some [AVal.sc Value.nilFunc] := by kernel_rfl
theorem isStr77 : E.P.isStr 77 = false := by kernel_rfl
theorem isInt77 : E.P.isInt 77 = false := by kernel_rfl
theorem und77 : (E.P.underlying 77).isSome = true := by kernel_rfl
theorem guard77 : E.P.eqGuardType E.P.depth 77 = false := by kernel_rfl
theorem szO78 : E.P.szO 78 = some 1 := by kernel_rfl
theorem rowO78 : E.P.rowO 78 = some false := by kernel_rfl
theorem zeroL78 : E.P.zeroL 78 = some [AVal.sc Value.nilFunc] := by kernel_rfl
theorem isStr78 : E.P.isStr 78 = false := by kernel_rfl
theorem isInt78 : E.P.isInt 78 = false := by kernel_rfl
theorem und78 : (E.P.underlying 78).isSome = true := by kernel_rfl
theorem guard78 : E.P.eqGuardType E.P.depth 78 = false := by kernel_rfl
theorem szO79 : E.P.szO 79 = some 4 := by kernel_rfl
theorem rowO79 : E.P.rowO 79 = some true := by kernel_rfl
theorem zeroL79 : E.P.zeroL 79 = some [AVal.sc (Value.pointer none), AVal.sc (Value.pointer none), AVal.sc (Value.pointer none), AVal.str []] := by kernel_rfl
theorem isStr79 : E.P.isStr 79 = false := by kernel_rfl
theorem isInt79 : E.P.isInt 79 = false := by kernel_rfl
theorem isComp79 : E.P.isComp 79 = true := by kernel_rfl
theorem und79 : (E.P.underlying 79).isSome = true := by kernel_rfl
theorem guard79 : E.P.eqGuardType E.P.depth 79 = false := by kernel_rfl
theorem fldO79_0 : E.P.fldO 79 0 = some (0, 1, false) := by kernel_rfl
theorem fldO79_1 : E.P.fldO 79 1 = some (1, 1, false) := by kernel_rfl
theorem fldO79_2 : E.P.fldO 79 2 = some (2, 1, false) := by kernel_rfl
theorem fldO79_3 : E.P.fldO 79 3 = some (3, 1, false) := by kernel_rfl
theorem places79_0 : E.P.places 79 0 = some (0, 1) := by kernel_rfl
theorem places79_1 : E.P.places 79 1 = some (1, 1) := by kernel_rfl
theorem places79_2 : E.P.places 79 2 = some (2, 1) := by kernel_rfl
theorem places79_3 : E.P.places 79 3 = some (3, 1) := by kernel_rfl
theorem szO80 : E.P.szO 80 = some 4 := by kernel_rfl
theorem rowO80 : E.P.rowO 80 = some true := by kernel_rfl
theorem zeroL80 : E.P.zeroL 80 = some [AVal.sc (Value.pointer none), AVal.sc (Value.pointer none), AVal.sc (Value.pointer none), AVal.str []] := by kernel_rfl
theorem isStr80 : E.P.isStr 80 = false := by kernel_rfl
theorem isInt80 : E.P.isInt 80 = false := by kernel_rfl
theorem isComp80 : E.P.isComp 80 = true := by kernel_rfl
theorem und80 : (E.P.underlying 80).isSome = true := by kernel_rfl
theorem guard80 : E.P.eqGuardType E.P.depth 80 = false := by kernel_rfl
theorem fldO80_0 : E.P.fldO 80 0 = some (0, 1, false) := by kernel_rfl
theorem fldO80_1 : E.P.fldO 80 1 = some (1, 1, false) := by kernel_rfl
theorem fldO80_2 : E.P.fldO 80 2 = some (2, 1, false) := by kernel_rfl
theorem fldO80_3 : E.P.fldO 80 3 = some (3, 1, false) := by kernel_rfl
theorem places80_0 : E.P.places 80 0 = some (0, 1) := by kernel_rfl
theorem places80_1 : E.P.places 80 1 = some (1, 1) := by kernel_rfl
theorem places80_2 : E.P.places 80 2 = some (2, 1) := by kernel_rfl
theorem places80_3 : E.P.places 80 3 = some (3, 1) := by kernel_rfl
theorem szO81 : E.P.szO 81 = some 0 := by kernel_rfl
theorem rowO81 : E.P.rowO 81 = some true := by kernel_rfl
theorem zeroL81 : E.P.zeroL 81 = some [] := by kernel_rfl
theorem isStr81 : E.P.isStr 81 = false := by kernel_rfl
theorem isInt81 : E.P.isInt 81 = false := by kernel_rfl
theorem isComp81 : E.P.isComp 81 = true := by kernel_rfl
theorem arrO81 : E.P.arrO 81 = some (0, 1, false) := by kernel_rfl
theorem und81 : (E.P.underlying 81).isSome = true := by kernel_rfl
theorem guard81 : E.P.eqGuardType E.P.depth 81 = false := by kernel_rfl
theorem places81_0 : E.P.places 81 0 = some (0, 1) := by kernel_rfl
theorem places81_1 : E.P.places 81 1 = some (1, 1) := by kernel_rfl
theorem places81_2 : E.P.places 81 2 = some (2, 1) := by kernel_rfl
theorem places81_3 : E.P.places 81 3 = some (3, 1) := by kernel_rfl
theorem places81_4 : E.P.places 81 4 = some (4, 1) := by kernel_rfl
theorem places81_5 : E.P.places 81 5 = some (5, 1) := by kernel_rfl
theorem places81_6 : E.P.places 81 6 = some (6, 1) := by kernel_rfl
theorem places81_7 : E.P.places 81 7 = some (7, 1) := by kernel_rfl
theorem places81_8 : E.P.places 81 8 = some (8, 1) := by kernel_rfl
theorem places81_9 : E.P.places 81 9 = some (9, 1) := by kernel_rfl
theorem places81_10 : E.P.places 81 10 = some (10, 1) := by kernel_rfl
theorem places81_11 : E.P.places 81 11 = some (11, 1) := by kernel_rfl
theorem places81_12 : E.P.places 81 12 = some (12, 1) := by kernel_rfl
theorem places81_13 : E.P.places 81 13 = some (13, 1) := by kernel_rfl
theorem places81_14 : E.P.places 81 14 = some (14, 1) := by kernel_rfl
theorem places81_15 : E.P.places 81 15 = some (15, 1) := by kernel_rfl
theorem places81_16 : E.P.places 81 16 = some (16, 1) := by kernel_rfl
theorem places81_17 : E.P.places 81 17 = some (17, 1) := by kernel_rfl
theorem places81_18 : E.P.places 81 18 = some (18, 1) := by kernel_rfl
theorem places81_19 : E.P.places 81 19 = some (19, 1) := by kernel_rfl
theorem places81_20 : E.P.places 81 20 = some (20, 1) := by kernel_rfl
theorem places81_21 : E.P.places 81 21 = some (21, 1) := by kernel_rfl
theorem places81_22 : E.P.places 81 22 = some (22, 1) := by kernel_rfl
theorem places81_23 : E.P.places 81 23 = some (23, 1) := by kernel_rfl
theorem places81_24 : E.P.places 81 24 = some (24, 1) := by kernel_rfl
theorem places81_25 : E.P.places 81 25 = some (25, 1) := by kernel_rfl
theorem places81_26 : E.P.places 81 26 = some (26, 1) := by kernel_rfl
theorem places81_27 : E.P.places 81 27 = some (27, 1) := by kernel_rfl
theorem places81_28 : E.P.places 81 28 = some (28, 1) := by kernel_rfl
theorem places81_29 : E.P.places 81 29 = some (29, 1) := by kernel_rfl
theorem places81_30 : E.P.places 81 30 = some (30, 1) := by kernel_rfl
theorem places81_31 : E.P.places 81 31 = some (31, 1) := by kernel_rfl
theorem places81_32 : E.P.places 81 32 = some (32, 1) := by kernel_rfl
theorem places81_33 : E.P.places 81 33 = some (33, 1) := by kernel_rfl
theorem places81_34 : E.P.places 81 34 = some (34, 1) := by kernel_rfl
theorem places81_35 : E.P.places 81 35 = some (35, 1) := by kernel_rfl
theorem places81_36 : E.P.places 81 36 = some (36, 1) := by kernel_rfl
theorem places81_37 : E.P.places 81 37 = some (37, 1) := by kernel_rfl
theorem places81_38 : E.P.places 81 38 = some (38, 1) := by kernel_rfl
theorem places81_39 : E.P.places 81 39 = some (39, 1) := by kernel_rfl
theorem places81_40 : E.P.places 81 40 = some (40, 1) := by kernel_rfl
theorem places81_41 : E.P.places 81 41 = some (41, 1) := by kernel_rfl
theorem places81_42 : E.P.places 81 42 = some (42, 1) := by kernel_rfl
theorem places81_43 : E.P.places 81 43 = some (43, 1) := by kernel_rfl
theorem places81_44 : E.P.places 81 44 = some (44, 1) := by kernel_rfl
theorem places81_45 : E.P.places 81 45 = some (45, 1) := by kernel_rfl
theorem places81_46 : E.P.places 81 46 = some (46, 1) := by kernel_rfl
theorem places81_47 : E.P.places 81 47 = some (47, 1) := by kernel_rfl
theorem places81_48 : E.P.places 81 48 = some (48, 1) := by kernel_rfl
theorem places81_49 : E.P.places 81 49 = some (49, 1) := by kernel_rfl
theorem places81_50 : E.P.places 81 50 = some (50, 1) := by kernel_rfl
theorem places81_51 : E.P.places 81 51 = some (51, 1) := by kernel_rfl
theorem places81_52 : E.P.places 81 52 = some (52, 1) := by kernel_rfl
theorem places81_53 : E.P.places 81 53 = some (53, 1) := by kernel_rfl
theorem places81_54 : E.P.places 81 54 = some (54, 1) := by kernel_rfl
theorem places81_55 : E.P.places 81 55 = some (55, 1) := by kernel_rfl
theorem places81_56 : E.P.places 81 56 = some (56, 1) := by kernel_rfl
theorem places81_57 : E.P.places 81 57 = some (57, 1) := by kernel_rfl
theorem places81_58 : E.P.places 81 58 = some (58, 1) := by kernel_rfl
theorem places81_59 : E.P.places 81 59 = some (59, 1) := by kernel_rfl
theorem places81_60 : E.P.places 81 60 = some (60, 1) := by kernel_rfl
theorem places81_61 : E.P.places 81 61 = some (61, 1) := by kernel_rfl
theorem places81_62 : E.P.places 81 62 = some (62, 1) := by kernel_rfl
theorem places81_63 : E.P.places 81 63 = some (63, 1) := by kernel_rfl
theorem places81_64 : E.P.places 81 64 = some (64, 1) := by kernel_rfl
theorem places81_65 : E.P.places 81 65 = some (65, 1) := by kernel_rfl
theorem places81_66 : E.P.places 81 66 = some (66, 1) := by kernel_rfl
theorem places81_67 : E.P.places 81 67 = some (67, 1) := by kernel_rfl
theorem places81_68 : E.P.places 81 68 = some (68, 1) := by kernel_rfl
theorem places81_69 : E.P.places 81 69 = some (69, 1) := by kernel_rfl
theorem szO82 : E.P.szO 82 = some 0 := by kernel_rfl
theorem rowO82 : E.P.rowO 82 = some true := by kernel_rfl
theorem zeroL82 : E.P.zeroL 82 = some [] := by kernel_rfl
theorem isStr82 : E.P.isStr 82 = false := by kernel_rfl
theorem isInt82 : E.P.isInt 82 = false := by kernel_rfl
theorem isComp82 : E.P.isComp 82 = true := by kernel_rfl
theorem und82 : (E.P.underlying 82).isSome = true := by kernel_rfl
theorem guard82 : E.P.eqGuardType E.P.depth 82 = false := by kernel_rfl
theorem places82_0 : E.P.places 82 0 = some (0, 0) := by kernel_rfl
theorem szO83 : E.P.szO 83 = some 0 := by kernel_rfl
theorem rowO83 : E.P.rowO 83 = some true := by kernel_rfl
theorem zeroL83 : E.P.zeroL 83 = some [] := by kernel_rfl
theorem isStr83 : E.P.isStr 83 = false := by kernel_rfl
theorem isInt83 : E.P.isInt 83 = false := by kernel_rfl
theorem isComp83 : E.P.isComp 83 = true := by kernel_rfl
theorem und83 : (E.P.underlying 83).isSome = true := by kernel_rfl
theorem guard83 : E.P.eqGuardType E.P.depth 83 = false := by kernel_rfl
theorem places83_0 : E.P.places 83 0 = some (0, 0) := by kernel_rfl
theorem szO84 : E.P.szO 84 = some 1 := by kernel_rfl
theorem rowO84 : E.P.rowO 84 = some false := by kernel_rfl
theorem zeroL84 : E.P.zeroL 84 = some [AVal.sc Value.nilFunc] := by kernel_rfl
theorem isStr84 : E.P.isStr 84 = false := by kernel_rfl
theorem isInt84 : E.P.isInt 84 = false := by kernel_rfl
theorem und84 : (E.P.underlying 84).isSome = true := by kernel_rfl
theorem guard84 : E.P.eqGuardType E.P.depth 84 = false := by kernel_rfl
theorem szO85 : E.P.szO 85 = some 1 := by kernel_rfl
theorem rowO85 : E.P.rowO 85 = some false := by kernel_rfl
theorem zeroL85 : E.P.zeroL 85 = some [AVal.int IntKind.u8 (0)] := by kernel_rfl
theorem isStr85 : E.P.isStr 85 = false := by kernel_rfl
theorem isInt85 : E.P.isInt 85 = true := by kernel_rfl
theorem kindO85 : kindO E.P 85 = some IntKind.u8 := by kernel_rfl
theorem und85 : (E.P.underlying 85).isSome = true := by kernel_rfl
theorem guard85 : E.P.eqGuardType E.P.depth 85 = false := by kernel_rfl
theorem szO86 : E.P.szO 86 = some 1 := by kernel_rfl
theorem rowO86 : E.P.rowO 86 = some false := by kernel_rfl
theorem zeroL86 : E.P.zeroL 86 = some [AVal.int IntKind.u8 (0)] := by kernel_rfl
theorem isStr86 : E.P.isStr 86 = false := by kernel_rfl
theorem isInt86 : E.P.isInt 86 = true := by kernel_rfl
theorem kindO86 : kindO E.P 86 = some IntKind.u8 := by kernel_rfl
theorem und86 : (E.P.underlying 86).isSome = true := by kernel_rfl
theorem guard86 : E.P.eqGuardType E.P.depth 86 = false := by kernel_rfl
theorem szO87 : E.P.szO 87 = some 1 := by kernel_rfl
theorem rowO87 : E.P.rowO 87 = some false := by kernel_rfl
theorem zeroL87 : E.P.zeroL 87 = some [AVal.sc Value.nilFunc] := by kernel_rfl
theorem isStr87 : E.P.isStr 87 = false := by kernel_rfl
theorem isInt87 : E.P.isInt 87 = false := by kernel_rfl
theorem und87 : (E.P.underlying 87).isSome = true := by kernel_rfl
theorem guard87 : E.P.eqGuardType E.P.depth 87 = false := by kernel_rfl
theorem szO88 : E.P.szO 88 = some 1 := by kernel_rfl
theorem rowO88 : E.P.rowO 88 = some false := by kernel_rfl
theorem zeroL88 : E.P.zeroL 88 = some [AVal.sc (Value.pointer none)] := by kernel_rfl
theorem isStr88 : E.P.isStr 88 = false := by kernel_rfl
theorem isInt88 : E.P.isInt 88 = false := by kernel_rfl
theorem ptrT88 : ptrT E.P 88 = true := by kernel_rfl
theorem und88 : (E.P.underlying 88).isSome = true := by kernel_rfl
theorem guard88 : E.P.eqGuardType E.P.depth 88 = false := by kernel_rfl
theorem szO89 : E.P.szO 89 = some 1 := by kernel_rfl
theorem rowO89 : E.P.rowO 89 = some false := by kernel_rfl
theorem zeroL89 : E.P.zeroL 89 = some [AVal.int IntKind.i32 (0)] := by kernel_rfl
theorem isStr89 : E.P.isStr 89 = false := by kernel_rfl
theorem isInt89 : E.P.isInt 89 = true := by kernel_rfl
theorem kindO89 : kindO E.P 89 = some IntKind.i32 := by kernel_rfl
theorem und89 : (E.P.underlying 89).isSome = true := by kernel_rfl
theorem guard89 : E.P.eqGuardType E.P.depth 89 = false := by kernel_rfl
theorem szO90 : E.P.szO 90 = some 1 := by kernel_rfl
theorem rowO90 : E.P.rowO 90 = some false := by kernel_rfl
theorem zeroL90 : E.P.zeroL 90 = some [AVal.int IntKind.i32 (0)] := by kernel_rfl
theorem isStr90 : E.P.isStr 90 = false := by kernel_rfl
theorem isInt90 : E.P.isInt 90 = true := by kernel_rfl
theorem kindO90 : kindO E.P 90 = some IntKind.i32 := by kernel_rfl
theorem und90 : (E.P.underlying 90).isSome = true := by kernel_rfl
theorem guard90 : E.P.eqGuardType E.P.depth 90 = false := by kernel_rfl
theorem szO91 : E.P.szO 91 = some 11 := by kernel_rfl
theorem rowO91 : E.P.rowO 91 = some true := by kernel_rfl
theorem zeroL91 : E.P.zeroL 91 = some [AVal.int IntKind.u64 (0), AVal.int IntKind.u64 (0), AVal.int IntKind.u32 (0), AVal.int IntKind.u8 (0), AVal.int IntKind.u8 (0), AVal.int IntKind.u8 (0), AVal.int IntKind.u8 (0), AVal.sc Value.nilFunc, AVal.sc (Value.pointer none), AVal.int IntKind.i32 (0), AVal.int IntKind.i32 (0)] := by kernel_rfl
theorem isStr91 : E.P.isStr 91 = false := by kernel_rfl
theorem isInt91 : E.P.isInt 91 = false := by kernel_rfl
theorem isComp91 : E.P.isComp 91 = true := by kernel_rfl
theorem und91 : (E.P.underlying 91).isSome = true := by kernel_rfl
theorem guard91 : E.P.eqGuardType E.P.depth 91 = false := by kernel_rfl
theorem fldO91_0 : E.P.fldO 91 0 = some (0, 1, false) := by kernel_rfl
theorem fldO91_1 : E.P.fldO 91 1 = some (1, 1, false) := by kernel_rfl
theorem fldO91_2 : E.P.fldO 91 2 = some (2, 1, false) := by kernel_rfl
theorem fldO91_3 : E.P.fldO 91 3 = some (3, 1, false) := by kernel_rfl
theorem fldO91_4 : E.P.fldO 91 4 = some (4, 1, false) := by kernel_rfl
theorem fldO91_5 : E.P.fldO 91 5 = some (5, 1, false) := by kernel_rfl
theorem fldO91_6 : E.P.fldO 91 6 = some (6, 1, false) := by kernel_rfl
theorem fldO91_7 : E.P.fldO 91 7 = some (7, 1, false) := by kernel_rfl
theorem fldO91_8 : E.P.fldO 91 8 = some (8, 1, false) := by kernel_rfl
theorem fldO91_9 : E.P.fldO 91 9 = some (9, 1, false) := by kernel_rfl
theorem fldO91_10 : E.P.fldO 91 10 = some (10, 1, false) := by kernel_rfl
theorem places91_0 : E.P.places 91 0 = some (0, 1) := by kernel_rfl
theorem places91_1 : E.P.places 91 1 = some (1, 1) := by kernel_rfl
theorem places91_2 : E.P.places 91 2 = some (2, 1) := by kernel_rfl
theorem places91_3 : E.P.places 91 3 = some (3, 1) := by kernel_rfl
theorem places91_4 : E.P.places 91 4 = some (4, 1) := by kernel_rfl
theorem places91_5 : E.P.places 91 5 = some (5, 1) := by kernel_rfl
theorem places91_6 : E.P.places 91 6 = some (6, 1) := by kernel_rfl
theorem places91_7 : E.P.places 91 7 = some (7, 1) := by kernel_rfl
theorem places91_8 : E.P.places 91 8 = some (8, 1) := by kernel_rfl
theorem places91_9 : E.P.places 91 9 = some (9, 1) := by kernel_rfl
theorem places91_10 : E.P.places 91 10 = some (10, 1) := by kernel_rfl
theorem szO92 : E.P.szO 92 = some 11 := by kernel_rfl
theorem rowO92 : E.P.rowO 92 = some true := by kernel_rfl
theorem zeroL92 : E.P.zeroL 92 = some [AVal.int IntKind.u64 (0), AVal.int IntKind.u64 (0), AVal.int IntKind.u32 (0), AVal.int IntKind.u8 (0), AVal.int IntKind.u8 (0), AVal.int IntKind.u8 (0), AVal.int IntKind.u8 (0), AVal.sc Value.nilFunc, AVal.sc (Value.pointer none), AVal.int IntKind.i32 (0), AVal.int IntKind.i32 (0)] := by kernel_rfl
theorem isStr92 : E.P.isStr 92 = false := by kernel_rfl
theorem isInt92 : E.P.isInt 92 = false := by kernel_rfl
theorem isComp92 : E.P.isComp 92 = true := by kernel_rfl
theorem und92 : (E.P.underlying 92).isSome = true := by kernel_rfl
theorem guard92 : E.P.eqGuardType E.P.depth 92 = false := by kernel_rfl
theorem fldO92_0 : E.P.fldO 92 0 = some (0, 1, false) := by kernel_rfl
theorem fldO92_1 : E.P.fldO 92 1 = some (1, 1, false) := by kernel_rfl
theorem fldO92_2 : E.P.fldO 92 2 = some (2, 1, false) := by kernel_rfl
theorem fldO92_3 : E.P.fldO 92 3 = some (3, 1, false) := by kernel_rfl
theorem fldO92_4 : E.P.fldO 92 4 = some (4, 1, false) := by kernel_rfl
theorem fldO92_5 : E.P.fldO 92 5 = some (5, 1, false) := by kernel_rfl
theorem fldO92_6 : E.P.fldO 92 6 = some (6, 1, false) := by kernel_rfl
theorem fldO92_7 : E.P.fldO 92 7 = some (7, 1, false) := by kernel_rfl
theorem fldO92_8 : E.P.fldO 92 8 = some (8, 1, false) := by kernel_rfl
theorem fldO92_9 : E.P.fldO 92 9 = some (9, 1, false) := by kernel_rfl
theorem fldO92_10 : E.P.fldO 92 10 = some (10, 1, false) := by kernel_rfl
theorem places92_0 : E.P.places 92 0 = some (0, 1) := by kernel_rfl
theorem places92_1 : E.P.places 92 1 = some (1, 1) := by kernel_rfl
theorem places92_2 : E.P.places 92 2 = some (2, 1) := by kernel_rfl
theorem places92_3 : E.P.places 92 3 = some (3, 1) := by kernel_rfl
theorem places92_4 : E.P.places 92 4 = some (4, 1) := by kernel_rfl
theorem places92_5 : E.P.places 92 5 = some (5, 1) := by kernel_rfl
theorem places92_6 : E.P.places 92 6 = some (6, 1) := by kernel_rfl
theorem places92_7 : E.P.places 92 7 = some (7, 1) := by kernel_rfl
theorem places92_8 : E.P.places 92 8 = some (8, 1) := by kernel_rfl
theorem places92_9 : E.P.places 92 9 = some (9, 1) := by kernel_rfl
theorem places92_10 : E.P.places 92 10 = some (10, 1) := by kernel_rfl
theorem szO93 : E.P.szO 93 = some 1 := by kernel_rfl
theorem rowO93 : E.P.rowO 93 = some false := by kernel_rfl
theorem zeroL93 : E.P.zeroL 93 = some [AVal.sc (Value.pointer none)] := by kernel_rfl
theorem isStr93 : E.P.isStr 93 = false := by kernel_rfl
theorem isInt93 : E.P.isInt 93 = false := by kernel_rfl
theorem und93 : (E.P.underlying 93).isSome = true := by kernel_rfl
theorem guard93 : E.P.eqGuardType E.P.depth 93 = false := by kernel_rfl
theorem goFn2 : E.P.goFn 2 = true := by kernel_rfl
theorem parM2 : M.par 2 = [] := by kernel_rfl
theorem resM2 : M.res 2 = [] := by kernel_rfl
theorem parK2 : E.P.parK 2 = [] := by kernel_rfl
theorem resK2 : E.P.resK 2 = [] := by kernel_rfl
theorem goFn3 : E.P.goFn 3 = true := by kernel_rfl
theorem parM3 : M.par 3 = [] := by kernel_rfl
theorem resM3 : M.res 3 = [] := by kernel_rfl
theorem parK3 : E.P.parK 3 = [[2], [2], [2], [2], [0]] := by kernel_rfl
theorem resK3 : E.P.resK 3 = [[0]] := by kernel_rfl
theorem goFn4 : E.P.goFn 4 = true := by kernel_rfl
theorem parM4 : M.par 4 = [] := by kernel_rfl
theorem resM4 : M.res 4 = [] := by kernel_rfl
theorem parK4 : E.P.parK 4 = [[2], [2], [2], [2]] := by kernel_rfl
theorem resK4 : E.P.resK 4 = [[0]] := by kernel_rfl
theorem goFn5 : E.P.goFn 5 = true := by kernel_rfl
theorem parM5 : M.par 5 = [] := by kernel_rfl
theorem resM5 : M.res 5 = [] := by kernel_rfl
theorem parK5 : E.P.parK 5 = [[0, 0, 0, 0, 0, 0, 0, 0, 0, 0, 0, 0, 0, 0, 0, 0, 0, 0, 0, 0, 0, 0, 0, 0, 0, 0, 0, 0, 0, 0, 0, 0], [0], [2], [2], [0], [0]] := by kernel_rfl
theorem resK5 : E.P.resK 5 = [[0]] := by kernel_rfl
theorem goFn6 : E.P.goFn 6 = true := by kernel_rfl
theorem parM6 : M.par 6 = [] := by kernel_rfl
theorem resM6 : M.res 6 = [] := by kernel_rfl
theorem parK6 : E.P.parK 6 = [] := by kernel_rfl
theorem resK6 : E.P.resK 6 = [[0]] := by kernel_rfl
theorem goFn7 : E.P.goFn 7 = true := by kernel_rfl
theorem parM7 : M.par 7 = [] := by kernel_rfl
theorem resM7 : M.res 7 = [1] := by kernel_rfl
theorem parK7 : E.P.parK 7 = [[2], [2], [2], [2]] := by kernel_rfl
theorem resK7 : E.P.resK 7 = [[2], [0]] := by kernel_rfl
theorem goFn8 : E.P.goFn 8 = true := by kernel_rfl
theorem parM8 : M.par 8 = [] := by kernel_rfl
theorem resM8 : M.res 8 = [] := by kernel_rfl
theorem parK8 : E.P.parK 8 = [[2], [2], [2], [2]] := by kernel_rfl
theorem resK8 : E.P.resK 8 = [[2], [0]] := by kernel_rfl
theorem goFn9 : E.P.goFn 9 = true := by kernel_rfl
theorem parM9 : M.par 9 = [] := by kernel_rfl
theorem resM9 : M.res 9 = [] := by kernel_rfl
theorem parK9 : E.P.parK 9 = [[0]] := by kernel_rfl
theorem resK9 : E.P.resK 9 = [[2]] := by kernel_rfl
theorem goFn10 : E.P.goFn 10 = true := by kernel_rfl
theorem parM10 : M.par 10 = [] := by kernel_rfl
theorem resM10 : M.res 10 = [] := by kernel_rfl
theorem parK10 : E.P.parK 10 = [[0]] := by kernel_rfl
theorem resK10 : E.P.resK 10 = [[2]] := by kernel_rfl
theorem goFn11 : E.P.goFn 11 = true := by kernel_rfl
theorem parM11 : M.par 11 = [] := by kernel_rfl
theorem resM11 : M.res 11 = [1] := by kernel_rfl
theorem parK11 : E.P.parK 11 = [[2], [2], [2], [2]] := by kernel_rfl
theorem resK11 : E.P.resK 11 = [[2], [0]] := by kernel_rfl
theorem goFn12 : E.P.goFn 12 = true := by kernel_rfl
theorem parM12 : M.par 12 = [] := by kernel_rfl
theorem resM12 : M.res 12 = [] := by kernel_rfl
theorem parK12 : E.P.parK 12 = [[2], [2], [2], [2]] := by kernel_rfl
theorem resK12 : E.P.resK 12 = [[2], [0]] := by kernel_rfl
theorem goFn13 : E.P.goFn 13 = true := by kernel_rfl
theorem parM13 : M.par 13 = [] := by kernel_rfl
theorem resM13 : M.res 13 = [] := by kernel_rfl
theorem parK13 : E.P.parK 13 = [[2], [2]] := by kernel_rfl
theorem resK13 : E.P.resK 13 = [[0]] := by kernel_rfl
theorem goFn14 : E.P.goFn 14 = true := by kernel_rfl
theorem parM14 : M.par 14 = [] := by kernel_rfl
theorem resM14 : M.res 14 = [1] := by kernel_rfl
theorem parK14 : E.P.parK 14 = [[2], [2], [0], [2]] := by kernel_rfl
theorem resK14 : E.P.resK 14 = [[2], [0]] := by kernel_rfl
theorem goFn15 : E.P.goFn 15 = true := by kernel_rfl
theorem parM15 : M.par 15 = [] := by kernel_rfl
theorem resM15 : M.res 15 = [1] := by kernel_rfl
theorem parK15 : E.P.parK 15 = [[2], [2], [2], [2]] := by kernel_rfl
theorem resK15 : E.P.resK 15 = [[2]] := by kernel_rfl
theorem goFn16 : E.P.goFn 16 = true := by kernel_rfl
theorem parM16 : M.par 16 = [] := by kernel_rfl
theorem resM16 : M.res 16 = [] := by kernel_rfl
theorem parK16 : E.P.parK 16 = [[2], [2], [0], [2]] := by kernel_rfl
theorem resK16 : E.P.resK 16 = [[2], [0]] := by kernel_rfl
theorem goFn17 : E.P.goFn 17 = true := by kernel_rfl
theorem parM17 : M.par 17 = [] := by kernel_rfl
theorem resM17 : M.res 17 = [] := by kernel_rfl
theorem parK17 : E.P.parK 17 = [[2], [2], [2], [2]] := by kernel_rfl
theorem resK17 : E.P.resK 17 = [[2]] := by kernel_rfl
theorem goFn18 : E.P.goFn 18 = true := by kernel_rfl
theorem parM18 : M.par 18 = [1] := by kernel_rfl
theorem resM18 : M.res 18 = [1] := by kernel_rfl
theorem parK18 : E.P.parK 18 = [[2], [0], [0]] := by kernel_rfl
theorem resK18 : E.P.resK 18 = [[2]] := by kernel_rfl
theorem goFn19 : E.P.goFn 19 = true := by kernel_rfl
theorem parM19 : M.par 19 = [] := by kernel_rfl
theorem resM19 : M.res 19 = [1] := by kernel_rfl
theorem parK19 : E.P.parK 19 = [[2], [0], [0]] := by kernel_rfl
theorem resK19 : E.P.resK 19 = [[2]] := by kernel_rfl
theorem goFn20 : E.P.goFn 20 = true := by kernel_rfl
theorem parM20 : M.par 20 = [] := by kernel_rfl
theorem resM20 : M.res 20 = [] := by kernel_rfl
theorem parK20 : E.P.parK 20 = [[2], [2], [0]] := by kernel_rfl
theorem resK20 : E.P.resK 20 = [[2], [0]] := by kernel_rfl
theorem goFn21 : E.P.goFn 21 = true := by kernel_rfl
theorem parM21 : M.par 21 = [1] := by kernel_rfl
theorem resM21 : M.res 21 = [1] := by kernel_rfl
theorem parK21 : E.P.parK 21 = [[2]] := by kernel_rfl
theorem resK21 : E.P.resK 21 = [[2]] := by kernel_rfl
theorem goFn22 : E.P.goFn 22 = true := by kernel_rfl
theorem parM22 : M.par 22 = [] := by kernel_rfl
theorem resM22 : M.res 22 = [] := by kernel_rfl
theorem parK22 : E.P.parK 22 = [[2], [2], [2]] := by kernel_rfl
theorem resK22 : E.P.resK 22 = [[0]] := by kernel_rfl
theorem goFn23 : E.P.goFn 23 = true := by kernel_rfl
theorem parM23 : M.par 23 = [1] := by kernel_rfl
theorem resM23 : M.res 23 = [1] := by kernel_rfl
theorem parK23 : E.P.parK 23 = [[2], [0]] := by kernel_rfl
theorem resK23 : E.P.resK 23 = [[2]] := by kernel_rfl
theorem goFn24 : E.P.goFn 24 = true := by kernel_rfl
theorem parM24 : M.par 24 = [] := by kernel_rfl
theorem resM24 : M.res 24 = [] := by kernel_rfl
theorem parK24 : E.P.parK 24 = [[2], [2]] := by kernel_rfl
theorem resK24 : E.P.resK 24 = [[0]] := by kernel_rfl
theorem goFn25 : E.P.goFn 25 = true := by kernel_rfl
theorem parM25 : M.par 25 = [] := by kernel_rfl
theorem resM25 : M.res 25 = [] := by kernel_rfl
theorem parK25 : E.P.parK 25 = [[2], [2], [0]] := by kernel_rfl
theorem resK25 : E.P.resK 25 = [[0, 0, 0, 0, 0, 0, 0, 0, 0, 0, 0, 0, 0, 0, 0, 0]] := by kernel_rfl
theorem goFn26 : E.P.goFn 26 = true := by kernel_rfl
theorem parM26 : M.par 26 = [] := by kernel_rfl
theorem resM26 : M.res 26 = [] := by kernel_rfl
theorem parK26 : E.P.parK 26 = [[0, 0, 0, 0, 0, 0, 0, 0, 0, 0, 0, 0, 0, 0, 0, 0]] := by kernel_rfl
theorem resK26 : E.P.resK 26 = [[0, 0, 0, 0, 0, 0, 0, 0, 0, 0, 0, 0, 0, 0, 0, 0, 0, 0, 0, 0, 0, 0, 0, 0, 0, 0, 0, 0, 0, 0, 0, 0, 0, 0, 0, 0, 0, 0, 0, 0, 0, 0, 0, 0, 0, 0, 0, 0, 0, 0, 0, 0, 0, 0, 0, 0, 0, 0, 0, 0, 0, 0, 0, 0]] := by kernel_rfl
theorem goFn27 : E.P.goFn 27 = true := by kernel_rfl
theorem parM27 : M.par 27 = [] := by kernel_rfl
theorem resM27 : M.res 27 = [1] := by kernel_rfl
theorem parK27 : E.P.parK 27 = [[2], [2]] := by kernel_rfl
theorem resK27 : E.P.resK 27 = [[2], [0]] := by kernel_rfl
theorem goFn28 : E.P.goFn 28 = true := by kernel_rfl
theorem parM28 : M.par 28 = [] := by kernel_rfl
theorem resM28 : M.res 28 = [] := by kernel_rfl
theorem parK28 : E.P.parK 28 = [[2], [2], [0]] := by kernel_rfl
theorem resK28 : E.P.resK 28 = [[2], [0]] := by kernel_rfl
theorem goFn29 : E.P.goFn 29 = true := by kernel_rfl
theorem parM29 : M.par 29 = [] := by kernel_rfl
theorem resM29 : M.res 29 = [1] := by kernel_rfl
theorem parK29 : E.P.parK 29 = [[2]] := by kernel_rfl
theorem resK29 : E.P.resK 29 = [[2]] := by kernel_rfl
theorem goFn30 : E.P.goFn 30 = true := by kernel_rfl
theorem parM30 : M.par 30 = [] := by kernel_rfl
theorem resM30 : M.res 30 = [] := by kernel_rfl
theorem parK30 : E.P.parK 30 = [[0]] := by kernel_rfl
theorem resK30 : E.P.resK 30 = [[2]] := by kernel_rfl
theorem goFn31 : E.P.goFn 31 = true := by kernel_rfl
theorem parM31 : M.par 31 = [] := by kernel_rfl
theorem resM31 : M.res 31 = [] := by kernel_rfl
theorem parK31 : E.P.parK 31 = [[2], [2]] := by kernel_rfl
theorem resK31 : E.P.resK 31 = [[2], [0]] := by kernel_rfl
theorem goFn32 : E.P.goFn 32 = true := by kernel_rfl
theorem parM32 : M.par 32 = [] := by kernel_rfl
theorem resM32 : M.res 32 = [] := by kernel_rfl
theorem parK32 : E.P.parK 32 = [[2], [2]] := by kernel_rfl
theorem resK32 : E.P.resK 32 = [[0]] := by kernel_rfl
theorem goFn33 : E.P.goFn 33 = true := by kernel_rfl
theorem parM33 : M.par 33 = [] := by kernel_rfl
theorem resM33 : M.res 33 = [] := by kernel_rfl
theorem parK33 : E.P.parK 33 = [[2]] := by kernel_rfl
theorem resK33 : E.P.resK 33 = [[0]] := by kernel_rfl
theorem goFn34 : E.P.goFn 34 = true := by kernel_rfl
theorem parM34 : M.par 34 = [] := by kernel_rfl
theorem resM34 : M.res 34 = [] := by kernel_rfl
theorem parK34 : E.P.parK 34 = [[0, 0, 0, 0, 0, 0, 0, 0, 0, 0, 0, 0, 0, 0, 0, 0]] := by kernel_rfl
theorem resK34 : E.P.resK 34 = [[0, 0, 0, 0, 0, 0, 0, 0, 0, 0, 0, 0, 0, 0, 0, 0]] := by kernel_rfl
theorem goFn35 : E.P.goFn 35 = true := by kernel_rfl
theorem parM35 : M.par 35 = [] := by kernel_rfl
theorem resM35 : M.res 35 = [] := by kernel_rfl
theorem parK35 : E.P.parK 35 = [[2]] := by kernel_rfl
theorem resK35 : E.P.resK 35 = [[0, 0, 0, 0, 0]] := by kernel_rfl
theorem goFn36 : E.P.goFn 36 = true := by kernel_rfl
theorem parM36 : M.par 36 = [] := by kernel_rfl
theorem resM36 : M.res 36 = [] := by kernel_rfl
theorem parK36 : E.P.parK 36 = [[2]] := by kernel_rfl
theorem resK36 : E.P.resK 36 = [[2]] := by kernel_rfl
theorem goFn37 : E.P.goFn 37 = true := by kernel_rfl
theorem parM37 : M.par 37 = [] := by kernel_rfl
theorem resM37 : M.res 37 = [] := by kernel_rfl
theorem parK37 : E.P.parK 37 = [[0, 0, 0, 0, 0], [0, 0, 0, 0, 0]] := by kernel_rfl
theorem resK37 : E.P.resK 37 = [[0, 0, 0, 0, 0]] := by kernel_rfl
theorem goFn38 : E.P.goFn 38 = true := by kernel_rfl
theorem parM38 : M.par 38 = [] := by kernel_rfl
theorem resM38 : M.res 38 = [] := by kernel_rfl
theorem parK38 : E.P.parK 38 = [[0, 0, 0, 0, 0]] := by kernel_rfl
theorem resK38 : E.P.resK 38 = [[0, 0, 0, 0, 0]] := by kernel_rfl
theorem goFn39 : E.P.goFn 39 = true := by kernel_rfl
theorem parM39 : M.par 39 = [] := by kernel_rfl
theorem resM39 : M.res 39 = [] := by kernel_rfl
theorem parK39 : E.P.parK 39 = [[0, 0, 0, 0, 0], [0, 0, 0, 0, 0]] := by kernel_rfl
theorem resK39 : E.P.resK 39 = [[0, 0, 0, 0, 0]] := by kernel_rfl
theorem goFn40 : E.P.goFn 40 = true := by kernel_rfl
theorem parM40 : M.par 40 = [] := by kernel_rfl
theorem resM40 : M.res 40 = [1] := by kernel_rfl
theorem parK40 : E.P.parK 40 = [[2], [2]] := by kernel_rfl
theorem resK40 : E.P.resK 40 = [[2]] := by kernel_rfl
theorem goFn41 : E.P.goFn 41 = true := by kernel_rfl
theorem parM41 : M.par 41 = [] := by kernel_rfl
theorem resM41 : M.res 41 = [] := by kernel_rfl
theorem parK41 : E.P.parK 41 = [[0, 0, 0, 0, 0]] := by kernel_rfl
theorem resK41 : E.P.resK 41 = [[2]] := by kernel_rfl
theorem goFn42 : E.P.goFn 42 = true := by kernel_rfl
theorem parM42 : M.par 42 = [] := by kernel_rfl
theorem resM42 : M.res 42 = [] := by kernel_rfl
theorem parK42 : E.P.parK 42 = [[0, 0, 0, 0, 0]] := by kernel_rfl
theorem resK42 : E.P.resK 42 = [[0, 0, 0, 0, 0]] := by kernel_rfl
theorem goFn43 : E.P.goFn 43 = true := by kernel_rfl
theorem parM43 : M.par 43 = [] := by kernel_rfl
theorem resM43 : M.res 43 = [] := by kernel_rfl
theorem parK43 : E.P.parK 43 = [[2]] := by kernel_rfl
theorem resK43 : E.P.resK 43 = [[0]] := by kernel_rfl
theorem goFn44 : E.P.goFn 44 = true := by kernel_rfl
theorem parM44 : M.par 44 = [] := by kernel_rfl
theorem resM44 : M.res 44 = [] := by kernel_rfl
theorem parK44 : E.P.parK 44 = [[0], [0], [0], [0]] := by kernel_rfl
theorem resK44 : E.P.resK 44 = [[0], [0], [0], [0]] := by kernel_rfl
theorem goFn45 : E.P.goFn 45 = true := by kernel_rfl
theorem parM45 : M.par 45 = [] := by kernel_rfl
theorem resM45 : M.res 45 = [1] := by kernel_rfl
theorem parK45 : E.P.parK 45 = [[2], [0]] := by kernel_rfl
theorem resK45 : E.P.resK 45 = [[2]] := by kernel_rfl
theorem goFn46 : E.P.goFn 46 = true := by kernel_rfl
theorem parM46 : M.par 46 = [] := by kernel_rfl
theorem resM46 : M.res 46 = [] := by kernel_rfl
theorem parK46 : E.P.parK 46 = [[2]] := by kernel_rfl
theorem resK46 : E.P.resK 46 = [[2]] := by kernel_rfl
theorem goFn47 : E.P.goFn 47 = true := by kernel_rfl
theorem parM47 : M.par 47 = [] := by kernel_rfl
theorem resM47 : M.res 47 = [] := by kernel_rfl
theorem parK47 : E.P.parK 47 = [[2], [2]] := by kernel_rfl
theorem resK47 : E.P.resK 47 = [[2]] := by kernel_rfl
theorem goFn48 : E.P.goFn 48 = true := by kernel_rfl
theorem parM48 : M.par 48 = [] := by kernel_rfl
theorem resM48 : M.res 48 = [] := by kernel_rfl
theorem parK48 : E.P.parK 48 = [[2]] := by kernel_rfl
theorem resK48 : E.P.resK 48 = [[2]] := by kernel_rfl
theorem goFn49 : E.P.goFn 49 = true := by kernel_rfl
theorem parM49 : M.par 49 = [] := by kernel_rfl
theorem resM49 : M.res 49 = [] := by kernel_rfl
theorem parK49 : E.P.parK 49 = [[2]] := by kernel_rfl
theorem resK49 : E.P.resK 49 = [[0]] := by kernel_rfl
theorem goFn50 : E.P.goFn 50 = true := by kernel_rfl
theorem parM50 : M.par 50 = [] := by kernel_rfl
theorem resM50 : M.res 50 = [] := by kernel_rfl
theorem parK50 : E.P.parK 50 = [[2], [2]] := by kernel_rfl
theorem resK50 : E.P.resK 50 = [[2]] := by kernel_rfl
theorem goFn51 : E.P.goFn 51 = true := by kernel_rfl
theorem parM51 : M.par 51 = [] := by kernel_rfl
theorem resM51 : M.res 51 = [] := by kernel_rfl
theorem parK51 : E.P.parK 51 = [[0, 0, 0, 0, 0, 0, 0, 0, 0, 0, 0, 0, 0, 0, 0, 0], [0], [0], [0], [0]] := by kernel_rfl
theorem resK51 : E.P.resK 51 = [[0, 0, 0, 0, 0, 0, 0, 0, 0, 0, 0, 0, 0, 0, 0, 0]] := by kernel_rfl
theorem goFn52 : E.P.goFn 52 = true := by kernel_rfl
theorem parM52 : M.par 52 = [] := by kernel_rfl
theorem resM52 : M.res 52 = [] := by kernel_rfl
theorem parK52 : E.P.parK 52 = [[0]] := by kernel_rfl
theorem resK52 : E.P.resK 52 = [[0], [0]] := by kernel_rfl
theorem goFn53 : E.P.goFn 53 = true := by kernel_rfl
theorem parM53 : M.par 53 = [] := by kernel_rfl
theorem resM53 : M.res 53 = [] := by kernel_rfl
theorem parK53 : E.P.parK 53 = [[0, 0, 0, 0, 0]] := by kernel_rfl
theorem resK53 : E.P.resK 53 = [[0, 0, 0, 0, 0]] := by kernel_rfl
theorem goFn54 : E.P.goFn 54 = true := by kernel_rfl
theorem parM54 : M.par 54 = [] := by kernel_rfl
theorem resM54 : M.res 54 = [] := by kernel_rfl
theorem parK54 : E.P.parK 54 = [[0], [0]] := by kernel_rfl
theorem resK54 : E.P.resK 54 = [[0]] := by kernel_rfl
theorem goFn55 : E.P.goFn 55 = true := by kernel_rfl
theorem parM55 : M.par 55 = [] := by kernel_rfl
theorem resM55 : M.res 55 = [1] := by kernel_rfl
theorem parK55 : E.P.parK 55 = [[2]] := by kernel_rfl
theorem resK55 : E.P.resK 55 = [[2]] := by kernel_rfl
theorem goFn56 : E.P.goFn 56 = true := by kernel_rfl
theorem parM56 : M.par 56 = [] := by kernel_rfl
theorem resM56 : M.res 56 = [] := by kernel_rfl
theorem parK56 : E.P.parK 56 = [[2]] := by kernel_rfl
theorem resK56 : E.P.resK 56 = [[2]] := by kernel_rfl
theorem goFn57 : E.P.goFn 57 = true := by kernel_rfl
theorem parM57 : M.par 57 = [] := by kernel_rfl
theorem resM57 : M.res 57 = [] := by kernel_rfl
theorem parK57 : E.P.parK 57 = [[2]] := by kernel_rfl
theorem resK57 : E.P.resK 57 = [[0]] := by kernel_rfl
theorem goFn58 : E.P.goFn 58 = true := by kernel_rfl
theorem parM58 : M.par 58 = [] := by kernel_rfl
theorem resM58 : M.res 58 = [] := by kernel_rfl
theorem parK58 : E.P.parK 58 = [[0], [0], [0], [0]] := by kernel_rfl
theorem resK58 : E.P.resK 58 = [[0], [0], [0], [0]] := by kernel_rfl
theorem goFn59 : E.P.goFn 59 = true := by kernel_rfl
theorem parM59 : M.par 59 = [] := by kernel_rfl
theorem resM59 : M.res 59 = [] := by kernel_rfl
theorem parK59 : E.P.parK 59 = [[0], [0]] := by kernel_rfl
theorem resK59 : E.P.resK 59 = [[0]] := by kernel_rfl
theorem locM2 : M.loc 2 = 1 := by kernel_rfl
theorem locM3 : M.loc 3 = 4722366482865350213632 := by kernel_rfl
theorem locM4 : M.loc 4 = 2305843008139943936 := by kernel_rfl
theorem locM5 : M.loc 5 = 1266412660041370068631857659904 := by kernel_rfl
theorem locM6 : M.loc 6 = 288230376151711552 := by kernel_rfl
theorem locM7 : M.loc 7 = 35184338460672 := by kernel_rfl
theorem locM8 : M.loc 8 = 549486850048 := by kernel_rfl
theorem locM9 : M.loc 9 = 56 := by kernel_rfl
theorem locM10 : M.loc 10 = 56 := by kernel_rfl
theorem locM11 : M.loc 11 = 4575657221407870976 := by kernel_rfl
theorem locM12 : M.loc 12 = 34909491820544 := by kernel_rfl
theorem locM13 : M.loc 13 = 8160 := by kernel_rfl
theorem locM14 : M.loc 14 = 37778923979457716224000 := by kernel_rfl
theorem locM15 : M.loc 15 = 2251799813678080 := by kernel_rfl
theorem locM16 : M.loc 16 = 36893487579407564800 := by kernel_rfl
theorem locM17 : M.loc 17 = 8796093015040 := by kernel_rfl
theorem locM18 : M.loc 18 = 4294729472 := by kernel_rfl
theorem locM19 : M.loc 19 = 70351560080384 := by kernel_rfl
theorem locM20 : M.loc 20 = 2092544 := by kernel_rfl
theorem locM21 : M.loc 21 = 1976 := by kernel_rfl
theorem locM22 : M.loc 22 = 4193792 := by kernel_rfl
theorem locM23 : M.loc 23 = 1048320 := by kernel_rfl
theorem locM24 : M.loc 24 = 8160 := by kernel_rfl
theorem locM25 : M.loc 25 = 274777236480 := by kernel_rfl
theorem locM26 : M.loc 26 = 2251799813659776 := by kernel_rfl
theorem locM27 : M.loc 27 = 140737487825920 := by kernel_rfl
theorem locM28 : M.loc 28 = 713623841036067957389479453910188168019181568 := by kernel_rfl
theorem locM29 : M.loc 29 = 31728 := by kernel_rfl
theorem locM30 : M.loc 30 = 262048 := by kernel_rfl
theorem locM31 : M.loc 31 = 39614080076540407333248663552 := by kernel_rfl
theorem locM32 : M.loc 32 = 65504 := by kernel_rfl
theorem locM33 : M.loc 33 = 33554424 := by kernel_rfl
theorem locM34 : M.loc 34 = 274877120384 := by kernel_rfl
theorem locM35 : M.loc 35 = 35167192211456 := by kernel_rfl
theorem locM36 : M.loc 36 = 8795958615904 := by kernel_rfl
theorem locM37 : M.loc 37 = 2198989686784 := by kernel_rfl
theorem locM38 : M.loc 38 = 4398046510976 := by kernel_rfl
theorem locM39 : M.loc 39 = 524032 := by kernel_rfl
theorem locM40 : M.loc 40 = 68719469312 := by kernel_rfl
theorem locM41 : M.loc 41 = 8796025905920 := by kernel_rfl
theorem locM42 : M.loc 42 = 520176 := by kernel_rfl
theorem locM43 : M.loc 43 = 33554424 := by kernel_rfl
theorem locM44 : M.loc 44 = 281474974531584 := by kernel_rfl
theorem locM45 : M.loc 45 = 16772992 := by kernel_rfl
theorem locM46 : M.loc 46 = 73786976294838206384 := by kernel_rfl
theorem locM47 : M.loc 47 = 2243003720592384 := by kernel_rfl
theorem locM48 : M.loc 48 = 17163091952 := by kernel_rfl
theorem locM49 : M.loc 49 = 56 := by kernel_rfl
theorem locM50 : M.loc 50 = 8589704960 := by kernel_rfl
theorem locM51 : M.loc 51 = 274877904896 := by kernel_rfl
theorem locM52 : M.loc 52 = 1008 := by kernel_rfl
theorem locM53 : M.loc 53 = 268434672 := by kernel_rfl
theorem locM54 : M.loc 54 = 8160 := by kernel_rfl
theorem locM55 : M.loc 55 = 17179336640 := by kernel_rfl
theorem locM56 : M.loc 56 = 73786971827803782528 := by kernel_rfl
theorem locM57 : M.loc 57 = 130048 := by kernel_rfl
theorem locM58 : M.loc 58 = 17592186040320 := by kernel_rfl
theorem locM59 : M.loc 59 = 131008 := by kernel_rfl
attribute [go_sem] szO0 rowO0 zeroL0 isStr0 isInt0 und0 guard0 szO1 rowO1 zeroL1 isStr1 isInt1 und1 guard1 szO2 rowO2 zeroL2 isStr2 isInt2 kindO2 und2 guard2 szO3 rowO3 zeroL3 isStr3 isInt3 kindO3 und3 guard3 szO4 rowO4 zeroL4 isStr4 isInt4 boolT4 und4 guard4 szO5 rowO5 zeroL5 isStr5 isInt5 kindO5 und5 guard5 szO6 rowO6 zeroL6 isStr6 isInt6 kindO6 und6 guard6 szO7 rowO7 zeroL7 isStr7 isInt7 isComp7 und7 guard7 fldO7_0 fldO7_1 fldO7_2 fldO7_3 places7_0 places7_1 places7_2 places7_3 szO8 rowO8 zeroL8 isStr8 isInt8 isComp8 und8 guard8 fldO8_0 fldO8_1 fldO8_2 fldO8_3 places8_0 places8_1 places8_2 places8_3 szO9 rowO9 zeroL9 isStr9 isInt9 und9 guard9 szO10 rowO10 zeroL10 isStr10 isInt10 und10 guard10 szO11 rowO11 zeroL11 isStr11 isInt11 und11 guard11 szO12 rowO12 zeroL12 isStr12 isInt12 kindO12 und12 guard12 szO13 rowO13 zeroL13 isStr13 isInt13 isComp13 und13 guard13 fldO13_0 fldO13_1 places13_0 places13_1 szO14 rowO14 zeroL14 isStr14 isInt14 isComp14 und14 guard14 fldO14_0 fldO14_1 places14_0 places14_1 szO15 rowO15 zeroL15 isStr15 isInt15 ptrT15 und15 guard15 szO16 rowO16 zeroL16 isStr16 isInt16 ptrT16 und16 guard16 szO17 rowO17 zeroL17 isStr17 isInt17 ptrT17 und17 guard17 szO18 rowO18 zeroL18 isStr18 isInt18 isComp18 und18 guard18 fldO18_0 places18_0 szO19 rowO19 zeroL19 isStr19 isInt19 isComp19 und19 guard19 fldO19_0 places19_0 szO20 rowO20 zeroL20 isStr20 isInt20 und20 guard20 szO21 rowO21 zeroL21 isStr21 isInt21 kindO21 und21 guard21 szO22 rowO22 zeroL22 elemO22 elemBytes22 elemZero22 isStr22 isInt22 isBytes22 und22 guard22 szO23 rowO23 zeroL23 isStr23 isInt23 kindO23 und23 guard23 szO24 rowO24 zeroL24 isStr24 isInt24 und24 guard24 szO25 rowO25 zeroL25 isStr25 isInt25 kindO25 und25 guard25 szO26 rowO26 zeroL26 isStr26 isInt26 und26 guard26 szO27 rowO27 zeroL27 isStr27 isInt27 und27 guard27 szO28 rowO28 zeroL28 isStr28 isInt28 und28 guard28 szO29 rowO29 zeroL29 isStr29 isInt29 und29 guard29 szO30 rowO30 zeroL30 isStr30 isInt30 und30 guard30 szO31 rowO31 zeroL31 isStr31 isInt31 und31 guard31 szO32 rowO32 zeroL32 isStr32 isInt32 und32 guard32 szO33 rowO33 zeroL33 isStr33 isInt33 isComp33 arrO33 und33 guard33 places33_0 places33_1 places33_2 places33_3 places33_4 places33_5 places33_6 places33_7 places33_8 places33_9 places33_10 places33_11 places33_12 places33_13 places33_14 places33_15 places33_16 places33_17 places33_18 places33_19 places33_20 places33_21 places33_22 places33_23 places33_24 places33_25 places33_26 places33_27 places33_28 places33_29 places33_30 places33_31 places33_32 places33_33 places33_34 places33_35 places33_36 places33_37 places33_38 places33_39 places33_40 places33_41 places33_42 places33_43 places33_44 places33_45 places33_46 places33_47 places33_48 places33_49 places33_50 places33_51 places33_52 places33_53 places33_54 places33_55 places33_56 places33_57 places33_58 places33_59 places33_60 places33_61 places33_62 places33_63 places33_64 places33_65 places33_66 places33_67 places33_68 places33_69 szO34 rowO34 zeroL34 isStr34 isInt34 und34 guard34 szO35 rowO35 zeroL35 isStr35 isInt35 und35 guard35 szO36 rowO36 zeroL36 isStr36 isInt36 und36 guard36 szO37 rowO37 zeroL37 isStr37 isInt37 kindO37 und37 guard37 szO38 rowO38 zeroL38 isStr38 isInt38 und38 guard38 szO39 rowO39 zeroL39 isStr39 isInt39 und39 guard39 szO40 rowO40 zeroL40 isStr40 isInt40 und40 guard40 szO41 rowO41 zeroL41 isStr41 isInt41 und41 guard41 szO42 rowO42 zeroL42 isStr42 isInt42 und42 guard42 szO43 rowO43 zeroL43 isStr43 isInt43 und43 guard43 szO44 rowO44 zeroL44 isStr44 isInt44 und44 guard44 szO45 rowO45 zeroL45 isStr45 isInt45 isComp45 arrO45 und45 guard45 places45_0 places45_1 places45_2 places45_3 places45_4 places45_5 places45_6 places45_7 places45_8 places45_9 places45_10 places45_11 places45_12 places45_13 places45_14 places45_15 places45_16 places45_17 places45_18 places45_19 places45_20 places45_21 places45_22 places45_23 places45_24 places45_25 places45_26 places45_27 places45_28 places45_29 places45_30 places45_31 places45_32 places45_33 places45_34 places45_35 places45_36 places45_37 places45_38 places45_39 places45_40 places45_41 places45_42 places45_43 places45_44 places45_45 places45_46 places45_47 places45_48 places45_49 places45_50 places45_51 places45_52 places45_53 places45_54 places45_55 places45_56 places45_57 places45_58 places45_59 places45_60 places45_61 places45_62 places45_63 places45_64 places45_65 places45_66 places45_67 places45_68 places45_69 szO46 rowO46 zeroL46 isStr46 isInt46 und46 guard46 szO47 rowO47 zeroL47 isStr47 isInt47 isComp47 arrO47 und47 guard47 places47_0 places47_1 places47_2 places47_3 places47_4 places47_5 places47_6 places47_7 places47_8 places47_9 places47_10 places47_11 places47_12 places47_13 places47_14 places47_15 places47_16 places47_17 places47_18 places47_19 places47_20 places47_21 places47_22 places47_23 places47_24 places47_25 places47_26 places47_27 places47_28 places47_29 places47_30 places47_31 places47_32 places47_33 places47_34 places47_35 places47_36 places47_37 places47_38 places47_39 places47_40 places47_41 places47_42 places47_43 places47_44 places47_45 places47_46 places47_47 places47_48 places47_49 places47_50 places47_51 places47_52 places47_53 places47_54 places47_55 places47_56 places47_57 places47_58 places47_59 places47_60 places47_61 places47_62 places47_63 places47_64 places47_65 places47_66 places47_67 places47_68 places47_69 szO48 rowO48 zeroL48 isStr48 isInt48 und48 guard48 szO49 rowO49 zeroL49 isStr49 isInt49 und49 guard49 szO50 rowO50 zeroL50 isStr50 isInt50 und50 guard50 szO51 rowO51 zeroL51 isStr51 isInt51 und51 guard51 szO52 rowO52 zeroL52 isStr52 isInt52 und52 guard52 szO53 rowO53 zeroL53 isStr53 isInt53 und53 guard53 szO54 rowO54 zeroL54 isStr54 isInt54 und54 guard54 szO55 rowO55 zeroL55 isStr55 isInt55 kindO55 und55 guard55 szO56 rowO56 zeroL56 isStr56 isInt56 isComp56 arrO56 und56 guard56 places56_0 places56_1 places56_2 places56_3 places56_4 places56_5 places56_6 places56_7 places56_8 places56_9 places56_10 places56_11 places56_12 places56_13 places56_14 places56_15 places56_16 places56_17 places56_18 places56_19 places56_20 places56_21 places56_22 places56_23 places56_24 places56_25 places56_26 places56_27 places56_28 places56_29 places56_30 places56_31 places56_32 places56_33 places56_34 places56_35 places56_36 places56_37 places56_38 places56_39 places56_40 places56_41 places56_42 places56_43 places56_44 places56_45 places56_46 places56_47 places56_48 places56_49 places56_50 places56_51 places56_52 places56_53 places56_54 places56_55 places56_56 places56_57 places56_58 places56_59 places56_60 places56_61 places56_62 places56_63 places56_64 places56_65 places56_66 places56_67 places56_68 places56_69 szO57 rowO57 zeroL57 isStr57 isInt57 isComp57 arrO57 und57 guard57 places57_0 places57_1 places57_2 places57_3 places57_4 places57_5 places57_6 places57_7 places57_8 places57_9 places57_10 places57_11 places57_12 places57_13 places57_14 places57_15 places57_16 places57_17 places57_18 places57_19 places57_20 places57_21 places57_22 places57_23 places57_24 places57_25 places57_26 places57_27 places57_28 places57_29 places57_30 places57_31 places57_32 places57_33 places57_34 places57_35 places57_36 places57_37 places57_38 places57_39 places57_40 places57_41 places57_42 places57_43 places57_44 places57_45 places57_46 places57_47 places57_48 places57_49 places57_50 places57_51 places57_52 places57_53 places57_54 places57_55 places57_56 places57_57 places57_58 places57_59 places57_60 places57_61 places57_62 places57_63 places57_64 places57_65 places57_66 places57_67 places57_68 places57_69 szO58 rowO58 zeroL58 isStr58 isInt58 und58 guard58 szO59 rowO59 zeroL59 isStr59 isInt59 und59 guard59 szO60 rowO60 zeroL60 isStr60 isInt60 und60 guard60 szO61 rowO61 zeroL61 isStr61 isInt61 und61 guard61 szO62 rowO62 zeroL62 isStr62 isInt62 und62 guard62 szO63 rowO63 zeroL63 elemO63 elemBytes63 elemZero63 isStr63 isInt63 und63 guard63 szO64 rowO64 zeroL64 elemO64 elemBytes64 elemZero64 isStr64 isInt64 und64 guard64 szO65 rowO65 zeroL65 isStr65 isInt65 und65 guard65 szO66 rowO66 zeroL66 isStr66 isInt66 und66 guard66 szO67 rowO67 zeroL67 isStr67 isInt67 und67 guard67 szO68 rowO68 zeroL68 isStr68 isInt68 und68 guard68 szO69 rowO69 zeroL69 isStr69 isInt69 und69 guard69 szO70 rowO70 zeroL70 isStr70 isInt70 und70 guard70 szO71 rowO71 zeroL71 isStr71 isInt71 und71 guard71 szO72 rowO72 zeroL72 isStr72 isInt72 und72 guard72 szO73 rowO73 zeroL73 isStr73 isInt73 und73 guard73 szO74 rowO74 zeroL74 elemO74 elemBytes74 elemZero74 isStr74 isInt74 und74 guard74 szO75 rowO75 zeroL75 isStr75 isInt75 und75 guard75 szO76 rowO76 zeroL76 isStr76 isInt76 und76 guard76 szO77 rowO77 zeroL77 isStr77 isInt77 und77 guard77 szO78 rowO78 zeroL78 isStr78 isInt78 und78 guard78 szO79 rowO79 zeroL79 isStr79 isInt79 isComp79 und79 guard79 fldO79_0 fldO79_1 fldO79_2 fldO79_3 places79_0 places79_1 places79_2 places79_3 szO80 rowO80 zeroL80 isStr80 isInt80 isComp80 und80 guard80 fldO80_0 fldO80_1 fldO80_2 fldO80_3 places80_0 places80_1 places80_2 places80_3 szO81 rowO81 zeroL81 isStr81 isInt81 isComp81 arrO81 und81 guard81 places81_0 places81_1 places81_2 places81_3 places81_4 places81_5 places81_6 places81_7 places81_8 places81_9 places81_10 places81_11 places81_12 places81_13 places81_14 places81_15 places81_16 places81_17 places81_18 places81_19 places81_20 places81_21 places81_22 places81_23 places81_24 places81_25 places81_26 places81_27 places81_28 places81_29 places81_30 places81_31 places81_32 places81_33 places81_34 places81_35 places81_36 places81_37 places81_38 places81_39 places81_40 places81_41 places81_42 places81_43 places81_44 places81_45 places81_46 places81_47 places81_48 places81_49 places81_50 places81_51 places81_52 places81_53 places81_54 places81_55 places81_56 places81_57 places81_58 places81_59 places81_60 places81_61 places81_62 places81_63 places81_64 places81_65 places81_66 places81_67 places81_68 places81_69 szO82 rowO82 zeroL82 isStr82 isInt82 isComp82 und82 guard82 places82_0 szO83 rowO83 zeroL83 isStr83 isInt83 isComp83 und83 guard83 places83_0 szO84 rowO84 zeroL84 isStr84 isInt84 und84 guard84 szO85 rowO85 zeroL85 isStr85 isInt85 kindO85 und85 guard85 szO86 rowO86 zeroL86 isStr86 isInt86 kindO86 und86 guard86 szO87 rowO87 zeroL87 isStr87 isInt87 und87 guard87 szO88 rowO88 zeroL88 isStr88 isInt88 ptrT88 und88 guard88 szO89 rowO89 zeroL89 isStr89 isInt89 kindO89 und89 guard89 szO90 rowO90 zeroL90 isStr90 isInt90 kindO90 und90 guard90 szO91 rowO91 zeroL91 isStr91 isInt91 isComp91 und91 guard91 fldO91_0 fldO91_1 fldO91_2 fldO91_3 fldO91_4 fldO91_5 fldO91_6 fldO91_7 fldO91_8 fldO91_9 fldO91_10 places91_0 places91_1 places91_2 places91_3 places91_4 places91_5 places91_6 places91_7 places91_8 places91_9 places91_10 szO92 rowO92 zeroL92 isStr92 isInt92 isComp92 und92 guard92 fldO92_0 fldO92_1 fldO92_2 fldO92_3 fldO92_4 fldO92_5 fldO92_6 fldO92_7 fldO92_8 fldO92_9 fldO92_10 places92_0 places92_1 places92_2 places92_3 places92_4 places92_5 places92_6 places92_7 places92_8 places92_9 places92_10 szO93 rowO93 zeroL93 isStr93 isInt93 und93 guard93 goFn2 parM2 resM2 parK2 resK2 goFn3 parM3 resM3 parK3 resK3 goFn4 parM4 resM4 parK4 resK4 goFn5 parM5 resM5 parK5 resK5 goFn6 parM6 resM6 parK6 resK6 goFn7 parM7 resM7 parK7 resK7 goFn8 parM8 resM8 parK8 resK8 goFn9 parM9 resM9 parK9 resK9 goFn10 parM10 resM10 parK10 resK10 goFn11 parM11 resM11 parK11 resK11 goFn12 parM12 resM12 parK12 resK12 goFn13 parM13 resM13 parK13 resK13 goFn14 parM14 resM14 parK14 resK14 goFn15 parM15 resM15 parK15 resK15 goFn16 parM16 resM16 parK16 resK16 goFn17 parM17 resM17 parK17 resK17 goFn18 parM18 resM18 parK18 resK18 goFn19 parM19 resM19 parK19 resK19 goFn20 parM20 resM20 parK20 resK20 goFn21 parM21 resM21 parK21 resK21 goFn22 parM22 resM22 parK22 resK22 goFn23 parM23 resM23 parK23 resK23 goFn24 parM24 resM24 parK24 resK24 goFn25 parM25 resM25 parK25 resK25 goFn26 parM26 resM26 parK26 resK26 goFn27 parM27 resM27 parK27 resK27 goFn28 parM28 resM28 parK28 resK28 goFn29 parM29 resM29 parK29 resK29 goFn30 parM30 resM30 parK30 resK30 goFn31 parM31 resM31 parK31 resK31 goFn32 parM32 resM32 parK32 resK32 goFn33 parM33 resM33 parK33 resK33 goFn34 parM34 resM34 parK34 resK34 goFn35 parM35 resM35 parK35 resK35 goFn36 parM36 resM36 parK36 resK36 goFn37 parM37 resM37 parK37 resK37 goFn38 parM38 resM38 parK38 resK38 goFn39 parM39 resM39 parK39 resK39 goFn40 parM40 resM40 parK40 resK40 goFn41 parM41 resM41 parK41 resK41 goFn42 parM42 resM42 parK42 resK42 goFn43 parM43 resM43 parK43 resK43 goFn44 parM44 resM44 parK44 resK44 goFn45 parM45 resM45 parK45 resK45 goFn46 parM46 resM46 parK46 resK46 goFn47 parM47 resM47 parK47 resK47 goFn48 parM48 resM48 parK48 resK48 goFn49 parM49 resM49 parK49 resK49 goFn50 parM50 resM50 parK50 resK50 goFn51 parM51 resM51 parK51 resK51 goFn52 parM52 resM52 parK52 resK52 goFn53 parM53 resM53 parK53 resK53 goFn54 parM54 resM54 parK54 resK54 goFn55 parM55 resM55 parK55 resK55 goFn56 parM56 resM56 parK56 resK56 goFn57 parM57 resM57 parK57 resK57 goFn58 parM58 resM58 parK58 resK58 goFn59 parM59 resM59 parK59 resK59 locM2 locM3 locM4 locM5 locM6 locM7 locM8 locM9 locM10 locM11 locM12 locM13 locM14 locM15 locM16 locM17 locM18 locM19 locM20 locM21 locM22 locM23 locM24 locM25 locM26 locM27 locM28 locM29 locM30 locM31 locM32 locM33 locM34 locM35 locM36 locM37 locM38 locM39 locM40 locM41 locM42 locM43 locM44 locM45 locM46 locM47 locM48 locM49 locM50 locM51 locM52 locM53 locM54 locM55 locM56 locM57 locM58 locM59
end Go.Proofs.Ytdfkkfnjlcdjaaa
