import Derived.Test.YtccfjidpdlfenaaDoorProg
import Derived.Test.YtccfjidpdlfenaaDoorDn8
namespace Go.Proofs.YtccfjidpdlfenaaDoor
open Go.Am
set_option maxRecDepth 100000
def parM : FuncId → List Nat
  | 86 => [1]
  | 52 => [1]
  | 107 => [1]
  | 109 => [1]
  | 95 => [1]
  | 111 => [1]
  | 112 => [1]
  | 74 => [1]
  | 103 => [1]
  | 113 => [1]
  | 77 => [1]
  | _ => []
def resM : FuncId → List Nat
  | 52 => [1]
  | 55 => [1]
  | 107 => [1]
  | 109 => [1]
  | 65 => [1]
  | 147 => [1]
  | 127 => [1]
  | 102 => [1]
  | 70 => [1]
  | 101 => [1]
  | 168 => [1]
  | 158 => [1]
  | 122 => [1]
  | 95 => [1]
  | 56 => [1]
  | 73 => [1]
  | 76 => [1]
  | 121 => [1]
  | 97 => [1]
  | 34 => [1]
  | 35 => [1]
  | 117 => [1]
  | 36 => [1]
  | 26 => [1]
  | 64 => [1]
  | _ => []
def locM : FuncId → Nat
  | 2 => 1
  | 3 => 18014398509211648
  | 4 => 147573952589542064128
  | 5 => 2535301200456458802984808087552
  | 6 => 696898287413517153965687855172091915862016
  | 7 => 1125899906840064
  | 8 => 81129638412245497328445684383744
  | 9 => 268434352
  | 10 => 1180591620717411301568
  | 11 => 9002800134238208
  | 12 => 4602608450394781696
  | 13 => 33536960
  | 14 => 266321920
  | 15 => 4286574080
  | 16 => 8184
  | 17 => 4294967264
  | 18 => 68719460352
  | 19 => 140737488322560
  | 20 => 4064
  | 21 => 4064
  | 22 => 121856
  | 23 => 56576
  | 24 => 295147905179352825088
  | 25 => 4088
  | 26 => 8321496576
  | 27 => 126100514687938560
  | 28 => 524096
  | 29 => 4503599627370368
  | 30 => 1924145280896
  | 31 => 3848290627264
  | 32 => 240
  | 33 => 68719476728
  | 34 => 8388592
  | 35 => 8388592
  | 36 => 266287935488
  | 37 => 266287905792
  | 38 => 72634050390035251200
  | 39 => 128896
  | 40 => 16642997760
  | 41 => 224
  | 42 => 24
  | 43 => 2097144
  | 44 => 70093865746176
  | 45 => 4194296
  | 46 => 33028992
  | 47 => 4503565267623680
  | 48 => 16777088
  | 49 => 120
  | 50 => 536866176
  | 51 => 120
  | 52 => 4294729472
  | 53 => 261120
  | 54 => 2093248
  | 55 => 70351560080384
  | 56 => 261984
  | 57 => 504
  | 58 => 17592183812096
  | 59 => 16224
  | 60 => 65472
  | 61 => 24
  | 62 => 65472
  | 63 => 68702682872
  | 64 => 1016
  | 65 => 35184338460672
  | 66 => 56
  | 67 => 56
  | 68 => 33822836608
  | 69 => 549217894144
  | 70 => 4575657221407870976
  | 71 => 9223372036853857280
  | 72 => 4063224
  | 73 => 120
  | 74 => 137187032832
  | 75 => 4063224
  | 76 => 56
  | 77 => 2197948464896
  | 78 => 274877906928
  | 79 => 992
  | 80 => 120
  | 81 => 133955344
  | 82 => 56
  | 83 => 457792
  | 84 => 240
  | 85 => 232
  | 86 => 39614080961984263615267404800
  | 87 => 134182896
  | 88 => 785856
  | 89 => 137422143424
  | 90 => 224
  | 91 => 2093248
  | 92 => 65520
  | 93 => 137434691584
  | 94 => 3936
  | 95 => 131040
  | 96 => 248
  | 97 => 67108848
  | 98 => 274877902336
  | 99 => 24
  | 100 => 8160
  | 101 => 37778923979457716224000
  | 102 => 2251799813678080
  | 103 => 4128704
  | 104 => 8388528
  | 105 => 1000
  | 106 => 2092544
  | 107 => 1976
  | 108 => 4193792
  | 109 => 1048320
  | 110 => 4088
  | 111 => 480
  | 112 => 1099511610752
  | 113 => 144115187941632960
  | 115 => 1008
  | 116 => 4503569561550336
  | 117 => 1152921503532580608
  | 118 => 33554424
  | 119 => 131008
  | 120 => 480
  | 121 => 33554416
  | 122 => 507376
  | 123 => 24
  | 124 => 8160
  | 125 => 274777236480
  | 126 => 2251799813659776
  | 127 => 140737487825920
  | 128 => 65504
  | 129 => 16368
  | 130 => 68215103488
  | 131 => 1073676096
  | 132 => 2
  | 133 => 2595197691317242642214125633929216
  | 134 => 68702633792
  | 135 => 2
  | 136 => 215679573337205118357336120696151728477114015716832964620587687215104
  | 137 => 8381312
  | 138 => 992
  | 139 => 18014381321090304
  | 140 => 33554424
  | 141 => 274877120384
  | 142 => 35167192211456
  | 143 => 8795958615904
  | 144 => 2198989686784
  | 145 => 4398046510976
  | 146 => 524032
  | 147 => 68719469312
  | 148 => 8796025905920
  | 149 => 520176
  | 150 => 56
  | 151 => 8589704960
  | 152 => 268434928
  | 153 => 134152096
  | 154 => 38685626227650541404552192
  | 155 => 480
  | 156 => 8160
  | 157 => 2
  | 158 => 16344
  | 159 => 32744
  | 160 => 32752
  | 161 => 184149205606795480238948490449146349755637850570752
  | 162 => 5050176389969560855884357697536
  | 163 => 274877904896
  | 164 => 1008
  | 165 => 268434672
  | 166 => 130048
  | 167 => 131008
  | 168 => 232
  | 169 => 56
  | 170 => 33537768
  | 171 => 0
  | 172 => 248
  | 173 => 248
  | 174 => 17592186040320
  | 175 => 16360
  | 176 => 16360
  | 201 => 15
  | _ => 0
def tabL2 : List Int := [0, 1, 28, 2, 29, 14, 24, 3, 30, 22, 20, 15, 25, 17, 4, 8, 31, 27, 13, 23, 21, 19, 16, 7, 26, 12, 18, 6, 11, 5, 10, 9]
def tabL3 : List Int := [0, 1, 56, 2, 57, 49, 28, 3, 61, 58, 42, 50, 38, 29, 17, 4, 62, 47, 59, 36, 45, 43, 51, 22, 53, 39, 33, 30, 24, 18, 12, 5, 63, 55, 48, 27, 60, 41, 37, 16, 46, 35, 44, 21, 52, 32, 23, 11, 54, 26, 40, 15, 34, 20, 31, 10, 25, 14, 19, 9, 13, 8, 7, 6]
def tabL1 : List Int := [1, 10, 100, 1000, 10000, 100000, 1000000, 10000000, 100000000, 1000000000, 10000000000, 100000000000, 1000000000000, 10000000000000, 100000000000000, 1000000000000000, 10000000000000000, 100000000000000000, 1000000000000000000, 10000000000000000000]
def tabL0 : List Int := [1116352408, 1899447441, 3049323471, 3921009573, 961987163, 1508970993, 2453635748, 2870763221, 3624381080, 310598401, 607225278, 1426881987, 1925078388, 2162078206, 2614888103, 3248222580, 3835390401, 4022224774, 264347078, 604807628, 770255983, 1249150122, 1555081692, 1996064986, 2554220882, 2821834349, 2952996808, 3210313671, 3336571891, 3584528711, 113926993, 338241895, 666307205, 773529912, 1294757372, 1396182291, 1695183700, 1986661051, 2177026350, 2456956037, 2730485921, 2820302411, 3259730800, 3345764771, 3516065817, 3600352804, 4094571909, 275423344, 430227734, 506948616, 659060556, 883997877, 958139571, 1322822218, 1537002063, 1747873779, 1955562222, 2024104815, 2227730452, 2361852424, 2428436474, 2756734187, 3204031479, 3329325298]
def tabs : Tabs := [(2, "math/bits.deBruijn32tab", .u8, tabL2), (3, "math/bits.deBruijn64tab", .u8, tabL3), (1, "internal/strconv.uint64pow10", .u64, tabL1), (0, "carcanet/digest.constants", .u32, tabL0)]
noncomputable def E : Env := ⟨Tryd.prog, gamma tabs⟩
noncomputable def M : Mds := ⟨parM, resM, locM⟩
noncomputable def C0 : Cf := ⟨E, M, fun _ => none⟩
@[go_sem] theorem C0_E : C0.E = E := rfl
@[go_sem] theorem C0_M : C0.M = M := rfl
theorem mixed : E.P.follows .mixedOrders = true := by kernel_rfl
@[go_sem] theorem ev_g2 (f) : ev E.Γ f (.global 2) = .iptr (tabV .u8 tabL2) := rfl
@[go_sem] theorem ev_g3 (f) : ev E.Γ f (.global 3) = .iptr (tabV .u8 tabL3) := rfl
@[go_sem] theorem ev_g1 (f) : ev E.Γ f (.global 1) = .iptr (tabV .u64 tabL1) := rfl
@[go_sem] theorem ev_g0 (f) : ev E.Γ f (.global 0) = .iptr (tabV .u32 tabL0) := rfl
theorem szO0 : E.P.szO 0 = some 1 := by kernel_rfl
theorem rowO0 : E.P.rowO 0 = some false := by kernel_rfl
theorem zeroL0 : E.P.zeroL 0 = some [AVal.sc (Value.tuple { toList := [] })] := by kernel_rfl
theorem isStr0 : E.P.isStr 0 = false := by kernel_rfl
theorem isInt0 : E.P.isInt 0 = false := by kernel_rfl
theorem und0 : (E.P.underlying 0).isSome = true := by kernel_rfl
theorem guard0 : E.P.eqGuardType E.P.depth 0 = false := by kernel_rfl
theorem szO1 : E.P.szO 1 = some 1 := by kernel_rfl
theorem rowO1 : E.P.rowO 1 = some false := by kernel_rfl
theorem zeroL1 : E.P.zeroL 1 = some [AVal.sc Value.nilFunc] := by kernel_rfl
theorem isStr1 : E.P.isStr 1 = false := by kernel_rfl
theorem isInt1 : E.P.isInt 1 = false := by kernel_rfl
theorem und1 : (E.P.underlying 1).isSome = true := by kernel_rfl
theorem guard1 : E.P.eqGuardType E.P.depth 1 = false := by kernel_rfl
theorem szO2 : E.P.szO 2 = some 1 := by kernel_rfl
theorem rowO2 : E.P.rowO 2 = some false := by kernel_rfl
theorem zeroL2 : E.P.zeroL 2 = some [AVal.int IntKind.i64 (0)] := by kernel_rfl
theorem isStr2 : E.P.isStr 2 = false := by kernel_rfl
theorem isInt2 : E.P.isInt 2 = true := by kernel_rfl
theorem kindO2 : kindO E.P 2 = some IntKind.i64 := by kernel_rfl
theorem und2 : (E.P.underlying 2).isSome = true := by kernel_rfl
theorem guard2 : E.P.eqGuardType E.P.depth 2 = false := by kernel_rfl
theorem szO3 : E.P.szO 3 = some 1 := by kernel_rfl
theorem rowO3 : E.P.rowO 3 = some false := by kernel_rfl
theorem zeroL3 : E.P.zeroL 3 = some [AVal.int IntKind.i64 (0)] := by kernel_rfl
theorem isStr3 : E.P.isStr 3 = false := by kernel_rfl
theorem isInt3 : E.P.isInt 3 = true := by kernel_rfl
theorem kindO3 : kindO E.P 3 = some IntKind.i64 := by kernel_rfl
theorem und3 : (E.P.underlying 3).isSome = true := by kernel_rfl
theorem guard3 : E.P.eqGuardType E.P.depth 3 = false := by kernel_rfl
theorem szO4 : E.P.szO 4 = some 1 := by kernel_rfl
theorem rowO4 : E.P.rowO 4 = some false := by kernel_rfl
theorem zeroL4 : E.P.zeroL 4 = some [AVal.bool false] := by kernel_rfl
theorem isStr4 : E.P.isStr 4 = false := by kernel_rfl
theorem isInt4 : E.P.isInt 4 = false := by kernel_rfl
theorem boolT4 : boolT E.P 4 = true := by kernel_rfl
theorem und4 : (E.P.underlying 4).isSome = true := by kernel_rfl
theorem guard4 : E.P.eqGuardType E.P.depth 4 = false := by kernel_rfl
theorem szO5 : E.P.szO 5 = some 1 := by kernel_rfl
theorem rowO5 : E.P.rowO 5 = some false := by kernel_rfl
theorem zeroL5 : E.P.zeroL 5 = some [AVal.int IntKind.u8 (0)] := by kernel_rfl
theorem isStr5 : E.P.isStr 5 = false := by kernel_rfl
theorem isInt5 : E.P.isInt 5 = true := by kernel_rfl
theorem kindO5 : kindO E.P 5 = some IntKind.u8 := by kernel_rfl
theorem und5 : (E.P.underlying 5).isSome = true := by kernel_rfl
theorem guard5 : E.P.eqGuardType E.P.depth 5 = false := by kernel_rfl
theorem szO6 : E.P.szO 6 = some 1 := by kernel_rfl
theorem rowO6 : E.P.rowO 6 = some false := by kernel_rfl
theorem zeroL6 : E.P.zeroL 6 = some [AVal.int IntKind.u8 (0)] := by kernel_rfl
theorem isStr6 : E.P.isStr 6 = false := by kernel_rfl
theorem isInt6 : E.P.isInt 6 = true := by kernel_rfl
theorem kindO6 : kindO E.P 6 = some IntKind.u8 := by kernel_rfl
theorem und6 : (E.P.underlying 6).isSome = true := by kernel_rfl
theorem guard6 : E.P.eqGuardType E.P.depth 6 = false := by kernel_rfl
theorem szO7 : E.P.szO 7 = some 4 := by kernel_rfl
theorem rowO7 : E.P.rowO 7 = some true := by kernel_rfl
theorem zeroL7 : E.P.zeroL 7 = some [AVal.int IntKind.i64 (0), AVal.int IntKind.i64 (0), AVal.bool false, AVal.int IntKind.u8 (0)] := by kernel_rfl
theorem isStr7 : E.P.isStr 7 = false := by kernel_rfl
theorem isInt7 : E.P.isInt 7 = false := by kernel_rfl
theorem isComp7 : E.P.isComp 7 = true := by kernel_rfl
theorem und7 : (E.P.underlying 7).isSome = true := by kernel_rfl
theorem guard7 : E.P.eqGuardType E.P.depth 7 = false := by kernel_rfl
theorem fldO7_0 : E.P.fldO 7 0 = some (0, 1, false) := by kernel_rfl
theorem fldO7_1 : E.P.fldO 7 1 = some (1, 1, false) := by kernel_rfl
theorem fldO7_2 : E.P.fldO 7 2 = some (2, 1, false) := by kernel_rfl
theorem fldO7_3 : E.P.fldO 7 3 = some (3, 1, false) := by kernel_rfl
theorem places7_0 : E.P.places 7 0 = some (0, 1) := by kernel_rfl
theorem places7_1 : E.P.places 7 1 = some (1, 1) := by kernel_rfl
theorem places7_2 : E.P.places 7 2 = some (2, 1) := by kernel_rfl
theorem places7_3 : E.P.places 7 3 = some (3, 1) := by kernel_rfl
theorem szO8 : E.P.szO 8 = some 4 := by kernel_rfl
theorem rowO8 : E.P.rowO 8 = some true := by kernel_rfl
theorem zeroL8 : E.P.zeroL 8 = some [AVal.int IntKind.i64 (0), AVal.int IntKind.i64 (0), AVal.bool false, AVal.int IntKind.u8 (0)] := by kernel_rfl
theorem isStr8 : E.P.isStr 8 = false := by kernel_rfl
theorem isInt8 : E.P.isInt 8 = false := by kernel_rfl
theorem isComp8 : E.P.isComp 8 = true := by kernel_rfl
theorem und8 : (E.P.underlying 8).isSome = true := by kernel_rfl
theorem guard8 : E.P.eqGuardType E.P.depth 8 = false := by kernel_rfl
theorem fldO8_0 : E.P.fldO 8 0 = some (0, 1, false) := by kernel_rfl
theorem fldO8_1 : E.P.fldO 8 1 = some (1, 1, false) := by kernel_rfl
theorem fldO8_2 : E.P.fldO 8 2 = some (2, 1, false) := by kernel_rfl
theorem fldO8_3 : E.P.fldO 8 3 = some (3, 1, false) := by kernel_rfl
theorem places8_0 : E.P.places 8 0 = some (0, 1) := by kernel_rfl
theorem places8_1 : E.P.places 8 1 = some (1, 1) := by kernel_rfl
theorem places8_2 : E.P.places 8 2 = some (2, 1) := by kernel_rfl
theorem places8_3 : E.P.places 8 3 = some (3, 1) := by kernel_rfl
theorem szO9 : E.P.szO 9 = some 1 := by kernel_rfl
theorem rowO9 : E.P.rowO 9 = some false := by kernel_rfl
theorem zeroL9 : E.P.zeroL 9 = some [AVal.str []] := by kernel_rfl
theorem isStr9 : E.P.isStr 9 = true := by kernel_rfl
theorem isInt9 : E.P.isInt 9 = false := by kernel_rfl
theorem und9 : (E.P.underlying 9).isSome = true := by kernel_rfl
theorem guard9 : E.P.eqGuardType E.P.depth 9 = false := by kernel_rfl
theorem szO10 : E.P.szO 10 = some 1 := by kernel_rfl
theorem rowO10 : E.P.rowO 10 = some false := by kernel_rfl
theorem zeroL10 : E.P.zeroL 10 = some [AVal.str []] := by kernel_rfl
theorem isStr10 : E.P.isStr 10 = true := by kernel_rfl
theorem isInt10 : E.P.isInt 10 = false := by kernel_rfl
theorem und10 : (E.P.underlying 10).isSome = true := by kernel_rfl
theorem guard10 : E.P.eqGuardType E.P.depth 10 = false := by kernel_rfl
theorem szO11 : E.P.szO 11 = some 1 := by kernel_rfl
theorem rowO11 : E.P.rowO 11 = some false := by kernel_rfl
theorem zeroL11 : E.P.zeroL 11 = some [AVal.str []] := by kernel_rfl
theorem isStr11 : E.P.isStr 11 = true := by kernel_rfl
theorem isInt11 : E.P.isInt 11 = false := by kernel_rfl
theorem und11 : (E.P.underlying 11).isSome = true := by kernel_rfl
theorem guard11 : E.P.eqGuardType E.P.depth 11 = false := by kernel_rfl
theorem szO12 : E.P.szO 12 = some 1 := by kernel_rfl
theorem rowO12 : E.P.rowO 12 = some false := by kernel_rfl
theorem zeroL12 : E.P.zeroL 12 = some [AVal.int IntKind.u64 (0)] := by kernel_rfl
theorem isStr12 : E.P.isStr 12 = false := by kernel_rfl
theorem isInt12 : E.P.isInt 12 = true := by kernel_rfl
theorem kindO12 : kindO E.P 12 = some IntKind.u64 := by kernel_rfl
theorem und12 : (E.P.underlying 12).isSome = true := by kernel_rfl
theorem guard12 : E.P.eqGuardType E.P.depth 12 = false := by kernel_rfl
theorem szO13 : E.P.szO 13 = some 2 := by kernel_rfl
theorem rowO13 : E.P.rowO 13 = some true := by kernel_rfl
theorem zeroL13 : E.P.zeroL 13 = some [AVal.str [], AVal.int IntKind.u64 (0)] := by kernel_rfl
theorem isStr13 : E.P.isStr 13 = false := by kernel_rfl
theorem isInt13 : E.P.isInt 13 = false := by kernel_rfl
theorem isComp13 : E.P.isComp 13 = true := by kernel_rfl
theorem und13 : (E.P.underlying 13).isSome = true := by kernel_rfl
theorem guard13 : E.P.eqGuardType E.P.depth 13 = false := by kernel_rfl
theorem fldO13_0 : E.P.fldO 13 0 = some (0, 1, false) := by kernel_rfl
theorem fldO13_1 : E.P.fldO 13 1 = some (1, 1, false) := by kernel_rfl
theorem places13_0 : E.P.places 13 0 = some (0, 1) := by kernel_rfl
theorem places13_1 : E.P.places 13 1 = some (1, 1) := by kernel_rfl
theorem szO14 : E.P.szO 14 = some 2 := by kernel_rfl
theorem rowO14 : E.P.rowO 14 = some true := by kernel_rfl
theorem zeroL14 : E.P.zeroL 14 = some [AVal.str [], AVal.int IntKind.u64 (0)] := by kernel_rfl
theorem isStr14 : E.P.isStr 14 = false := by kernel_rfl
theorem isInt14 : E.P.isInt 14 = false := by kernel_rfl
theorem isComp14 : E.P.isComp 14 = true := by kernel_rfl
theorem und14 : (E.P.underlying 14).isSome = true := by kernel_rfl
theorem guard14 : E.P.eqGuardType E.P.depth 14 = false := by kernel_rfl
theorem fldO14_0 : E.P.fldO 14 0 = some (0, 1, false) := by kernel_rfl
theorem fldO14_1 : E.P.fldO 14 1 = some (1, 1, false) := by kernel_rfl
theorem places14_0 : E.P.places 14 0 = some (0, 1) := by kernel_rfl
theorem places14_1 : E.P.places 14 1 = some (1, 1) := by kernel_rfl
theorem szO15 : E.P.szO 15 = some 1 := by kernel_rfl
theorem rowO15 : E.P.rowO 15 = some false := by kernel_rfl
theorem zeroL15 : E.P.zeroL 15 = some [AVal.sc (Value.pointer none)] := by kernel_rfl
theorem isStr15 : E.P.isStr 15 = false := by kernel_rfl
theorem isInt15 : E.P.isInt 15 = false := by kernel_rfl
theorem ptrT15 : ptrT E.P 15 = true := by kernel_rfl
theorem und15 : (E.P.underlying 15).isSome = true := by kernel_rfl
theorem guard15 : E.P.eqGuardType E.P.depth 15 = false := by kernel_rfl
theorem szO16 : E.P.szO 16 = some 1 := by kernel_rfl
theorem rowO16 : E.P.rowO 16 = some false := by kernel_rfl
theorem zeroL16 : E.P.zeroL 16 = some [AVal.sc (Value.pointer none)] := by kernel_rfl
theorem isStr16 : E.P.isStr 16 = false := by kernel_rfl
theorem isInt16 : E.P.isInt 16 = false := by kernel_rfl
theorem ptrT16 : ptrT E.P 16 = true := by kernel_rfl
theorem und16 : (E.P.underlying 16).isSome = true := by kernel_rfl
theorem guard16 : E.P.eqGuardType E.P.depth 16 = false := by kernel_rfl
theorem szO17 : E.P.szO 17 = some 1 := by kernel_rfl
theorem rowO17 : E.P.rowO 17 = some false := by kernel_rfl
theorem zeroL17 : E.P.zeroL 17 = some [AVal.sc (Value.pointer none)] := by kernel_rfl
theorem isStr17 : E.P.isStr 17 = false := by kernel_rfl
theorem isInt17 : E.P.isInt 17 = false := by kernel_rfl
theorem ptrT17 : ptrT E.P 17 = true := by kernel_rfl
theorem und17 : (E.P.underlying 17).isSome = true := by kernel_rfl
theorem guard17 : E.P.eqGuardType E.P.depth 17 = false := by kernel_rfl
theorem szO18 : E.P.szO 18 = some 1 := by kernel_rfl
theorem rowO18 : E.P.rowO 18 = some true := by kernel_rfl
theorem zeroL18 : E.P.zeroL 18 = some [AVal.sc (Value.pointer none)] := by kernel_rfl
theorem isStr18 : E.P.isStr 18 = false := by kernel_rfl
theorem isInt18 : E.P.isInt 18 = false := by kernel_rfl
theorem isComp18 : E.P.isComp 18 = true := by kernel_rfl
theorem und18 : (E.P.underlying 18).isSome = true := by kernel_rfl
theorem guard18 : E.P.eqGuardType E.P.depth 18 = false := by kernel_rfl
theorem fldO18_0 : E.P.fldO 18 0 = some (0, 1, false) := by kernel_rfl
theorem places18_0 : E.P.places 18 0 = some (0, 1) := by kernel_rfl
theorem szO19 : E.P.szO 19 = some 1 := by kernel_rfl
theorem rowO19 : E.P.rowO 19 = some true := by kernel_rfl
theorem zeroL19 : E.P.zeroL 19 = some [AVal.sc (Value.pointer none)] := by kernel_rfl
theorem isStr19 : E.P.isStr 19 = false := by kernel_rfl
theorem isInt19 : E.P.isInt 19 = false := by kernel_rfl
theorem isComp19 : E.P.isComp 19 = true := by kernel_rfl
theorem und19 : (E.P.underlying 19).isSome = true := by kernel_rfl
theorem guard19 : E.P.eqGuardType E.P.depth 19 = false := by kernel_rfl
theorem fldO19_0 : E.P.fldO 19 0 = some (0, 1, false) := by kernel_rfl
theorem places19_0 : E.P.places 19 0 = some (0, 1) := by kernel_rfl
theorem szO20 : E.P.szO 20 = some 1 := by kernel_rfl
theorem rowO20 : E.P.rowO 20 = some false := by kernel_rfl
theorem zeroL20 : E.P.zeroL 20 = some [AVal.sc Value.nilIface] := by kernel_rfl
theorem isStr20 : E.P.isStr 20 = false := by kernel_rfl
theorem isInt20 : E.P.isInt 20 = false := by kernel_rfl
theorem und20 : (E.P.underlying 20).isSome = true := by kernel_rfl
theorem guard20 : E.P.eqGuardType E.P.depth 20 = false := by kernel_rfl
theorem szO21 : E.P.szO 21 = some 1 := by kernel_rfl
theorem rowO21 : E.P.rowO 21 = some false := by kernel_rfl
theorem zeroL21 : E.P.zeroL 21 = some [AVal.int IntKind.i32 (0)] := by kernel_rfl
theorem isStr21 : E.P.isStr 21 = false := by kernel_rfl
theorem isInt21 : E.P.isInt 21 = true := by kernel_rfl
theorem kindO21 : kindO E.P 21 = some IntKind.i32 := by kernel_rfl
theorem und21 : (E.P.underlying 21).isSome = true := by kernel_rfl
theorem guard21 : E.P.eqGuardType E.P.depth 21 = false := by kernel_rfl
theorem szO22 : E.P.szO 22 = some 1 := by kernel_rfl
theorem rowO22 : E.P.rowO 22 = some false := by kernel_rfl
theorem zeroL22 : E.P.zeroL 22 = some [AVal.sc (Value.slice none 0 0)] := by kernel_rfl
theorem elemO22 : E.P.elemO 22 = some 4 := by kernel_rfl
theorem elemBytes22 : E.P.elemBytes 22 = some 48 := by kernel_rfl
theorem elemZero22 : E.P.elemZero 22 = some [AVal.str [], AVal.str [], AVal.int IntKind.i64 (0), AVal.bool false] := by kernel_rfl
theorem isStr22 : E.P.isStr 22 = false := by kernel_rfl
theorem isInt22 : E.P.isInt 22 = false := by kernel_rfl
theorem und22 : (E.P.underlying 22).isSome = true := by kernel_rfl
theorem guard22 : E.P.eqGuardType E.P.depth 22 = false := by kernel_rfl
theorem szO23 : E.P.szO 23 = some 1 := by kernel_rfl
theorem rowO23 : E.P.rowO 23 = some false := by kernel_rfl
theorem zeroL23 : E.P.zeroL 23 = some [AVal.int IntKind.u64 (0)] := by kernel_rfl
theorem isStr23 : E.P.isStr 23 = false := by kernel_rfl
theorem isInt23 : E.P.isInt 23 = true := by kernel_rfl
theorem kindO23 : kindO E.P 23 = some IntKind.u64 := by kernel_rfl
theorem und23 : (E.P.underlying 23).isSome = true := by kernel_rfl
theorem guard23 : E.P.eqGuardType E.P.depth 23 = false := by kernel_rfl
theorem szO24 : E.P.szO 24 = some 1 := by kernel_rfl
theorem rowO24 : E.P.rowO 24 = some false := by kernel_rfl
theorem zeroL24 : E.P.zeroL 24 = some [AVal.sc Value.nilFunc] := by kernel_rfl
theorem isStr24 : E.P.isStr 24 = false := by kernel_rfl
theorem isInt24 : E.P.isInt 24 = false := by kernel_rfl
theorem und24 : (E.P.underlying 24).isSome = true := by kernel_rfl
theorem guard24 : E.P.eqGuardType E.P.depth 24 = false := by kernel_rfl
theorem szO25 : E.P.szO 25 = some 1 := by kernel_rfl
theorem rowO25 : E.P.rowO 25 = some false := by kernel_rfl
theorem zeroL25 : E.P.zeroL 25 = some [AVal.sc Value.nilFunc] := by kernel_rfl
theorem isStr25 : E.P.isStr 25 = false := by kernel_rfl
theorem isInt25 : E.P.isInt 25 = false := by kernel_rfl
theorem und25 : (E.P.underlying 25).isSome = true := by kernel_rfl
theorem guard25 : E.P.eqGuardType E.P.depth 25 = false := by kernel_rfl
theorem szO26 : E.P.szO 26 = some 1 := by kernel_rfl
theorem rowO26 : E.P.rowO 26 = some false := by kernel_rfl
theorem zeroL26 : E.P.zeroL 26 = some [AVal.int IntKind.i64 (0)] := by kernel_rfl
theorem isStr26 : E.P.isStr 26 = false := by kernel_rfl
theorem isInt26 : E.P.isInt 26 = true := by kernel_rfl
theorem kindO26 : kindO E.P 26 = some IntKind.i64 := by kernel_rfl
theorem und26 : (E.P.underlying 26).isSome = true := by kernel_rfl
theorem guard26 : E.P.eqGuardType E.P.depth 26 = false := by kernel_rfl
theorem szO27 : E.P.szO 27 = some 1 := by kernel_rfl
theorem rowO27 : E.P.rowO 27 = some false := by kernel_rfl
theorem zeroL27 : E.P.zeroL 27 = some [AVal.sc (Value.tuple { toList := [Value.slice none 0 0, Value.int IntKind.i64 (0)] })] := by kernel_rfl
theorem isStr27 : E.P.isStr 27 = false := by kernel_rfl
theorem isInt27 : E.P.isInt 27 = false := by kernel_rfl
theorem und27 : (E.P.underlying 27).isSome = true := by kernel_rfl
theorem guard27 : E.P.eqGuardType E.P.depth 27 = false := by kernel_rfl
theorem szO28 : E.P.szO 28 = some 1 := by kernel_rfl
theorem rowO28 : E.P.rowO 28 = some false := by kernel_rfl
theorem zeroL28 : E.P.zeroL 28 = some [AVal.sc Value.nilFunc] := by kernel_rfl
theorem isStr28 : E.P.isStr 28 = false := by kernel_rfl
theorem isInt28 : E.P.isInt 28 = false := by kernel_rfl
theorem und28 : (E.P.underlying 28).isSome = true := by kernel_rfl
theorem guard28 : E.P.eqGuardType E.P.depth 28 = false := by kernel_rfl
theorem szO29 : E.P.szO 29 = some 1 := by kernel_rfl
theorem rowO29 : E.P.rowO 29 = some false := by kernel_rfl
theorem zeroL29 : E.P.zeroL 29 = some [AVal.sc (Value.tuple { toList := [Value.slice none 0 0, Value.int IntKind.i64 (0)] })] := by kernel_rfl
theorem isStr29 : E.P.isStr 29 = false := by kernel_rfl
theorem isInt29 : E.P.isInt 29 = false := by kernel_rfl
theorem und29 : (E.P.underlying 29).isSome = true := by kernel_rfl
theorem guard29 : E.P.eqGuardType E.P.depth 29 = false := by kernel_rfl
theorem szO30 : E.P.szO 30 = some 1 := by kernel_rfl
theorem rowO30 : E.P.rowO 30 = some false := by kernel_rfl
theorem zeroL30 : E.P.zeroL 30 = some [AVal.sc Value.nilFunc] := by kernel_rfl
theorem isStr30 : E.P.isStr 30 = false := by kernel_rfl
theorem isInt30 : E.P.isInt 30 = false := by kernel_rfl
theorem und30 : (E.P.underlying 30).isSome = true := by kernel_rfl
theorem guard30 : E.P.eqGuardType E.P.depth 30 = false := by kernel_rfl
theorem szO31 : E.P.szO 31 = some 1 := by kernel_rfl
theorem rowO31 : E.P.rowO 31 = some false := by kernel_rfl
theorem zeroL31 : E.P.zeroL 31 = some [AVal.sc Value.nilFunc] := by kernel_rfl
theorem isStr31 : E.P.isStr 31 = false := by kernel_rfl
theorem isInt31 : E.P.isInt 31 = false := by kernel_rfl
theorem und31 : (E.P.underlying 31).isSome = true := by kernel_rfl
theorem guard31 : E.P.eqGuardType E.P.depth 31 = false := by kernel_rfl
theorem szO32 : E.P.szO 32 = some 1 := by kernel_rfl
theorem rowO32 : E.P.rowO 32 = some false := by kernel_rfl
theorem zeroL32 : E.P.zeroL 32 = some [AVal.sc Value.nilFunc] := by kernel_rfl
theorem isStr32 : E.P.isStr 32 = false := by kernel_rfl
theorem isInt32 : E.P.isInt 32 = false := by kernel_rfl
theorem und32 : (E.P.underlying 32).isSome = true := by kernel_rfl
theorem guard32 : E.P.eqGuardType E.P.depth 32 = false := by kernel_rfl
theorem szO33 : E.P.szO 33 = some 1 := by kernel_rfl
theorem rowO33 : E.P.rowO 33 = some false := by kernel_rfl
theorem zeroL33 : E.P.zeroL 33 = some [AVal.sc Value.nilFunc] := by kernel_rfl
theorem isStr33 : E.P.isStr 33 = false := by kernel_rfl
theorem isInt33 : E.P.isInt 33 = false := by kernel_rfl
theorem und33 : (E.P.underlying 33).isSome = true := by kernel_rfl
theorem guard33 : E.P.eqGuardType E.P.depth 33 = false := by kernel_rfl
theorem szO34 : E.P.szO 34 = some 6 := by kernel_rfl
theorem rowO34 : E.P.rowO 34 = some true := by kernel_rfl
theorem zeroL34 : E.P.zeroL 34 = some [AVal.str [], AVal.int IntKind.u64 (0), AVal.int IntKind.i64 (0), AVal.int IntKind.i64 (0), AVal.int IntKind.i64 (0), AVal.str []] := by kernel_rfl
theorem isStr34 : E.P.isStr 34 = false := by kernel_rfl
theorem isInt34 : E.P.isInt 34 = false := by kernel_rfl
theorem isComp34 : E.P.isComp 34 = true := by kernel_rfl
theorem und34 : (E.P.underlying 34).isSome = true := by kernel_rfl
theorem guard34 : E.P.eqGuardType E.P.depth 34 = false := by kernel_rfl
theorem fldO34_0 : E.P.fldO 34 0 = some (0, 1, false) := by kernel_rfl
theorem fldO34_1 : E.P.fldO 34 1 = some (1, 1, false) := by kernel_rfl
theorem fldO34_2 : E.P.fldO 34 2 = some (2, 1, false) := by kernel_rfl
theorem fldO34_3 : E.P.fldO 34 3 = some (3, 1, false) := by kernel_rfl
theorem fldO34_4 : E.P.fldO 34 4 = some (4, 1, false) := by kernel_rfl
theorem fldO34_5 : E.P.fldO 34 5 = some (5, 1, false) := by kernel_rfl
theorem places34_0 : E.P.places 34 0 = some (0, 1) := by kernel_rfl
theorem places34_1 : E.P.places 34 1 = some (1, 1) := by kernel_rfl
theorem places34_2 : E.P.places 34 2 = some (2, 1) := by kernel_rfl
theorem places34_3 : E.P.places 34 3 = some (3, 1) := by kernel_rfl
theorem places34_4 : E.P.places 34 4 = some (4, 1) := by kernel_rfl
theorem places34_5 : E.P.places 34 5 = some (5, 1) := by kernel_rfl
theorem szO35 : E.P.szO 35 = some 6 := by kernel_rfl
theorem rowO35 : E.P.rowO 35 = some true := by kernel_rfl
theorem zeroL35 : E.P.zeroL 35 = some [AVal.str [], AVal.int IntKind.u64 (0), AVal.int IntKind.i64 (0), AVal.int IntKind.i64 (0), AVal.int IntKind.i64 (0), AVal.str []] := by kernel_rfl
theorem isStr35 : E.P.isStr 35 = false := by kernel_rfl
theorem isInt35 : E.P.isInt 35 = false := by kernel_rfl
theorem isComp35 : E.P.isComp 35 = true := by kernel_rfl
theorem und35 : (E.P.underlying 35).isSome = true := by kernel_rfl
theorem guard35 : E.P.eqGuardType E.P.depth 35 = false := by kernel_rfl
theorem fldO35_0 : E.P.fldO 35 0 = some (0, 1, false) := by kernel_rfl
theorem fldO35_1 : E.P.fldO 35 1 = some (1, 1, false) := by kernel_rfl
theorem fldO35_2 : E.P.fldO 35 2 = some (2, 1, false) := by kernel_rfl
theorem fldO35_3 : E.P.fldO 35 3 = some (3, 1, false) := by kernel_rfl
theorem fldO35_4 : E.P.fldO 35 4 = some (4, 1, false) := by kernel_rfl
theorem fldO35_5 : E.P.fldO 35 5 = some (5, 1, false) := by kernel_rfl
theorem places35_0 : E.P.places 35 0 = some (0, 1) := by kernel_rfl
theorem places35_1 : E.P.places 35 1 = some (1, 1) := by kernel_rfl
theorem places35_2 : E.P.places 35 2 = some (2, 1) := by kernel_rfl
theorem places35_3 : E.P.places 35 3 = some (3, 1) := by kernel_rfl
theorem places35_4 : E.P.places 35 4 = some (4, 1) := by kernel_rfl
theorem places35_5 : E.P.places 35 5 = some (5, 1) := by kernel_rfl
theorem szO36 : E.P.szO 36 = some 1 := by kernel_rfl
theorem rowO36 : E.P.rowO 36 = some false := by kernel_rfl
theorem zeroL36 : E.P.zeroL 36 = some [AVal.sc Value.nilFunc] := by kernel_rfl
theorem isStr36 : E.P.isStr 36 = false := by kernel_rfl
theorem isInt36 : E.P.isInt 36 = false := by kernel_rfl
theorem und36 : (E.P.underlying 36).isSome = true := by kernel_rfl
theorem guard36 : E.P.eqGuardType E.P.depth 36 = false := by kernel_rfl
theorem szO37 : E.P.szO 37 = some 1 := by kernel_rfl
theorem rowO37 : E.P.rowO 37 = some false := by kernel_rfl
theorem zeroL37 : E.P.zeroL 37 = some [AVal.sc (Value.tuple { toList := [Value.string { data := { toList := [] } }, Value.string { data := { toList := [] } }] })] := by kernel_rfl
theorem isStr37 : E.P.isStr 37 = false := by kernel_rfl
theorem isInt37 : E.P.isInt 37 = false := by kernel_rfl
theorem und37 : (E.P.underlying 37).isSome = true := by kernel_rfl
theorem guard37 : E.P.eqGuardType E.P.depth 37 = false := by kernel_rfl
theorem szO38 : E.P.szO 38 = some 1 := by kernel_rfl
theorem rowO38 : E.P.rowO 38 = some false := by kernel_rfl
theorem zeroL38 : E.P.zeroL 38 = some [AVal.sc Value.nilFunc] := by kernel_rfl
theorem isStr38 : E.P.isStr 38 = false := by kernel_rfl
theorem isInt38 : E.P.isInt 38 = false := by kernel_rfl
theorem und38 : (E.P.underlying 38).isSome = true := by kernel_rfl
theorem guard38 : E.P.eqGuardType E.P.depth 38 = false := by kernel_rfl
theorem szO39 : E.P.szO 39 = some 1 := by kernel_rfl
theorem rowO39 : E.P.rowO 39 = some false := by kernel_rfl
theorem zeroL39 : E.P.zeroL 39 = some [AVal.sc Value.nilFunc] := by kernel_rfl
theorem isStr39 : E.P.isStr 39 = false := by kernel_rfl
theorem isInt39 : E.P.isInt 39 = false := by kernel_rfl
theorem und39 : (E.P.underlying 39).isSome = true := by kernel_rfl
theorem guard39 : E.P.eqGuardType E.P.depth 39 = false := by kernel_rfl
theorem szO40 : E.P.szO 40 = some 1 := by kernel_rfl
theorem rowO40 : E.P.rowO 40 = some false := by kernel_rfl
theorem zeroL40 : E.P.zeroL 40 = some [AVal.sc Value.nilFunc] := by kernel_rfl
theorem isStr40 : E.P.isStr 40 = false := by kernel_rfl
theorem isInt40 : E.P.isInt 40 = false := by kernel_rfl
theorem und40 : (E.P.underlying 40).isSome = true := by kernel_rfl
theorem guard40 : E.P.eqGuardType E.P.depth 40 = false := by kernel_rfl
theorem szO41 : E.P.szO 41 = some 1 := by kernel_rfl
theorem rowO41 : E.P.rowO 41 = some false := by kernel_rfl
theorem zeroL41 : E.P.zeroL 41 = some [AVal.sc Value.nilFunc] := by kernel_rfl
theorem isStr41 : E.P.isStr 41 = false := by kernel_rfl
theorem isInt41 : E.P.isInt 41 = false := by kernel_rfl
theorem und41 : (E.P.underlying 41).isSome = true := by kernel_rfl
theorem guard41 : E.P.eqGuardType E.P.depth 41 = false := by kernel_rfl
theorem szO42 : E.P.szO 42 = some 3 := by kernel_rfl
theorem rowO42 : E.P.rowO 42 = some true := by kernel_rfl
theorem zeroL42 : E.P.zeroL 42 = some [AVal.str [], AVal.int IntKind.u64 (0), AVal.sc (Value.slice none 0 0)] := by kernel_rfl
theorem isStr42 : E.P.isStr 42 = false := by kernel_rfl
theorem isInt42 : E.P.isInt 42 = false := by kernel_rfl
theorem isComp42 : E.P.isComp 42 = true := by kernel_rfl
theorem und42 : (E.P.underlying 42).isSome = true := by kernel_rfl
theorem guard42 : E.P.eqGuardType E.P.depth 42 = false := by kernel_rfl
theorem fldO42_0 : E.P.fldO 42 0 = some (0, 1, false) := by kernel_rfl
theorem fldO42_1 : E.P.fldO 42 1 = some (1, 1, false) := by kernel_rfl
theorem fldO42_2 : E.P.fldO 42 2 = some (2, 1, false) := by kernel_rfl
theorem places42_0 : E.P.places 42 0 = some (0, 1) := by kernel_rfl
theorem places42_1 : E.P.places 42 1 = some (1, 1) := by kernel_rfl
theorem places42_2 : E.P.places 42 2 = some (2, 1) := by kernel_rfl
theorem szO43 : E.P.szO 43 = some 3 := by kernel_rfl
theorem rowO43 : E.P.rowO 43 = some true := by kernel_rfl
theorem zeroL43 : E.P.zeroL 43 = some [AVal.str [], AVal.int IntKind.u64 (0), AVal.sc (Value.slice none 0 0)] := by kernel_rfl
theorem isStr43 : E.P.isStr 43 = false := by kernel_rfl
theorem isInt43 : E.P.isInt 43 = false := by kernel_rfl
theorem isComp43 : E.P.isComp 43 = true := by kernel_rfl
theorem und43 : (E.P.underlying 43).isSome = true := by kernel_rfl
theorem guard43 : E.P.eqGuardType E.P.depth 43 = false := by kernel_rfl
theorem fldO43_0 : E.P.fldO 43 0 = some (0, 1, false) := by kernel_rfl
theorem fldO43_1 : E.P.fldO 43 1 = some (1, 1, false) := by kernel_rfl
theorem fldO43_2 : E.P.fldO 43 2 = some (2, 1, false) := by kernel_rfl
theorem places43_0 : E.P.places 43 0 = some (0, 1) := by kernel_rfl
theorem places43_1 : E.P.places 43 1 = some (1, 1) := by kernel_rfl
theorem places43_2 : E.P.places 43 2 = some (2, 1) := by kernel_rfl
theorem szO44 : E.P.szO 44 = some 1 := by kernel_rfl
theorem rowO44 : E.P.rowO 44 = some false := by kernel_rfl
theorem zeroL44 : E.P.zeroL 44 = some [AVal.sc Value.nilFunc] := by kernel_rfl
theorem isStr44 : E.P.isStr 44 = false := by kernel_rfl
theorem isInt44 : E.P.isInt 44 = false := by kernel_rfl
theorem und44 : (E.P.underlying 44).isSome = true := by kernel_rfl
theorem guard44 : E.P.eqGuardType E.P.depth 44 = false := by kernel_rfl
theorem szO45 : E.P.szO 45 = some 1 := by kernel_rfl
theorem rowO45 : E.P.rowO 45 = some false := by kernel_rfl
theorem zeroL45 : E.P.zeroL 45 = some [AVal.sc (Value.slice none 0 0)] := by kernel_rfl
theorem elemO45 : E.P.elemO 45 = some 1 := by kernel_rfl
theorem elemBytes45 : E.P.elemBytes 45 = some 1 := by kernel_rfl
theorem elemZero45 : E.P.elemZero 45 = some [AVal.int IntKind.u8 (0)] := by kernel_rfl
theorem isStr45 : E.P.isStr 45 = false := by kernel_rfl
theorem isInt45 : E.P.isInt 45 = false := by kernel_rfl
theorem isBytes45 : E.P.isBytes 45 = true := by kernel_rfl
theorem und45 : (E.P.underlying 45).isSome = true := by kernel_rfl
theorem guard45 : E.P.eqGuardType E.P.depth 45 = false := by kernel_rfl
theorem szO46 : E.P.szO 46 = some 1 := by kernel_rfl
theorem rowO46 : E.P.rowO 46 = some false := by kernel_rfl
theorem zeroL46 : E.P.zeroL 46 = some [AVal.sc (Value.tuple { toList := [Value.slice none 0 0, Value.int IntKind.i64 (0)] })] := by kernel_rfl
theorem isStr46 : E.P.isStr 46 = false := by kernel_rfl
theorem isInt46 : E.P.isInt 46 = false := by kernel_rfl
theorem und46 : (E.P.underlying 46).isSome = true := by kernel_rfl
theorem guard46 : E.P.eqGuardType E.P.depth 46 = false := by kernel_rfl
theorem szO47 : E.P.szO 47 = some 1 := by kernel_rfl
theorem rowO47 : E.P.rowO 47 = some false := by kernel_rfl
theorem zeroL47 : E.P.zeroL 47 = some [AVal.sc Value.nilFunc] := by kernel_rfl
theorem isStr47 : E.P.isStr 47 = false := by kernel_rfl
theorem isInt47 : E.P.isInt 47 = false := by kernel_rfl
theorem und47 : (E.P.underlying 47).isSome = true := by kernel_rfl
theorem guard47 : E.P.eqGuardType E.P.depth 47 = false := by kernel_rfl
theorem szO48 : E.P.szO 48 = some 1 := by kernel_rfl
theorem rowO48 : E.P.rowO 48 = some false := by kernel_rfl
theorem zeroL48 : E.P.zeroL 48 = some [AVal.sc (Value.tuple { toList := [Value.agg { toList := [Value.string { data := { toList := [] } }, Value.int IntKind.u64 (0), Value.slice none 0 0] }, Value.int IntKind.i64 (0)] })] := by kernel_rfl
theorem isStr48 : E.P.isStr 48 = false := by kernel_rfl
theorem isInt48 : E.P.isInt 48 = false := by kernel_rfl
theorem und48 : (E.P.underlying 48).isSome = true := by kernel_rfl
theorem guard48 : E.P.eqGuardType E.P.depth 48 = false := by kernel_rfl
theorem szO49 : E.P.szO 49 = some 1 := by kernel_rfl
theorem rowO49 : E.P.rowO 49 = some false := by kernel_rfl
theorem zeroL49 : E.P.zeroL 49 = some [AVal.sc Value.nilFunc] := by kernel_rfl
theorem isStr49 : E.P.isStr 49 = false := by kernel_rfl
theorem isInt49 : E.P.isInt 49 = false := by kernel_rfl
theorem und49 : (E.P.underlying 49).isSome = true := by kernel_rfl
theorem guard49 : E.P.eqGuardType E.P.depth 49 = false := by kernel_rfl
theorem szO50 : E.P.szO 50 = some 1 := by kernel_rfl
theorem rowO50 : E.P.rowO 50 = some false := by kernel_rfl
theorem zeroL50 : E.P.zeroL 50 = some [AVal.sc (Value.tuple { toList := [Value.string { data := { toList := [] } }, Value.int IntKind.u64 (0), Value.int IntKind.i64 (0)] })] := by kernel_rfl
theorem isStr50 : E.P.isStr 50 = false := by kernel_rfl
theorem isInt50 : E.P.isInt 50 = false := by kernel_rfl
theorem und50 : (E.P.underlying 50).isSome = true := by kernel_rfl
theorem guard50 : E.P.eqGuardType E.P.depth 50 = false := by kernel_rfl
theorem szO51 : E.P.szO 51 = some 1 := by kernel_rfl
theorem rowO51 : E.P.rowO 51 = some false := by kernel_rfl
theorem zeroL51 : E.P.zeroL 51 = some [AVal.sc Value.nilFunc] := by kernel_rfl
theorem isStr51 : E.P.isStr 51 = false := by kernel_rfl
theorem isInt51 : E.P.isInt 51 = false := by kernel_rfl
theorem und51 : (E.P.underlying 51).isSome = true := by kernel_rfl
theorem guard51 : E.P.eqGuardType E.P.depth 51 = false := by kernel_rfl
theorem szO52 : E.P.szO 52 = some 1 := by kernel_rfl
theorem rowO52 : E.P.rowO 52 = some false := by kernel_rfl
theorem zeroL52 : E.P.zeroL 52 = some [AVal.sc Value.nilFunc] := by kernel_rfl
theorem isStr52 : E.P.isStr 52 = false := by kernel_rfl
theorem isInt52 : E.P.isInt 52 = false := by kernel_rfl
theorem und52 : (E.P.underlying 52).isSome = true := by kernel_rfl
theorem guard52 : E.P.eqGuardType E.P.depth 52 = false := by kernel_rfl
theorem szO53 : E.P.szO 53 = some 4 := by kernel_rfl
theorem rowO53 : E.P.rowO 53 = some true := by kernel_rfl
theorem zeroL53 : E.P.zeroL 53 = some [AVal.int IntKind.u64 (0), AVal.int IntKind.i64 (0), AVal.int IntKind.i64 (0), AVal.int IntKind.i64 (0)] := by kernel_rfl
theorem isStr53 : E.P.isStr 53 = false := by kernel_rfl
theorem isInt53 : E.P.isInt 53 = false := by kernel_rfl
theorem isComp53 : E.P.isComp 53 = true := by kernel_rfl
theorem und53 : (E.P.underlying 53).isSome = true := by kernel_rfl
theorem guard53 : E.P.eqGuardType E.P.depth 53 = false := by kernel_rfl
theorem fldO53_0 : E.P.fldO 53 0 = some (0, 1, false) := by kernel_rfl
theorem fldO53_1 : E.P.fldO 53 1 = some (1, 1, false) := by kernel_rfl
theorem fldO53_2 : E.P.fldO 53 2 = some (2, 1, false) := by kernel_rfl
theorem fldO53_3 : E.P.fldO 53 3 = some (3, 1, false) := by kernel_rfl
theorem places53_0 : E.P.places 53 0 = some (0, 1) := by kernel_rfl
theorem places53_1 : E.P.places 53 1 = some (1, 1) := by kernel_rfl
theorem places53_2 : E.P.places 53 2 = some (2, 1) := by kernel_rfl
theorem places53_3 : E.P.places 53 3 = some (3, 1) := by kernel_rfl
theorem szO54 : E.P.szO 54 = some 4 := by kernel_rfl
theorem rowO54 : E.P.rowO 54 = some true := by kernel_rfl
theorem zeroL54 : E.P.zeroL 54 = some [AVal.int IntKind.u64 (0), AVal.int IntKind.i64 (0), AVal.int IntKind.i64 (0), AVal.int IntKind.i64 (0)] := by kernel_rfl
theorem isStr54 : E.P.isStr 54 = false := by kernel_rfl
theorem isInt54 : E.P.isInt 54 = false := by kernel_rfl
theorem isComp54 : E.P.isComp 54 = true := by kernel_rfl
theorem und54 : (E.P.underlying 54).isSome = true := by kernel_rfl
theorem guard54 : E.P.eqGuardType E.P.depth 54 = false := by kernel_rfl
theorem fldO54_0 : E.P.fldO 54 0 = some (0, 1, false) := by kernel_rfl
theorem fldO54_1 : E.P.fldO 54 1 = some (1, 1, false) := by kernel_rfl
theorem fldO54_2 : E.P.fldO 54 2 = some (2, 1, false) := by kernel_rfl
theorem fldO54_3 : E.P.fldO 54 3 = some (3, 1, false) := by kernel_rfl
theorem places54_0 : E.P.places 54 0 = some (0, 1) := by kernel_rfl
theorem places54_1 : E.P.places 54 1 = some (1, 1) := by kernel_rfl
theorem places54_2 : E.P.places 54 2 = some (2, 1) := by kernel_rfl
theorem places54_3 : E.P.places 54 3 = some (3, 1) := by kernel_rfl
theorem szO55 : E.P.szO 55 = some 1 := by kernel_rfl
theorem rowO55 : E.P.rowO 55 = some false := by kernel_rfl
theorem zeroL55 : E.P.zeroL 55 = some [AVal.sc (Value.tuple { toList := [Value.agg { toList := [Value.int IntKind.u64 (0), Value.int IntKind.i64 (0), Value.int IntKind.i64 (0), Value.int IntKind.i64 (0)] }, Value.int IntKind.i64 (0)] })] := by kernel_rfl
theorem isStr55 : E.P.isStr 55 = false := by kernel_rfl
theorem isInt55 : E.P.isInt 55 = false := by kernel_rfl
theorem und55 : (E.P.underlying 55).isSome = true := by kernel_rfl
theorem guard55 : E.P.eqGuardType E.P.depth 55 = false := by kernel_rfl
theorem szO56 : E.P.szO 56 = some 1 := by kernel_rfl
theorem rowO56 : E.P.rowO 56 = some false := by kernel_rfl
theorem zeroL56 : E.P.zeroL 56 = some [AVal.sc Value.nilFunc] := by kernel_rfl
theorem isStr56 : E.P.isStr 56 = false := by kernel_rfl
theorem isInt56 : E.P.isInt 56 = false := by kernel_rfl
theorem und56 : (E.P.underlying 56).isSome = true := by kernel_rfl
theorem guard56 : E.P.eqGuardType E.P.depth 56 = false := by kernel_rfl
theorem szO57 : E.P.szO 57 = some 4 := by kernel_rfl
theorem rowO57 : E.P.rowO 57 = some true := by kernel_rfl
theorem zeroL57 : E.P.zeroL 57 = some [AVal.int IntKind.u64 (0), AVal.int IntKind.i64 (0), AVal.int IntKind.i64 (0), AVal.int IntKind.i64 (0)] := by kernel_rfl
theorem isStr57 : E.P.isStr 57 = false := by kernel_rfl
theorem isInt57 : E.P.isInt 57 = false := by kernel_rfl
theorem isComp57 : E.P.isComp 57 = true := by kernel_rfl
theorem und57 : (E.P.underlying 57).isSome = true := by kernel_rfl
theorem guard57 : E.P.eqGuardType E.P.depth 57 = false := by kernel_rfl
theorem fldO57_0 : E.P.fldO 57 0 = some (0, 1, false) := by kernel_rfl
theorem fldO57_1 : E.P.fldO 57 1 = some (1, 1, false) := by kernel_rfl
theorem fldO57_2 : E.P.fldO 57 2 = some (2, 1, false) := by kernel_rfl
theorem fldO57_3 : E.P.fldO 57 3 = some (3, 1, false) := by kernel_rfl
theorem places57_0 : E.P.places 57 0 = some (0, 1) := by kernel_rfl
theorem places57_1 : E.P.places 57 1 = some (1, 1) := by kernel_rfl
theorem places57_2 : E.P.places 57 2 = some (2, 1) := by kernel_rfl
theorem places57_3 : E.P.places 57 3 = some (3, 1) := by kernel_rfl
theorem szO58 : E.P.szO 58 = some 1 := by kernel_rfl
theorem rowO58 : E.P.rowO 58 = some false := by kernel_rfl
theorem zeroL58 : E.P.zeroL 58 = some [AVal.sc (Value.tuple { toList := [Value.agg { toList := [Value.int IntKind.u64 (0), Value.int IntKind.i64 (0), Value.int IntKind.i64 (0), Value.int IntKind.i64 (0)] }, Value.int IntKind.i64 (0)] })] := by kernel_rfl
theorem isStr58 : E.P.isStr 58 = false := by kernel_rfl
theorem isInt58 : E.P.isInt 58 = false := by kernel_rfl
theorem und58 : (E.P.underlying 58).isSome = true := by kernel_rfl
theorem guard58 : E.P.eqGuardType E.P.depth 58 = false := by kernel_rfl
theorem szO59 : E.P.szO 59 = some 1 := by kernel_rfl
theorem rowO59 : E.P.rowO 59 = some false := by kernel_rfl
theorem zeroL59 : E.P.zeroL 59 = some [AVal.sc Value.nilFunc] := by kernel_rfl
theorem isStr59 : E.P.isStr 59 = false := by kernel_rfl
theorem isInt59 : E.P.isInt 59 = false := by kernel_rfl
theorem und59 : (E.P.underlying 59).isSome = true := by kernel_rfl
theorem guard59 : E.P.eqGuardType E.P.depth 59 = false := by kernel_rfl
theorem szO60 : E.P.szO 60 = some 1 := by kernel_rfl
theorem rowO60 : E.P.rowO 60 = some false := by kernel_rfl
theorem zeroL60 : E.P.zeroL 60 = some [AVal.sc Value.nilFunc] := by kernel_rfl
theorem isStr60 : E.P.isStr 60 = false := by kernel_rfl
theorem isInt60 : E.P.isInt 60 = false := by kernel_rfl
theorem und60 : (E.P.underlying 60).isSome = true := by kernel_rfl
theorem guard60 : E.P.eqGuardType E.P.depth 60 = false := by kernel_rfl
theorem szO61 : E.P.szO 61 = some 1 := by kernel_rfl
theorem rowO61 : E.P.rowO 61 = some false := by kernel_rfl
theorem zeroL61 : E.P.zeroL 61 = some [AVal.sc Value.nilFunc] := by kernel_rfl
theorem isStr61 : E.P.isStr 61 = false := by kernel_rfl
theorem isInt61 : E.P.isInt 61 = false := by kernel_rfl
theorem und61 : (E.P.underlying 61).isSome = true := by kernel_rfl
theorem guard61 : E.P.eqGuardType E.P.depth 61 = false := by kernel_rfl
theorem szO62 : E.P.szO 62 = some 1 := by kernel_rfl
theorem rowO62 : E.P.rowO 62 = some false := by kernel_rfl
theorem zeroL62 : E.P.zeroL 62 = some [AVal.sc Value.nilFunc] := by kernel_rfl
theorem isStr62 : E.P.isStr 62 = false := by kernel_rfl
theorem isInt62 : E.P.isInt 62 = false := by kernel_rfl
theorem und62 : (E.P.underlying 62).isSome = true := by kernel_rfl
theorem guard62 : E.P.eqGuardType E.P.depth 62 = false := by kernel_rfl
theorem szO63 : E.P.szO 63 = some 1 := by kernel_rfl
theorem rowO63 : E.P.rowO 63 = some false := by kernel_rfl
theorem zeroL63 : E.P.zeroL 63 = some [AVal.sc Value.nilFunc] := by kernel_rfl
theorem isStr63 : E.P.isStr 63 = false := by kernel_rfl
theorem isInt63 : E.P.isInt 63 = false := by kernel_rfl
theorem und63 : (E.P.underlying 63).isSome = true := by kernel_rfl
theorem guard63 : E.P.eqGuardType E.P.depth 63 = false := by kernel_rfl
theorem szO64 : E.P.szO 64 = some 1 := by kernel_rfl
theorem rowO64 : E.P.rowO 64 = some false := by kernel_rfl
theorem zeroL64 : E.P.zeroL 64 = some [AVal.sc Value.nilFunc] := by kernel_rfl
theorem isStr64 : E.P.isStr 64 = false := by kernel_rfl
theorem isInt64 : E.P.isInt 64 = false := by kernel_rfl
theorem und64 : (E.P.underlying 64).isSome = true := by kernel_rfl
theorem guard64 : E.P.eqGuardType E.P.depth 64 = false := by kernel_rfl
theorem szO65 : E.P.szO 65 = some 1 := by kernel_rfl
theorem rowO65 : E.P.rowO 65 = some false := by kernel_rfl
theorem zeroL65 : E.P.zeroL 65 = some [AVal.sc Value.nilFunc] := by kernel_rfl
theorem isStr65 : E.P.isStr 65 = false := by kernel_rfl
theorem isInt65 : E.P.isInt 65 = false := by kernel_rfl
theorem und65 : (E.P.underlying 65).isSome = true := by kernel_rfl
theorem guard65 : E.P.eqGuardType E.P.depth 65 = false := by kernel_rfl
theorem szO66 : E.P.szO 66 = some 1 := by kernel_rfl
theorem rowO66 : E.P.rowO 66 = some false := by kernel_rfl
theorem zeroL66 : E.P.zeroL 66 = some [AVal.sc (Value.tuple { toList := [Value.agg { toList := [Value.int IntKind.u64 (0), Value.int IntKind.i64 (0), Value.int IntKind.i64 (0), Value.int IntKind.i64 (0)] }, Value.slice none 0 0, Value.int IntKind.i64 (0)] })] := by kernel_rfl
theorem isStr66 : E.P.isStr 66 = false := by kernel_rfl
theorem isInt66 : E.P.isInt 66 = false := by kernel_rfl
theorem und66 : (E.P.underlying 66).isSome = true := by kernel_rfl
theorem guard66 : E.P.eqGuardType E.P.depth 66 = false := by kernel_rfl
theorem szO67 : E.P.szO 67 = some 1 := by kernel_rfl
theorem rowO67 : E.P.rowO 67 = some false := by kernel_rfl
theorem zeroL67 : E.P.zeroL 67 = some [AVal.sc Value.nilFunc] := by kernel_rfl
theorem isStr67 : E.P.isStr 67 = false := by kernel_rfl
theorem isInt67 : E.P.isInt 67 = false := by kernel_rfl
theorem und67 : (E.P.underlying 67).isSome = true := by kernel_rfl
theorem guard67 : E.P.eqGuardType E.P.depth 67 = false := by kernel_rfl
theorem szO68 : E.P.szO 68 = some 1 := by kernel_rfl
theorem rowO68 : E.P.rowO 68 = some false := by kernel_rfl
theorem zeroL68 : E.P.zeroL 68 = some [AVal.sc Value.nilFunc] := by kernel_rfl
theorem isStr68 : E.P.isStr 68 = false := by kernel_rfl
theorem isInt68 : E.P.isInt 68 = false := by kernel_rfl
theorem und68 : (E.P.underlying 68).isSome = true := by kernel_rfl
theorem guard68 : E.P.eqGuardType E.P.depth 68 = false := by kernel_rfl
theorem szO69 : E.P.szO 69 = some 4 := by kernel_rfl
theorem rowO69 : E.P.rowO 69 = some true := by kernel_rfl
theorem zeroL69 : E.P.zeroL 69 = some [AVal.str [], AVal.str [], AVal.int IntKind.i64 (0), AVal.bool false] := by kernel_rfl
theorem isStr69 : E.P.isStr 69 = false := by kernel_rfl
theorem isInt69 : E.P.isInt 69 = false := by kernel_rfl
theorem isComp69 : E.P.isComp 69 = true := by kernel_rfl
theorem und69 : (E.P.underlying 69).isSome = true := by kernel_rfl
theorem guard69 : E.P.eqGuardType E.P.depth 69 = false := by kernel_rfl
theorem fldO69_0 : E.P.fldO 69 0 = some (0, 1, false) := by kernel_rfl
theorem fldO69_1 : E.P.fldO 69 1 = some (1, 1, false) := by kernel_rfl
theorem fldO69_2 : E.P.fldO 69 2 = some (2, 1, false) := by kernel_rfl
theorem fldO69_3 : E.P.fldO 69 3 = some (3, 1, false) := by kernel_rfl
theorem places69_0 : E.P.places 69 0 = some (0, 1) := by kernel_rfl
theorem places69_1 : E.P.places 69 1 = some (1, 1) := by kernel_rfl
theorem places69_2 : E.P.places 69 2 = some (2, 1) := by kernel_rfl
theorem places69_3 : E.P.places 69 3 = some (3, 1) := by kernel_rfl
theorem szO70 : E.P.szO 70 = some 4 := by kernel_rfl
theorem rowO70 : E.P.rowO 70 = some true := by kernel_rfl
theorem zeroL70 : E.P.zeroL 70 = some [AVal.str [], AVal.str [], AVal.int IntKind.i64 (0), AVal.bool false] := by kernel_rfl
theorem isStr70 : E.P.isStr 70 = false := by kernel_rfl
theorem isInt70 : E.P.isInt 70 = false := by kernel_rfl
theorem isComp70 : E.P.isComp 70 = true := by kernel_rfl
theorem und70 : (E.P.underlying 70).isSome = true := by kernel_rfl
theorem guard70 : E.P.eqGuardType E.P.depth 70 = false := by kernel_rfl
theorem fldO70_0 : E.P.fldO 70 0 = some (0, 1, false) := by kernel_rfl
theorem fldO70_1 : E.P.fldO 70 1 = some (1, 1, false) := by kernel_rfl
theorem fldO70_2 : E.P.fldO 70 2 = some (2, 1, false) := by kernel_rfl
theorem fldO70_3 : E.P.fldO 70 3 = some (3, 1, false) := by kernel_rfl
theorem places70_0 : E.P.places 70 0 = some (0, 1) := by kernel_rfl
theorem places70_1 : E.P.places 70 1 = some (1, 1) := by kernel_rfl
theorem places70_2 : E.P.places 70 2 = some (2, 1) := by kernel_rfl
theorem places70_3 : E.P.places 70 3 = some (3, 1) := by kernel_rfl
theorem szO71 : E.P.szO 71 = some 1 := by kernel_rfl
theorem rowO71 : E.P.rowO 71 = some false := by kernel_rfl
theorem zeroL71 : E.P.zeroL 71 = some [AVal.sc (Value.tuple { toList := [Value.slice none 0 0, Value.agg { toList := [Value.string { data := { toList := [] } }, Value.string { data := { toList := [] } }, Value.int IntKind.i64 (0), Value.bool false] }, Value.int IntKind.i64 (0)] })] := by kernel_rfl
theorem isStr71 : E.P.isStr 71 = false := by kernel_rfl
theorem isInt71 : E.P.isInt 71 = false := by kernel_rfl
theorem und71 : (E.P.underlying 71).isSome = true := by kernel_rfl
theorem guard71 : E.P.eqGuardType E.P.depth 71 = false := by kernel_rfl
theorem szO72 : E.P.szO 72 = some 1 := by kernel_rfl
theorem rowO72 : E.P.rowO 72 = some false := by kernel_rfl
theorem zeroL72 : E.P.zeroL 72 = some [AVal.sc Value.nilFunc] := by kernel_rfl
theorem isStr72 : E.P.isStr 72 = false := by kernel_rfl
theorem isInt72 : E.P.isInt 72 = false := by kernel_rfl
theorem und72 : (E.P.underlying 72).isSome = true := by kernel_rfl
theorem guard72 : E.P.eqGuardType E.P.depth 72 = false := by kernel_rfl
theorem szO73 : E.P.szO 73 = some 1 := by kernel_rfl
theorem rowO73 : E.P.rowO 73 = some false := by kernel_rfl
theorem zeroL73 : E.P.zeroL 73 = some [AVal.sc (Value.tuple { toList := [Value.agg { toList := [Value.string { data := { toList := [] } }, Value.string { data := { toList := [] } }, Value.int IntKind.i64 (0), Value.bool false] }, Value.bool false] })] := by kernel_rfl
theorem isStr73 : E.P.isStr 73 = false := by kernel_rfl
theorem isInt73 : E.P.isInt 73 = false := by kernel_rfl
theorem und73 : (E.P.underlying 73).isSome = true := by kernel_rfl
theorem guard73 : E.P.eqGuardType E.P.depth 73 = false := by kernel_rfl
theorem szO74 : E.P.szO 74 = some 1 := by kernel_rfl
theorem rowO74 : E.P.rowO 74 = some false := by kernel_rfl
theorem zeroL74 : E.P.zeroL 74 = some [AVal.sc Value.nilFunc] := by kernel_rfl
theorem isStr74 : E.P.isStr 74 = false := by kernel_rfl
theorem isInt74 : E.P.isInt 74 = false := by kernel_rfl
theorem und74 : (E.P.underlying 74).isSome = true := by kernel_rfl
theorem guard74 : E.P.eqGuardType E.P.depth 74 = false := by kernel_rfl
theorem szO75 : E.P.szO 75 = some 1 := by kernel_rfl
theorem rowO75 : E.P.rowO 75 = some false := by kernel_rfl
theorem zeroL75 : E.P.zeroL 75 = some [AVal.sc Value.nilFunc] := by kernel_rfl
theorem isStr75 : E.P.isStr 75 = false := by kernel_rfl
theorem isInt75 : E.P.isInt 75 = false := by kernel_rfl
theorem und75 : (E.P.underlying 75).isSome = true := by kernel_rfl
theorem guard75 : E.P.eqGuardType E.P.depth 75 = false := by kernel_rfl
theorem szO76 : E.P.szO 76 = some 1 := by kernel_rfl
theorem rowO76 : E.P.rowO 76 = some false := by kernel_rfl
theorem zeroL76 : E.P.zeroL 76 = some [AVal.sc Value.nilFunc] := by kernel_rfl
theorem isStr76 : E.P.isStr 76 = false := by kernel_rfl
theorem isInt76 : E.P.isInt 76 = false := by kernel_rfl
theorem und76 : (E.P.underlying 76).isSome = true := by kernel_rfl
theorem guard76 : E.P.eqGuardType E.P.depth 76 = false := by kernel_rfl
theorem szO77 : E.P.szO 77 = some 1 := by kernel_rfl
theorem rowO77 : E.P.rowO 77 = some false := by kernel_rfl
theorem zeroL77 : E.P.zeroL 77 = some [AVal.sc Value.nilFunc] := by kernel_rfl
theorem isStr77 : E.P.isStr 77 = false := by kernel_rfl
theorem isInt77 : E.P.isInt 77 = false := by kernel_rfl
theorem und77 : (E.P.underlying 77).isSome = true := by kernel_rfl
theorem guard77 : E.P.eqGuardType E.P.depth 77 = false := by kernel_rfl
theorem szO78 : E.P.szO 78 = some 1 := by kernel_rfl
theorem rowO78 : E.P.rowO 78 = some false := by kernel_rfl
theorem zeroL78 : E.P.zeroL 78 = some [AVal.sc Value.nilFunc] := by kernel_rfl
theorem isStr78 : E.P.isStr 78 = false := by kernel_rfl
theorem isInt78 : E.P.isInt 78 = false := by kernel_rfl
theorem und78 : (E.P.underlying 78).isSome = true := by kernel_rfl
theorem guard78 : E.P.eqGuardType E.P.depth 78 = false := by kernel_rfl
theorem szO79 : E.P.szO 79 = some 1 := by kernel_rfl
theorem rowO79 : E.P.rowO 79 = some false := by kernel_rfl
theorem zeroL79 : E.P.zeroL 79 = some [AVal.sc Value.nilFunc] := by kernel_rfl
theorem isStr79 : E.P.isStr 79 = false := by kernel_rfl
theorem isInt79 : E.P.isInt 79 = false := by kernel_rfl
theorem und79 : (E.P.underlying 79).isSome = true := by kernel_rfl
theorem guard79 : E.P.eqGuardType E.P.depth 79 = false := by kernel_rfl
theorem szO80 : E.P.szO 80 = some 1 := by kernel_rfl
theorem rowO80 : E.P.rowO 80 = some false := by kernel_rfl
theorem zeroL80 : E.P.zeroL 80 = some [AVal.sc Value.nilFunc] := by kernel_rfl
theorem isStr80 : E.P.isStr 80 = false := by kernel_rfl
theorem isInt80 : E.P.isInt 80 = false := by kernel_rfl
theorem und80 : (E.P.underlying 80).isSome = true := by kernel_rfl
theorem guard80 : E.P.eqGuardType E.P.depth 80 = false := by kernel_rfl
theorem szO81 : E.P.szO 81 = some 1 := by kernel_rfl
theorem rowO81 : E.P.rowO 81 = some false := by kernel_rfl
theorem zeroL81 : E.P.zeroL 81 = some [AVal.sc Value.nilFunc] := by kernel_rfl
theorem isStr81 : E.P.isStr 81 = false := by kernel_rfl
theorem isInt81 : E.P.isInt 81 = false := by kernel_rfl
theorem und81 : (E.P.underlying 81).isSome = true := by kernel_rfl
theorem guard81 : E.P.eqGuardType E.P.depth 81 = false := by kernel_rfl
theorem szO82 : E.P.szO 82 = some 1 := by kernel_rfl
theorem rowO82 : E.P.rowO 82 = some false := by kernel_rfl
theorem zeroL82 : E.P.zeroL 82 = some [AVal.sc Value.nilFunc] := by kernel_rfl
theorem isStr82 : E.P.isStr 82 = false := by kernel_rfl
theorem isInt82 : E.P.isInt 82 = false := by kernel_rfl
theorem und82 : (E.P.underlying 82).isSome = true := by kernel_rfl
theorem guard82 : E.P.eqGuardType E.P.depth 82 = false := by kernel_rfl
theorem szO83 : E.P.szO 83 = some 1 := by kernel_rfl
theorem rowO83 : E.P.rowO 83 = some false := by kernel_rfl
theorem zeroL83 : E.P.zeroL 83 = some [AVal.sc Value.nilFunc] := by kernel_rfl
theorem isStr83 : E.P.isStr 83 = false := by kernel_rfl
theorem isInt83 : E.P.isInt 83 = false := by kernel_rfl
theorem und83 : (E.P.underlying 83).isSome = true := by kernel_rfl
theorem guard83 : E.P.eqGuardType E.P.depth 83 = false := by kernel_rfl
theorem szO84 : E.P.szO 84 = some 1 := by kernel_rfl
theorem rowO84 : E.P.rowO 84 = some false := by kernel_rfl
theorem zeroL84 : E.P.zeroL 84 = some [AVal.sc Value.nilFunc] := by kernel_rfl
theorem isStr84 : E.P.isStr 84 = false := by kernel_rfl
theorem isInt84 : E.P.isInt 84 = false := by kernel_rfl
theorem und84 : (E.P.underlying 84).isSome = true := by kernel_rfl
theorem guard84 : E.P.eqGuardType E.P.depth 84 = false := by kernel_rfl
theorem szO85 : E.P.szO 85 = some 1 := by kernel_rfl
theorem rowO85 : E.P.rowO 85 = some false := by kernel_rfl
theorem zeroL85 : E.P.zeroL 85 = some [AVal.sc Value.nilFunc] := by kernel_rfl
theorem isStr85 : E.P.isStr 85 = false := by kernel_rfl
theorem isInt85 : E.P.isInt 85 = false := by kernel_rfl
theorem und85 : (E.P.underlying 85).isSome = true := by kernel_rfl
theorem guard85 : E.P.eqGuardType E.P.depth 85 = false := by kernel_rfl
theorem szO86 : E.P.szO 86 = some 1 := by kernel_rfl
theorem rowO86 : E.P.rowO 86 = some false := by kernel_rfl
theorem zeroL86 : E.P.zeroL 86 = some [AVal.sc (Value.tuple { toList := [Value.slice none 0 0, Value.int IntKind.i64 (0)] })] := by kernel_rfl
theorem isStr86 : E.P.isStr 86 = false := by kernel_rfl
theorem isInt86 : E.P.isInt 86 = false := by kernel_rfl
theorem und86 : (E.P.underlying 86).isSome = true := by kernel_rfl
theorem guard86 : E.P.eqGuardType E.P.depth 86 = false := by kernel_rfl
theorem szO87 : E.P.szO 87 = some 1 := by kernel_rfl
theorem rowO87 : E.P.rowO 87 = some false := by kernel_rfl
theorem zeroL87 : E.P.zeroL 87 = some [AVal.sc Value.nilFunc] := by kernel_rfl
theorem isStr87 : E.P.isStr 87 = false := by kernel_rfl
theorem isInt87 : E.P.isInt 87 = false := by kernel_rfl
theorem und87 : (E.P.underlying 87).isSome = true := by kernel_rfl
theorem guard87 : E.P.eqGuardType E.P.depth 87 = false := by kernel_rfl
theorem szO88 : E.P.szO 88 = some 1 := by kernel_rfl
theorem rowO88 : E.P.rowO 88 = some false := by kernel_rfl
theorem zeroL88 : E.P.zeroL 88 = some [AVal.sc Value.nilFunc] := by kernel_rfl
theorem isStr88 : E.P.isStr 88 = false := by kernel_rfl
theorem isInt88 : E.P.isInt 88 = false := by kernel_rfl
theorem und88 : (E.P.underlying 88).isSome = true := by kernel_rfl
theorem guard88 : E.P.eqGuardType E.P.depth 88 = false := by kernel_rfl
theorem szO89 : E.P.szO 89 = some 1 := by kernel_rfl
theorem rowO89 : E.P.rowO 89 = some false := by kernel_rfl
theorem zeroL89 : E.P.zeroL 89 = some [AVal.sc Value.nilFunc] := by kernel_rfl
theorem isStr89 : E.P.isStr 89 = false := by kernel_rfl
theorem isInt89 : E.P.isInt 89 = false := by kernel_rfl
theorem und89 : (E.P.underlying 89).isSome = true := by kernel_rfl
theorem guard89 : E.P.eqGuardType E.P.depth 89 = false := by kernel_rfl
theorem szO90 : E.P.szO 90 = some 1 := by kernel_rfl
theorem rowO90 : E.P.rowO 90 = some false := by kernel_rfl
theorem zeroL90 : E.P.zeroL 90 = some [AVal.sc Value.nilFunc] := by kernel_rfl
theorem isStr90 : E.P.isStr 90 = false := by kernel_rfl
theorem isInt90 : E.P.isInt 90 = false := by kernel_rfl
theorem und90 : (E.P.underlying 90).isSome = true := by kernel_rfl
theorem guard90 : E.P.eqGuardType E.P.depth 90 = false := by kernel_rfl
theorem szO91 : E.P.szO 91 = some 1 := by kernel_rfl
theorem rowO91 : E.P.rowO 91 = some false := by kernel_rfl
theorem zeroL91 : E.P.zeroL 91 = some [AVal.sc Value.nilFunc] := by kernel_rfl
theorem isStr91 : E.P.isStr 91 = false := by kernel_rfl
theorem isInt91 : E.P.isInt 91 = false := by kernel_rfl
theorem und91 : (E.P.underlying 91).isSome = true := by kernel_rfl
theorem guard91 : E.P.eqGuardType E.P.depth 91 = false := by kernel_rfl
theorem szO92 : E.P.szO 92 = some 1 := by kernel_rfl
theorem rowO92 : E.P.rowO 92 = some false := by kernel_rfl
theorem zeroL92 : E.P.zeroL 92 = some [AVal.sc Value.nilFunc] := by kernel_rfl
theorem isStr92 : E.P.isStr 92 = false := by kernel_rfl
theorem isInt92 : E.P.isInt 92 = false := by kernel_rfl
theorem und92 : (E.P.underlying 92).isSome = true := by kernel_rfl
theorem guard92 : E.P.eqGuardType E.P.depth 92 = false := by kernel_rfl
theorem szO93 : E.P.szO 93 = some 1 := by kernel_rfl
theorem rowO93 : E.P.rowO 93 = some false := by kernel_rfl
theorem zeroL93 : E.P.zeroL 93 = some [AVal.sc Value.nilFunc] := by kernel_rfl
theorem isStr93 : E.P.isStr 93 = false := by kernel_rfl
theorem isInt93 : E.P.isInt 93 = false := by kernel_rfl
theorem und93 : (E.P.underlying 93).isSome = true := by kernel_rfl
theorem guard93 : E.P.eqGuardType E.P.depth 93 = false := by kernel_rfl
theorem szO94 : E.P.szO 94 = some 1 := by kernel_rfl
theorem rowO94 : E.P.rowO 94 = some false := by kernel_rfl
theorem zeroL94 : E.P.zeroL 94 = some [AVal.sc Value.nilFunc] := by kernel_rfl
theorem isStr94 : E.P.isStr 94 = false := by kernel_rfl
theorem isInt94 : E.P.isInt 94 = false := by kernel_rfl
theorem und94 : (E.P.underlying 94).isSome = true := by kernel_rfl
theorem guard94 : E.P.eqGuardType E.P.depth 94 = false := by kernel_rfl
theorem szO95 : E.P.szO 95 = some 1 := by kernel_rfl
theorem rowO95 : E.P.rowO 95 = some false := by kernel_rfl
theorem zeroL95 : E.P.zeroL 95 = some [AVal.sc (Value.tuple { toList := [Value.agg { toList := [Value.string { data := { toList := [] } }, Value.int IntKind.u64 (0), Value.slice none 0 0] }, Value.int IntKind.i64 (0), Value.int IntKind.i64 (0)] })] := by kernel_rfl
theorem isStr95 : E.P.isStr 95 = false := by kernel_rfl
theorem isInt95 : E.P.isInt 95 = false := by kernel_rfl
theorem und95 : (E.P.underlying 95).isSome = true := by kernel_rfl
theorem guard95 : E.P.eqGuardType E.P.depth 95 = false := by kernel_rfl
theorem szO96 : E.P.szO 96 = some 1 := by kernel_rfl
theorem rowO96 : E.P.rowO 96 = some false := by kernel_rfl
theorem zeroL96 : E.P.zeroL 96 = some [AVal.sc Value.nilFunc] := by kernel_rfl
theorem isStr96 : E.P.isStr 96 = false := by kernel_rfl
theorem isInt96 : E.P.isInt 96 = false := by kernel_rfl
theorem und96 : (E.P.underlying 96).isSome = true := by kernel_rfl
theorem guard96 : E.P.eqGuardType E.P.depth 96 = false := by kernel_rfl
theorem szO97 : E.P.szO 97 = some 1 := by kernel_rfl
theorem rowO97 : E.P.rowO 97 = some false := by kernel_rfl
theorem zeroL97 : E.P.zeroL 97 = some [AVal.sc (Value.tuple { toList := [Value.slice none 0 0, Value.bool false] })] := by kernel_rfl
theorem isStr97 : E.P.isStr 97 = false := by kernel_rfl
theorem isInt97 : E.P.isInt 97 = false := by kernel_rfl
theorem und97 : (E.P.underlying 97).isSome = true := by kernel_rfl
theorem guard97 : E.P.eqGuardType E.P.depth 97 = false := by kernel_rfl
theorem szO98 : E.P.szO 98 = some 1 := by kernel_rfl
theorem rowO98 : E.P.rowO 98 = some false := by kernel_rfl
theorem zeroL98 : E.P.zeroL 98 = some [AVal.sc Value.nilFunc] := by kernel_rfl
theorem isStr98 : E.P.isStr 98 = false := by kernel_rfl
theorem isInt98 : E.P.isInt 98 = false := by kernel_rfl
theorem und98 : (E.P.underlying 98).isSome = true := by kernel_rfl
theorem guard98 : E.P.eqGuardType E.P.depth 98 = false := by kernel_rfl
theorem szO99 : E.P.szO 99 = some 1 := by kernel_rfl
theorem rowO99 : E.P.rowO 99 = some false := by kernel_rfl
theorem zeroL99 : E.P.zeroL 99 = some [AVal.sc Value.nilFunc] := by kernel_rfl
theorem isStr99 : E.P.isStr 99 = false := by kernel_rfl
theorem isInt99 : E.P.isInt 99 = false := by kernel_rfl
theorem und99 : (E.P.underlying 99).isSome = true := by kernel_rfl
theorem guard99 : E.P.eqGuardType E.P.depth 99 = false := by kernel_rfl
theorem szO100 : E.P.szO 100 = some 1 := by kernel_rfl
theorem rowO100 : E.P.rowO 100 = some false := by kernel_rfl
theorem zeroL100 : E.P.zeroL 100 = some [AVal.sc (Value.pointer none)] := by kernel_rfl
theorem isStr100 : E.P.isStr 100 = false := by kernel_rfl
theorem isInt100 : E.P.isInt 100 = false := by kernel_rfl
theorem ptrT100 : ptrT E.P 100 = true := by kernel_rfl
theorem und100 : (E.P.underlying 100).isSome = true := by kernel_rfl
theorem guard100 : E.P.eqGuardType E.P.depth 100 = false := by kernel_rfl
theorem szO101 : E.P.szO 101 = some 1 := by kernel_rfl
theorem rowO101 : E.P.rowO 101 = some false := by kernel_rfl
theorem zeroL101 : E.P.zeroL 101 = some [AVal.sc Value.nilFunc] := by kernel_rfl
theorem isStr101 : E.P.isStr 101 = false := by kernel_rfl
theorem isInt101 : E.P.isInt 101 = false := by kernel_rfl
theorem und101 : (E.P.underlying 101).isSome = true := by kernel_rfl
theorem guard101 : E.P.eqGuardType E.P.depth 101 = false := by kernel_rfl
theorem szO102 : E.P.szO 102 = some 1 := by kernel_rfl
theorem rowO102 : E.P.rowO 102 = some false := by kernel_rfl
theorem zeroL102 : E.P.zeroL 102 = some [AVal.sc Value.nilFunc] := by kernel_rfl
theorem isStr102 : E.P.isStr 102 = false := by kernel_rfl
theorem isInt102 : E.P.isInt 102 = false := by kernel_rfl
theorem und102 : (E.P.underlying 102).isSome = true := by kernel_rfl
theorem guard102 : E.P.eqGuardType E.P.depth 102 = false := by kernel_rfl
theorem szO103 : E.P.szO 103 = some 1 := by kernel_rfl
theorem rowO103 : E.P.rowO 103 = some false := by kernel_rfl
theorem zeroL103 : E.P.zeroL 103 = some [AVal.sc (Value.pointer none)] := by kernel_rfl
theorem isStr103 : E.P.isStr 103 = false := by kernel_rfl
theorem isInt103 : E.P.isInt 103 = false := by kernel_rfl
theorem ptrT103 : ptrT E.P 103 = true := by kernel_rfl
theorem und103 : (E.P.underlying 103).isSome = true := by kernel_rfl
theorem guard103 : E.P.eqGuardType E.P.depth 103 = false := by kernel_rfl
theorem szO104 : E.P.szO 104 = some 1 := by kernel_rfl
theorem rowO104 : E.P.rowO 104 = some false := by kernel_rfl
theorem zeroL104 : E.P.zeroL 104 = some [AVal.sc Value.nilFunc] := by kernel_rfl
theorem isStr104 : E.P.isStr 104 = false := by kernel_rfl
theorem isInt104 : E.P.isInt 104 = false := by kernel_rfl
theorem und104 : (E.P.underlying 104).isSome = true := by kernel_rfl
theorem guard104 : E.P.eqGuardType E.P.depth 104 = false := by kernel_rfl
theorem szO105 : E.P.szO 105 = some 1 := by kernel_rfl
theorem rowO105 : E.P.rowO 105 = some false := by kernel_rfl
theorem zeroL105 : E.P.zeroL 105 = some [AVal.sc Value.nilFunc] := by kernel_rfl
theorem isStr105 : E.P.isStr 105 = false := by kernel_rfl
theorem isInt105 : E.P.isInt 105 = false := by kernel_rfl
theorem und105 : (E.P.underlying 105).isSome = true := by kernel_rfl
theorem guard105 : E.P.eqGuardType E.P.depth 105 = false := by kernel_rfl
theorem szO106 : E.P.szO 106 = some 1 := by kernel_rfl
theorem rowO106 : E.P.rowO 106 = some false := by kernel_rfl
theorem zeroL106 : E.P.zeroL 106 = some [AVal.sc Value.nilFunc] := by kernel_rfl
theorem isStr106 : E.P.isStr 106 = false := by kernel_rfl
theorem isInt106 : E.P.isInt 106 = false := by kernel_rfl
theorem und106 : (E.P.underlying 106).isSome = true := by kernel_rfl
theorem guard106 : E.P.eqGuardType E.P.depth 106 = false := by kernel_rfl
theorem szO107 : E.P.szO 107 = some 1 := by kernel_rfl
theorem rowO107 : E.P.rowO 107 = some false := by kernel_rfl
theorem zeroL107 : E.P.zeroL 107 = some [AVal.sc Value.nilFunc] := by kernel_rfl
theorem isStr107 : E.P.isStr 107 = false := by kernel_rfl
theorem isInt107 : E.P.isInt 107 = false := by kernel_rfl
theorem und107 : (E.P.underlying 107).isSome = true := by kernel_rfl
theorem guard107 : E.P.eqGuardType E.P.depth 107 = false := by kernel_rfl
theorem szO108 : E.P.szO 108 = some 1 := by kernel_rfl
theorem rowO108 : E.P.rowO 108 = some false := by kernel_rfl
theorem zeroL108 : E.P.zeroL 108 = some [AVal.sc Value.nilFunc] := by kernel_rfl
theorem isStr108 : E.P.isStr 108 = false := by kernel_rfl
theorem isInt108 : E.P.isInt 108 = false := by kernel_rfl
theorem und108 : (E.P.underlying 108).isSome = true := by kernel_rfl
theorem guard108 : E.P.eqGuardType E.P.depth 108 = false := by kernel_rfl
theorem szO109 : E.P.szO 109 = some 1 := by kernel_rfl
theorem rowO109 : E.P.rowO 109 = some false := by kernel_rfl
theorem zeroL109 : E.P.zeroL 109 = some [AVal.sc Value.nilFunc] := by kernel_rfl
theorem isStr109 : E.P.isStr 109 = false := by kernel_rfl
theorem isInt109 : E.P.isInt 109 = false := by kernel_rfl
theorem und109 : (E.P.underlying 109).isSome = true := by kernel_rfl
theorem guard109 : E.P.eqGuardType E.P.depth 109 = false := by kernel_rfl
theorem szO110 : E.P.szO 110 = some 1 := by kernel_rfl
theorem rowO110 : E.P.rowO 110 = some false := by kernel_rfl
theorem zeroL110 : E.P.zeroL 110 = some [AVal.sc Value.nilFunc] := by kernel_rfl
theorem isStr110 : E.P.isStr 110 = false := by kernel_rfl
theorem isInt110 : E.P.isInt 110 = false := by kernel_rfl
theorem und110 : (E.P.underlying 110).isSome = true := by kernel_rfl
theorem guard110 : E.P.eqGuardType E.P.depth 110 = false := by kernel_rfl
theorem szO111 : E.P.szO 111 = some 1 := by kernel_rfl
theorem rowO111 : E.P.rowO 111 = some false := by kernel_rfl
theorem zeroL111 : E.P.zeroL 111 = some [AVal.sc Value.nilFunc] := by kernel_rfl
theorem isStr111 : E.P.isStr 111 = false := by kernel_rfl
theorem isInt111 : E.P.isInt 111 = false := by kernel_rfl
theorem und111 : (E.P.underlying 111).isSome = true := by kernel_rfl
theorem guard111 : E.P.eqGuardType E.P.depth 111 = false := by kernel_rfl
theorem szO112 : E.P.szO 112 = some 1 := by kernel_rfl
theorem rowO112 : E.P.rowO 112 = some false := by kernel_rfl
theorem zeroL112 : E.P.zeroL 112 = some [AVal.sc Value.nilFunc] := by kernel_rfl
theorem isStr112 : E.P.isStr 112 = false := by kernel_rfl
theorem isInt112 : E.P.isInt 112 = false := by kernel_rfl
theorem und112 : (E.P.underlying 112).isSome = true := by kernel_rfl
theorem guard112 : E.P.eqGuardType E.P.depth 112 = false := by kernel_rfl
theorem szO113 : E.P.szO 113 = some 1 := by kernel_rfl
theorem rowO113 : E.P.rowO 113 = some false := by kernel_rfl
theorem zeroL113 : E.P.zeroL 113 = some [AVal.sc (Value.slice none 0 0)] := by kernel_rfl
theorem elemO113 : E.P.elemO 113 = some 6 := by kernel_rfl
theorem elemBytes113 : E.P.elemBytes 113 = some 64 := by kernel_rfl
theorem elemZero113 : E.P.elemZero 113 = some [AVal.str [], AVal.int IntKind.u64 (0), AVal.int IntKind.i64 (0), AVal.int IntKind.i64 (0), AVal.int IntKind.i64 (0), AVal.str []] := by kernel_rfl
theorem isStr113 : E.P.isStr 113 = false := by kernel_rfl
theorem isInt113 : E.P.isInt 113 = false := by kernel_rfl
theorem und113 : (E.P.underlying 113).isSome = true := by kernel_rfl
theorem guard113 : E.P.eqGuardType E.P.depth 113 = false := by kernel_rfl
theorem szO114 : E.P.szO 114 = some 1 := by kernel_rfl
theorem rowO114 : E.P.rowO 114 = some false := by kernel_rfl
theorem zeroL114 : E.P.zeroL 114 = some [AVal.sc Value.nilFunc] := by kernel_rfl
theorem isStr114 : E.P.isStr 114 = false := by kernel_rfl
theorem isInt114 : E.P.isInt 114 = false := by kernel_rfl
theorem und114 : (E.P.underlying 114).isSome = true := by kernel_rfl
theorem guard114 : E.P.eqGuardType E.P.depth 114 = false := by kernel_rfl
theorem szO115 : E.P.szO 115 = some 1 := by kernel_rfl
theorem rowO115 : E.P.rowO 115 = some false := by kernel_rfl
theorem zeroL115 : E.P.zeroL 115 = some [AVal.sc Value.nilFunc] := by kernel_rfl
theorem isStr115 : E.P.isStr 115 = false := by kernel_rfl
theorem isInt115 : E.P.isInt 115 = false := by kernel_rfl
theorem und115 : (E.P.underlying 115).isSome = true := by kernel_rfl
theorem guard115 : E.P.eqGuardType E.P.depth 115 = false := by kernel_rfl
theorem szO116 : E.P.szO 116 = some 1 := by kernel_rfl
theorem rowO116 : E.P.rowO 116 = some false := by kernel_rfl
theorem zeroL116 : E.P.zeroL 116 = some [AVal.int IntKind.u32 (0)] := by kernel_rfl
theorem isStr116 : E.P.isStr 116 = false := by kernel_rfl
theorem isInt116 : E.P.isInt 116 = true := by kernel_rfl
theorem kindO116 : kindO E.P 116 = some IntKind.u32 := by kernel_rfl
theorem und116 : (E.P.underlying 116).isSome = true := by kernel_rfl
theorem guard116 : E.P.eqGuardType E.P.depth 116 = false := by kernel_rfl
theorem szO117 : E.P.szO 117 = some 1 := by kernel_rfl
theorem rowO117 : E.P.rowO 117 = some false := by kernel_rfl
theorem zeroL117 : E.P.zeroL 117 = some [AVal.sc Value.nilFunc] := by kernel_rfl
theorem isStr117 : E.P.isStr 117 = false := by kernel_rfl
theorem isInt117 : E.P.isInt 117 = false := by kernel_rfl
theorem und117 : (E.P.underlying 117).isSome = true := by kernel_rfl
theorem guard117 : E.P.eqGuardType E.P.depth 117 = false := by kernel_rfl
theorem szO118 : E.P.szO 118 = some 1 := by kernel_rfl
theorem rowO118 : E.P.rowO 118 = some false := by kernel_rfl
theorem zeroL118 : E.P.zeroL 118 = some [AVal.sc Value.nilFunc] := by kernel_rfl
theorem isStr118 : E.P.isStr 118 = false := by kernel_rfl
theorem isInt118 : E.P.isInt 118 = false := by kernel_rfl
theorem und118 : (E.P.underlying 118).isSome = true := by kernel_rfl
theorem guard118 : E.P.eqGuardType E.P.depth 118 = false := by kernel_rfl
theorem szO119 : E.P.szO 119 = some 1 := by kernel_rfl
theorem rowO119 : E.P.rowO 119 = some false := by kernel_rfl
theorem zeroL119 : E.P.zeroL 119 = some [AVal.sc Value.nilFunc] := by kernel_rfl
theorem isStr119 : E.P.isStr 119 = false := by kernel_rfl
theorem isInt119 : E.P.isInt 119 = false := by kernel_rfl
theorem und119 : (E.P.underlying 119).isSome = true := by kernel_rfl
theorem guard119 : E.P.eqGuardType E.P.depth 119 = false := by kernel_rfl
theorem szO120 : E.P.szO 120 = some 1 := by kernel_rfl
theorem rowO120 : E.P.rowO 120 = some false := by kernel_rfl
theorem zeroL120 : E.P.zeroL 120 = some [AVal.sc Value.nilFunc] := by kernel_rfl
theorem isStr120 : E.P.isStr 120 = false := by kernel_rfl
theorem isInt120 : E.P.isInt 120 = false := by kernel_rfl
theorem und120 : (E.P.underlying 120).isSome = true := by kernel_rfl
theorem guard120 : E.P.eqGuardType E.P.depth 120 = false := by kernel_rfl
theorem szO121 : E.P.szO 121 = some 1 := by kernel_rfl
theorem rowO121 : E.P.rowO 121 = some false := by kernel_rfl
theorem zeroL121 : E.P.zeroL 121 = some [AVal.sc Value.nilFunc] := by kernel_rfl
theorem isStr121 : E.P.isStr 121 = false := by kernel_rfl
theorem isInt121 : E.P.isInt 121 = false := by kernel_rfl
theorem und121 : (E.P.underlying 121).isSome = true := by kernel_rfl
theorem guard121 : E.P.eqGuardType E.P.depth 121 = false := by kernel_rfl
theorem szO122 : E.P.szO 122 = some 1 := by kernel_rfl
theorem rowO122 : E.P.rowO 122 = some false := by kernel_rfl
theorem zeroL122 : E.P.zeroL 122 = some [AVal.sc Value.nilFunc] := by kernel_rfl
theorem isStr122 : E.P.isStr 122 = false := by kernel_rfl
theorem isInt122 : E.P.isInt 122 = false := by kernel_rfl
theorem und122 : (E.P.underlying 122).isSome = true := by kernel_rfl
theorem guard122 : E.P.eqGuardType E.P.depth 122 = false := by kernel_rfl
theorem szO123 : E.P.szO 123 = some 1 := by kernel_rfl
theorem rowO123 : E.P.rowO 123 = some false := by kernel_rfl
theorem zeroL123 : E.P.zeroL 123 = some [AVal.sc Value.nilFunc] := by kernel_rfl
theorem isStr123 : E.P.isStr 123 = false := by kernel_rfl
theorem isInt123 : E.P.isInt 123 = false := by kernel_rfl
theorem und123 : (E.P.underlying 123).isSome = true := by kernel_rfl
theorem guard123 : E.P.eqGuardType E.P.depth 123 = false := by kernel_rfl
theorem szO124 : E.P.szO 124 = some 1 := by kernel_rfl
theorem rowO124 : E.P.rowO 124 = some false := by kernel_rfl
theorem zeroL124 : E.P.zeroL 124 = some [AVal.sc (Value.pointer none)] := by kernel_rfl
theorem isStr124 : E.P.isStr 124 = false := by kernel_rfl
theorem isInt124 : E.P.isInt 124 = false := by kernel_rfl
theorem ptrT124 : ptrT E.P 124 = true := by kernel_rfl
theorem und124 : (E.P.underlying 124).isSome = true := by kernel_rfl
theorem guard124 : E.P.eqGuardType E.P.depth 124 = false := by kernel_rfl
theorem szO125 : E.P.szO 125 = some 2 := by kernel_rfl
theorem rowO125 : E.P.rowO 125 = some true := by kernel_rfl
theorem zeroL125 : E.P.zeroL 125 = some [AVal.str [], AVal.int IntKind.i64 (0)] := by kernel_rfl
theorem isStr125 : E.P.isStr 125 = false := by kernel_rfl
theorem isInt125 : E.P.isInt 125 = false := by kernel_rfl
theorem isComp125 : E.P.isComp 125 = true := by kernel_rfl
theorem und125 : (E.P.underlying 125).isSome = true := by kernel_rfl
theorem guard125 : E.P.eqGuardType E.P.depth 125 = false := by kernel_rfl
theorem fldO125_0 : E.P.fldO 125 0 = some (0, 1, false) := by kernel_rfl
theorem fldO125_1 : E.P.fldO 125 1 = some (1, 1, false) := by kernel_rfl
theorem places125_0 : E.P.places 125 0 = some (0, 1) := by kernel_rfl
theorem places125_1 : E.P.places 125 1 = some (1, 1) := by kernel_rfl
theorem szO126 : E.P.szO 126 = some 2 := by kernel_rfl
theorem rowO126 : E.P.rowO 126 = some true := by kernel_rfl
theorem zeroL126 : E.P.zeroL 126 = some [AVal.str [], AVal.int IntKind.i64 (0)] := by kernel_rfl
theorem isStr126 : E.P.isStr 126 = false := by kernel_rfl
theorem isInt126 : E.P.isInt 126 = false := by kernel_rfl
theorem isComp126 : E.P.isComp 126 = true := by kernel_rfl
theorem und126 : (E.P.underlying 126).isSome = true := by kernel_rfl
theorem guard126 : E.P.eqGuardType E.P.depth 126 = false := by kernel_rfl
theorem fldO126_0 : E.P.fldO 126 0 = some (0, 1, false) := by kernel_rfl
theorem fldO126_1 : E.P.fldO 126 1 = some (1, 1, false) := by kernel_rfl
theorem places126_0 : E.P.places 126 0 = some (0, 1) := by kernel_rfl
theorem places126_1 : E.P.places 126 1 = some (1, 1) := by kernel_rfl
theorem szO127 : E.P.szO 127 = some 1 := by kernel_rfl
theorem rowO127 : E.P.rowO 127 = some false := by kernel_rfl
theorem zeroL127 : E.P.zeroL 127 = some [AVal.sc Value.nilFunc] := by kernel_rfl
theorem isStr127 : E.P.isStr 127 = false := by kernel_rfl
theorem isInt127 : E.P.isInt 127 = false := by kernel_rfl
theorem und127 : (E.P.underlying 127).isSome = true := by kernel_rfl
theorem guard127 : E.P.eqGuardType E.P.depth 127 = false := by kernel_rfl
theorem szO128 : E.P.szO 128 = some 1 := by kernel_rfl
theorem rowO128 : E.P.rowO 128 = some false := by kernel_rfl
theorem zeroL128 : E.P.zeroL 128 = some [AVal.int IntKind.u64 (0)] := by kernel_rfl
theorem isStr128 : E.P.isStr 128 = false := by kernel_rfl
theorem isInt128 : E.P.isInt 128 = true := by kernel_rfl
theorem kindO128 : kindO E.P 128 = some IntKind.u64 := by kernel_rfl
theorem und128 : (E.P.underlying 128).isSome = true := by kernel_rfl
theorem guard128 : E.P.eqGuardType E.P.depth 128 = false := by kernel_rfl
theorem szO129 : E.P.szO 129 = some 3 := by kernel_rfl
theorem rowO129 : E.P.rowO 129 = some true := by kernel_rfl
theorem zeroL129 : E.P.zeroL 129 = some [AVal.sc (Value.slice none 0 0), AVal.int IntKind.i64 (0), AVal.int IntKind.i64 (0)] := by kernel_rfl
theorem isStr129 : E.P.isStr 129 = false := by kernel_rfl
theorem isInt129 : E.P.isInt 129 = false := by kernel_rfl
theorem isComp129 : E.P.isComp 129 = true := by kernel_rfl
theorem und129 : (E.P.underlying 129).isSome = true := by kernel_rfl
theorem guard129 : E.P.eqGuardType E.P.depth 129 = false := by kernel_rfl
theorem fldO129_0 : E.P.fldO 129 0 = some (0, 1, false) := by kernel_rfl
theorem fldO129_1 : E.P.fldO 129 1 = some (1, 1, false) := by kernel_rfl
theorem fldO129_2 : E.P.fldO 129 2 = some (2, 1, false) := by kernel_rfl
theorem places129_0 : E.P.places 129 0 = some (0, 1) := by kernel_rfl
theorem places129_1 : E.P.places 129 1 = some (1, 1) := by kernel_rfl
theorem places129_2 : E.P.places 129 2 = some (2, 1) := by kernel_rfl
theorem szO130 : E.P.szO 130 = some 3 := by kernel_rfl
theorem rowO130 : E.P.rowO 130 = some true := by kernel_rfl
theorem zeroL130 : E.P.zeroL 130 = some [AVal.sc (Value.slice none 0 0), AVal.int IntKind.i64 (0), AVal.int IntKind.i64 (0)] := by kernel_rfl
theorem isStr130 : E.P.isStr 130 = false := by kernel_rfl
theorem isInt130 : E.P.isInt 130 = false := by kernel_rfl
theorem isComp130 : E.P.isComp 130 = true := by kernel_rfl
theorem und130 : (E.P.underlying 130).isSome = true := by kernel_rfl
theorem guard130 : E.P.eqGuardType E.P.depth 130 = false := by kernel_rfl
theorem fldO130_0 : E.P.fldO 130 0 = some (0, 1, false) := by kernel_rfl
theorem fldO130_1 : E.P.fldO 130 1 = some (1, 1, false) := by kernel_rfl
theorem fldO130_2 : E.P.fldO 130 2 = some (2, 1, false) := by kernel_rfl
theorem places130_0 : E.P.places 130 0 = some (0, 1) := by kernel_rfl
theorem places130_1 : E.P.places 130 1 = some (1, 1) := by kernel_rfl
theorem places130_2 : E.P.places 130 2 = some (2, 1) := by kernel_rfl
theorem szO131 : E.P.szO 131 = some 1 := by kernel_rfl
theorem rowO131 : E.P.rowO 131 = some false := by kernel_rfl
theorem zeroL131 : E.P.zeroL 131 = some [AVal.sc Value.nilFunc] := by kernel_rfl
theorem isStr131 : E.P.isStr 131 = false := by kernel_rfl
theorem isInt131 : E.P.isInt 131 = false := by kernel_rfl
theorem und131 : (E.P.underlying 131).isSome = true := by kernel_rfl
theorem guard131 : E.P.eqGuardType E.P.depth 131 = false := by kernel_rfl
theorem szO132 : E.P.szO 132 = some 1 := by kernel_rfl
theorem rowO132 : E.P.rowO 132 = some false := by kernel_rfl
theorem zeroL132 : E.P.zeroL 132 = some [AVal.sc Value.nilFunc] := by kernel_rfl
theorem isStr132 : E.P.isStr 132 = false := by kernel_rfl
theorem isInt132 : E.P.isInt 132 = false := by kernel_rfl
theorem und132 : (E.P.underlying 132).isSome = true := by kernel_rfl
theorem guard132 : E.P.eqGuardType E.P.depth 132 = false := by kernel_rfl
theorem szO133 : E.P.szO 133 = some 1 := by kernel_rfl
theorem rowO133 : E.P.rowO 133 = some false := by kernel_rfl
theorem zeroL133 : E.P.zeroL 133 = some [AVal.sc Value.nilFunc] := by kernel_rfl
theorem isStr133 : E.P.isStr 133 = false := by kernel_rfl
theorem isInt133 : E.P.isInt 133 = false := by kernel_rfl
theorem und133 : (E.P.underlying 133).isSome = true := by kernel_rfl
theorem guard133 : E.P.eqGuardType E.P.depth 133 = false := by kernel_rfl
theorem szO134 : E.P.szO 134 = some 16 := by kernel_rfl
theorem rowO134 : E.P.rowO 134 = some true := by kernel_rfl
theorem zeroL134 : E.P.zeroL 134 = some [AVal.int IntKind.u32 (0), AVal.int IntKind.u32 (0), AVal.int IntKind.u32 (0), AVal.int IntKind.u32 (0), AVal.int IntKind.u32 (0), AVal.int IntKind.u32 (0), AVal.int IntKind.u32 (0), AVal.int IntKind.u32 (0), AVal.int IntKind.u32 (0), AVal.int IntKind.u32 (0), AVal.int IntKind.u32 (0), AVal.int IntKind.u32 (0), AVal.int IntKind.u32 (0), AVal.int IntKind.u32 (0), AVal.int IntKind.u32 (0), AVal.int IntKind.u32 (0)] := by kernel_rfl
theorem isStr134 : E.P.isStr 134 = false := by kernel_rfl
theorem isInt134 : E.P.isInt 134 = false := by kernel_rfl
theorem isComp134 : E.P.isComp 134 = true := by kernel_rfl
theorem arrO134 : E.P.arrO 134 = some (16, 1, false) := by kernel_rfl
theorem und134 : (E.P.underlying 134).isSome = true := by kernel_rfl
theorem guard134 : E.P.eqGuardType E.P.depth 134 = false := by kernel_rfl
theorem places134_0 : E.P.places 134 0 = some (0, 1) := by kernel_rfl
theorem places134_1 : E.P.places 134 1 = some (1, 1) := by kernel_rfl
theorem places134_2 : E.P.places 134 2 = some (2, 1) := by kernel_rfl
theorem places134_3 : E.P.places 134 3 = some (3, 1) := by kernel_rfl
theorem places134_4 : E.P.places 134 4 = some (4, 1) := by kernel_rfl
theorem places134_5 : E.P.places 134 5 = some (5, 1) := by kernel_rfl
theorem places134_6 : E.P.places 134 6 = some (6, 1) := by kernel_rfl
theorem places134_7 : E.P.places 134 7 = some (7, 1) := by kernel_rfl
theorem places134_8 : E.P.places 134 8 = some (8, 1) := by kernel_rfl
theorem places134_9 : E.P.places 134 9 = some (9, 1) := by kernel_rfl
theorem places134_10 : E.P.places 134 10 = some (10, 1) := by kernel_rfl
theorem places134_11 : E.P.places 134 11 = some (11, 1) := by kernel_rfl
theorem places134_12 : E.P.places 134 12 = some (12, 1) := by kernel_rfl
theorem places134_13 : E.P.places 134 13 = some (13, 1) := by kernel_rfl
theorem places134_14 : E.P.places 134 14 = some (14, 1) := by kernel_rfl
theorem places134_15 : E.P.places 134 15 = some (15, 1) := by kernel_rfl
theorem places134_16 : E.P.places 134 16 = some (16, 1) := by kernel_rfl
theorem places134_17 : E.P.places 134 17 = some (17, 1) := by kernel_rfl
theorem places134_18 : E.P.places 134 18 = some (18, 1) := by kernel_rfl
theorem places134_19 : E.P.places 134 19 = some (19, 1) := by kernel_rfl
theorem places134_20 : E.P.places 134 20 = some (20, 1) := by kernel_rfl
theorem places134_21 : E.P.places 134 21 = some (21, 1) := by kernel_rfl
theorem places134_22 : E.P.places 134 22 = some (22, 1) := by kernel_rfl
theorem places134_23 : E.P.places 134 23 = some (23, 1) := by kernel_rfl
theorem places134_24 : E.P.places 134 24 = some (24, 1) := by kernel_rfl
theorem places134_25 : E.P.places 134 25 = some (25, 1) := by kernel_rfl
theorem places134_26 : E.P.places 134 26 = some (26, 1) := by kernel_rfl
theorem places134_27 : E.P.places 134 27 = some (27, 1) := by kernel_rfl
theorem places134_28 : E.P.places 134 28 = some (28, 1) := by kernel_rfl
theorem places134_29 : E.P.places 134 29 = some (29, 1) := by kernel_rfl
theorem places134_30 : E.P.places 134 30 = some (30, 1) := by kernel_rfl
theorem places134_31 : E.P.places 134 31 = some (31, 1) := by kernel_rfl
theorem places134_32 : E.P.places 134 32 = some (32, 1) := by kernel_rfl
theorem places134_33 : E.P.places 134 33 = some (33, 1) := by kernel_rfl
theorem places134_34 : E.P.places 134 34 = some (34, 1) := by kernel_rfl
theorem places134_35 : E.P.places 134 35 = some (35, 1) := by kernel_rfl
theorem places134_36 : E.P.places 134 36 = some (36, 1) := by kernel_rfl
theorem places134_37 : E.P.places 134 37 = some (37, 1) := by kernel_rfl
theorem places134_38 : E.P.places 134 38 = some (38, 1) := by kernel_rfl
theorem places134_39 : E.P.places 134 39 = some (39, 1) := by kernel_rfl
theorem places134_40 : E.P.places 134 40 = some (40, 1) := by kernel_rfl
theorem places134_41 : E.P.places 134 41 = some (41, 1) := by kernel_rfl
theorem places134_42 : E.P.places 134 42 = some (42, 1) := by kernel_rfl
theorem places134_43 : E.P.places 134 43 = some (43, 1) := by kernel_rfl
theorem places134_44 : E.P.places 134 44 = some (44, 1) := by kernel_rfl
theorem places134_45 : E.P.places 134 45 = some (45, 1) := by kernel_rfl
theorem places134_46 : E.P.places 134 46 = some (46, 1) := by kernel_rfl
theorem places134_47 : E.P.places 134 47 = some (47, 1) := by kernel_rfl
theorem places134_48 : E.P.places 134 48 = some (48, 1) := by kernel_rfl
theorem places134_49 : E.P.places 134 49 = some (49, 1) := by kernel_rfl
theorem places134_50 : E.P.places 134 50 = some (50, 1) := by kernel_rfl
theorem places134_51 : E.P.places 134 51 = some (51, 1) := by kernel_rfl
theorem places134_52 : E.P.places 134 52 = some (52, 1) := by kernel_rfl
theorem places134_53 : E.P.places 134 53 = some (53, 1) := by kernel_rfl
theorem places134_54 : E.P.places 134 54 = some (54, 1) := by kernel_rfl
theorem places134_55 : E.P.places 134 55 = some (55, 1) := by kernel_rfl
theorem places134_56 : E.P.places 134 56 = some (56, 1) := by kernel_rfl
theorem places134_57 : E.P.places 134 57 = some (57, 1) := by kernel_rfl
theorem places134_58 : E.P.places 134 58 = some (58, 1) := by kernel_rfl
theorem places134_59 : E.P.places 134 59 = some (59, 1) := by kernel_rfl
theorem places134_60 : E.P.places 134 60 = some (60, 1) := by kernel_rfl
theorem places134_61 : E.P.places 134 61 = some (61, 1) := by kernel_rfl
theorem places134_62 : E.P.places 134 62 = some (62, 1) := by kernel_rfl
theorem places134_63 : E.P.places 134 63 = some (63, 1) := by kernel_rfl
theorem places134_64 : E.P.places 134 64 = some (64, 1) := by kernel_rfl
theorem places134_65 : E.P.places 134 65 = some (65, 1) := by kernel_rfl
theorem places134_66 : E.P.places 134 66 = some (66, 1) := by kernel_rfl
theorem places134_67 : E.P.places 134 67 = some (67, 1) := by kernel_rfl
theorem places134_68 : E.P.places 134 68 = some (68, 1) := by kernel_rfl
theorem places134_69 : E.P.places 134 69 = some (69, 1) := by kernel_rfl
theorem szO135 : E.P.szO 135 = some 1 := by kernel_rfl
theorem rowO135 : E.P.rowO 135 = some false := by kernel_rfl
theorem zeroL135 : E.P.zeroL 135 = some [AVal.sc Value.nilFunc] := by kernel_rfl
theorem isStr135 : E.P.isStr 135 = false := by kernel_rfl
theorem isInt135 : E.P.isInt 135 = false := by kernel_rfl
theorem und135 : (E.P.underlying 135).isSome = true := by kernel_rfl
theorem guard135 : E.P.eqGuardType E.P.depth 135 = false := by kernel_rfl
theorem szO136 : E.P.szO 136 = some 64 := by kernel_rfl
theorem rowO136 : E.P.rowO 136 = some true := by kernel_rfl
theorem zeroL136 : E.P.zeroL 136 = some [AVal.int IntKind.u8 (0), AVal.int IntKind.u8 (0), AVal.int IntKind.u8 (0), AVal.int IntKind.u8 (0), AVal.int IntKind.u8 (0), AVal.int IntKind.u8 (0), AVal.int IntKind.u8 (0), AVal.int IntKind.u8 (0), AVal.int IntKind.u8 (0), AVal.int IntKind.u8 (0), AVal.int IntKind.u8 (0), AVal.int IntKind.u8 (0), AVal.int IntKind.u8 (0), AVal.int IntKind.u8 (0), AVal.int IntKind.u8 (0), AVal.int IntKind.u8 (0), AVal.int IntKind.u8 (0), AVal.int IntKind.u8 (0), AVal.int IntKind.u8 (0), AVal.int IntKind.u8 (0), AVal.int IntKind.u8 (0), AVal.int IntKind.u8 (0), AVal.int IntKind.u8 (0), AVal.int IntKind.u8 (0), AVal.int IntKind.u8 (0), AVal.int IntKind.u8 (0), AVal.int IntKind.u8 (0), AVal.int IntKind.u8 (0), AVal.int IntKind.u8 (0), AVal.int IntKind.u8 (0), AVal.int IntKind.u8 (0), AVal.int IntKind.u8 (0), AVal.int IntKind.u8 (0), AVal.int IntKind.u8 (0), AVal.int IntKind.u8 (0), AVal.int IntKind.u8 (0), AVal.int IntKind.u8 (0), AVal.int IntKind.u8 (0), AVal.int IntKind.u8 (0), AVal.int IntKind.u8 (0), AVal.int IntKind.u8 (0), AVal.int IntKind.u8 (0), AVal.int IntKind.u8 (0), AVal.int IntKind.u8 (0), AVal.int IntKind.u8 (0), AVal.int IntKind.u8 (0), AVal.int IntKind.u8 (0), AVal.int IntKind.u8 (0), AVal.int IntKind.u8 (0), AVal.int IntKind.u8 (0), AVal.int IntKind.u8 (0), AVal.int IntKind.u8 (0), AVal.int IntKind.u8 (0), AVal.int IntKind.u8 (0), AVal.int IntKind.u8 (0), AVal.int IntKind.u8 (0), AVal.int IntKind.u8 (0), AVal.int IntKind.u8 (0), AVal.int IntKind.u8 (0), AVal.int IntKind.u8 (0), AVal.int IntKind.u8 (0), AVal.int IntKind.u8 (0), AVal.int IntKind.u8 (0), AVal.int IntKind.u8 (0)] := by kernel_rfl
theorem isStr136 : E.P.isStr 136 = false := by kernel_rfl
theorem isInt136 : E.P.isInt 136 = false := by kernel_rfl
theorem isComp136 : E.P.isComp 136 = true := by kernel_rfl
theorem arrO136 : E.P.arrO 136 = some (64, 1, false) := by kernel_rfl
theorem und136 : (E.P.underlying 136).isSome = true := by kernel_rfl
theorem guard136 : E.P.eqGuardType E.P.depth 136 = false := by kernel_rfl
theorem places136_0 : E.P.places 136 0 = some (0, 1) := by kernel_rfl
theorem places136_1 : E.P.places 136 1 = some (1, 1) := by kernel_rfl
theorem places136_2 : E.P.places 136 2 = some (2, 1) := by kernel_rfl
theorem places136_3 : E.P.places 136 3 = some (3, 1) := by kernel_rfl
theorem places136_4 : E.P.places 136 4 = some (4, 1) := by kernel_rfl
theorem places136_5 : E.P.places 136 5 = some (5, 1) := by kernel_rfl
theorem places136_6 : E.P.places 136 6 = some (6, 1) := by kernel_rfl
theorem places136_7 : E.P.places 136 7 = some (7, 1) := by kernel_rfl
theorem places136_8 : E.P.places 136 8 = some (8, 1) := by kernel_rfl
theorem places136_9 : E.P.places 136 9 = some (9, 1) := by kernel_rfl
theorem places136_10 : E.P.places 136 10 = some (10, 1) := by kernel_rfl
theorem places136_11 : E.P.places 136 11 = some (11, 1) := by kernel_rfl
theorem places136_12 : E.P.places 136 12 = some (12, 1) := by kernel_rfl
theorem places136_13 : E.P.places 136 13 = some (13, 1) := by kernel_rfl
theorem places136_14 : E.P.places 136 14 = some (14, 1) := by kernel_rfl
theorem places136_15 : E.P.places 136 15 = some (15, 1) := by kernel_rfl
theorem places136_16 : E.P.places 136 16 = some (16, 1) := by kernel_rfl
theorem places136_17 : E.P.places 136 17 = some (17, 1) := by kernel_rfl
theorem places136_18 : E.P.places 136 18 = some (18, 1) := by kernel_rfl
theorem places136_19 : E.P.places 136 19 = some (19, 1) := by kernel_rfl
theorem places136_20 : E.P.places 136 20 = some (20, 1) := by kernel_rfl
theorem places136_21 : E.P.places 136 21 = some (21, 1) := by kernel_rfl
theorem places136_22 : E.P.places 136 22 = some (22, 1) := by kernel_rfl
theorem places136_23 : E.P.places 136 23 = some (23, 1) := by kernel_rfl
theorem places136_24 : E.P.places 136 24 = some (24, 1) := by kernel_rfl
theorem places136_25 : E.P.places 136 25 = some (25, 1) := by kernel_rfl
theorem places136_26 : E.P.places 136 26 = some (26, 1) := by kernel_rfl
theorem places136_27 : E.P.places 136 27 = some (27, 1) := by kernel_rfl
theorem places136_28 : E.P.places 136 28 = some (28, 1) := by kernel_rfl
theorem places136_29 : E.P.places 136 29 = some (29, 1) := by kernel_rfl
theorem places136_30 : E.P.places 136 30 = some (30, 1) := by kernel_rfl
theorem places136_31 : E.P.places 136 31 = some (31, 1) := by kernel_rfl
theorem places136_32 : E.P.places 136 32 = some (32, 1) := by kernel_rfl
theorem places136_33 : E.P.places 136 33 = some (33, 1) := by kernel_rfl
theorem places136_34 : E.P.places 136 34 = some (34, 1) := by kernel_rfl
theorem places136_35 : E.P.places 136 35 = some (35, 1) := by kernel_rfl
theorem places136_36 : E.P.places 136 36 = some (36, 1) := by kernel_rfl
theorem places136_37 : E.P.places 136 37 = some (37, 1) := by kernel_rfl
theorem places136_38 : E.P.places 136 38 = some (38, 1) := by kernel_rfl
theorem places136_39 : E.P.places 136 39 = some (39, 1) := by kernel_rfl
theorem places136_40 : E.P.places 136 40 = some (40, 1) := by kernel_rfl
theorem places136_41 : E.P.places 136 41 = some (41, 1) := by kernel_rfl
theorem places136_42 : E.P.places 136 42 = some (42, 1) := by kernel_rfl
theorem places136_43 : E.P.places 136 43 = some (43, 1) := by kernel_rfl
theorem places136_44 : E.P.places 136 44 = some (44, 1) := by kernel_rfl
theorem places136_45 : E.P.places 136 45 = some (45, 1) := by kernel_rfl
theorem places136_46 : E.P.places 136 46 = some (46, 1) := by kernel_rfl
theorem places136_47 : E.P.places 136 47 = some (47, 1) := by kernel_rfl
theorem places136_48 : E.P.places 136 48 = some (48, 1) := by kernel_rfl
theorem places136_49 : E.P.places 136 49 = some (49, 1) := by kernel_rfl
theorem places136_50 : E.P.places 136 50 = some (50, 1) := by kernel_rfl
theorem places136_51 : E.P.places 136 51 = some (51, 1) := by kernel_rfl
theorem places136_52 : E.P.places 136 52 = some (52, 1) := by kernel_rfl
theorem places136_53 : E.P.places 136 53 = some (53, 1) := by kernel_rfl
theorem places136_54 : E.P.places 136 54 = some (54, 1) := by kernel_rfl
theorem places136_55 : E.P.places 136 55 = some (55, 1) := by kernel_rfl
theorem places136_56 : E.P.places 136 56 = some (56, 1) := by kernel_rfl
theorem places136_57 : E.P.places 136 57 = some (57, 1) := by kernel_rfl
theorem places136_58 : E.P.places 136 58 = some (58, 1) := by kernel_rfl
theorem places136_59 : E.P.places 136 59 = some (59, 1) := by kernel_rfl
theorem places136_60 : E.P.places 136 60 = some (60, 1) := by kernel_rfl
theorem places136_61 : E.P.places 136 61 = some (61, 1) := by kernel_rfl
theorem places136_62 : E.P.places 136 62 = some (62, 1) := by kernel_rfl
theorem places136_63 : E.P.places 136 63 = some (63, 1) := by kernel_rfl
theorem places136_64 : E.P.places 136 64 = some (64, 1) := by kernel_rfl
theorem places136_65 : E.P.places 136 65 = some (65, 1) := by kernel_rfl
theorem places136_66 : E.P.places 136 66 = some (66, 1) := by kernel_rfl
theorem places136_67 : E.P.places 136 67 = some (67, 1) := by kernel_rfl
theorem places136_68 : E.P.places 136 68 = some (68, 1) := by kernel_rfl
theorem places136_69 : E.P.places 136 69 = some (69, 1) := by kernel_rfl
theorem szO137 : E.P.szO 137 = some 1 := by kernel_rfl
theorem rowO137 : E.P.rowO 137 = some false := by kernel_rfl
theorem zeroL137 : E.P.zeroL 137 = some [AVal.sc Value.nilFunc] := by kernel_rfl
theorem isStr137 : E.P.isStr 137 = false := by kernel_rfl
theorem isInt137 : E.P.isInt 137 = false := by kernel_rfl
theorem und137 : (E.P.underlying 137).isSome = true := by kernel_rfl
theorem guard137 : E.P.eqGuardType E.P.depth 137 = false := by kernel_rfl
theorem szO138 : E.P.szO 138 = some 1 := by kernel_rfl
theorem rowO138 : E.P.rowO 138 = some false := by kernel_rfl
theorem zeroL138 : E.P.zeroL 138 = some [AVal.sc Value.nilFunc] := by kernel_rfl
theorem isStr138 : E.P.isStr 138 = false := by kernel_rfl
theorem isInt138 : E.P.isInt 138 = false := by kernel_rfl
theorem und138 : (E.P.underlying 138).isSome = true := by kernel_rfl
theorem guard138 : E.P.eqGuardType E.P.depth 138 = false := by kernel_rfl
theorem szO139 : E.P.szO 139 = some 1 := by kernel_rfl
theorem rowO139 : E.P.rowO 139 = some false := by kernel_rfl
theorem zeroL139 : E.P.zeroL 139 = some [AVal.sc Value.nilFunc] := by kernel_rfl
theorem isStr139 : E.P.isStr 139 = false := by kernel_rfl
theorem isInt139 : E.P.isInt 139 = false := by kernel_rfl
theorem und139 : (E.P.underlying 139).isSome = true := by kernel_rfl
theorem guard139 : E.P.eqGuardType E.P.depth 139 = false := by kernel_rfl
theorem szO140 : E.P.szO 140 = some 1 := by kernel_rfl
theorem rowO140 : E.P.rowO 140 = some false := by kernel_rfl
theorem zeroL140 : E.P.zeroL 140 = some [AVal.sc Value.nilFunc] := by kernel_rfl
theorem isStr140 : E.P.isStr 140 = false := by kernel_rfl
theorem isInt140 : E.P.isInt 140 = false := by kernel_rfl
theorem und140 : (E.P.underlying 140).isSome = true := by kernel_rfl
theorem guard140 : E.P.eqGuardType E.P.depth 140 = false := by kernel_rfl
theorem szO141 : E.P.szO 141 = some 8 := by kernel_rfl
theorem rowO141 : E.P.rowO 141 = some true := by kernel_rfl
theorem zeroL141 : E.P.zeroL 141 = some [AVal.int IntKind.u32 (0), AVal.int IntKind.u32 (0), AVal.int IntKind.u32 (0), AVal.int IntKind.u32 (0), AVal.int IntKind.u32 (0), AVal.int IntKind.u32 (0), AVal.int IntKind.u32 (0), AVal.int IntKind.u32 (0)] := by kernel_rfl
theorem isStr141 : E.P.isStr 141 = false := by kernel_rfl
theorem isInt141 : E.P.isInt 141 = false := by kernel_rfl
theorem isComp141 : E.P.isComp 141 = true := by kernel_rfl
theorem arrO141 : E.P.arrO 141 = some (8, 1, false) := by kernel_rfl
theorem und141 : (E.P.underlying 141).isSome = true := by kernel_rfl
theorem guard141 : E.P.eqGuardType E.P.depth 141 = false := by kernel_rfl
theorem places141_0 : E.P.places 141 0 = some (0, 1) := by kernel_rfl
theorem places141_1 : E.P.places 141 1 = some (1, 1) := by kernel_rfl
theorem places141_2 : E.P.places 141 2 = some (2, 1) := by kernel_rfl
theorem places141_3 : E.P.places 141 3 = some (3, 1) := by kernel_rfl
theorem places141_4 : E.P.places 141 4 = some (4, 1) := by kernel_rfl
theorem places141_5 : E.P.places 141 5 = some (5, 1) := by kernel_rfl
theorem places141_6 : E.P.places 141 6 = some (6, 1) := by kernel_rfl
theorem places141_7 : E.P.places 141 7 = some (7, 1) := by kernel_rfl
theorem places141_8 : E.P.places 141 8 = some (8, 1) := by kernel_rfl
theorem places141_9 : E.P.places 141 9 = some (9, 1) := by kernel_rfl
theorem places141_10 : E.P.places 141 10 = some (10, 1) := by kernel_rfl
theorem places141_11 : E.P.places 141 11 = some (11, 1) := by kernel_rfl
theorem places141_12 : E.P.places 141 12 = some (12, 1) := by kernel_rfl
theorem places141_13 : E.P.places 141 13 = some (13, 1) := by kernel_rfl
theorem places141_14 : E.P.places 141 14 = some (14, 1) := by kernel_rfl
theorem places141_15 : E.P.places 141 15 = some (15, 1) := by kernel_rfl
theorem places141_16 : E.P.places 141 16 = some (16, 1) := by kernel_rfl
theorem places141_17 : E.P.places 141 17 = some (17, 1) := by kernel_rfl
theorem places141_18 : E.P.places 141 18 = some (18, 1) := by kernel_rfl
theorem places141_19 : E.P.places 141 19 = some (19, 1) := by kernel_rfl
theorem places141_20 : E.P.places 141 20 = some (20, 1) := by kernel_rfl
theorem places141_21 : E.P.places 141 21 = some (21, 1) := by kernel_rfl
theorem places141_22 : E.P.places 141 22 = some (22, 1) := by kernel_rfl
theorem places141_23 : E.P.places 141 23 = some (23, 1) := by kernel_rfl
theorem places141_24 : E.P.places 141 24 = some (24, 1) := by kernel_rfl
theorem places141_25 : E.P.places 141 25 = some (25, 1) := by kernel_rfl
theorem places141_26 : E.P.places 141 26 = some (26, 1) := by kernel_rfl
theorem places141_27 : E.P.places 141 27 = some (27, 1) := by kernel_rfl
theorem places141_28 : E.P.places 141 28 = some (28, 1) := by kernel_rfl
theorem places141_29 : E.P.places 141 29 = some (29, 1) := by kernel_rfl
theorem places141_30 : E.P.places 141 30 = some (30, 1) := by kernel_rfl
theorem places141_31 : E.P.places 141 31 = some (31, 1) := by kernel_rfl
theorem places141_32 : E.P.places 141 32 = some (32, 1) := by kernel_rfl
theorem places141_33 : E.P.places 141 33 = some (33, 1) := by kernel_rfl
theorem places141_34 : E.P.places 141 34 = some (34, 1) := by kernel_rfl
theorem places141_35 : E.P.places 141 35 = some (35, 1) := by kernel_rfl
theorem places141_36 : E.P.places 141 36 = some (36, 1) := by kernel_rfl
theorem places141_37 : E.P.places 141 37 = some (37, 1) := by kernel_rfl
theorem places141_38 : E.P.places 141 38 = some (38, 1) := by kernel_rfl
theorem places141_39 : E.P.places 141 39 = some (39, 1) := by kernel_rfl
theorem places141_40 : E.P.places 141 40 = some (40, 1) := by kernel_rfl
theorem places141_41 : E.P.places 141 41 = some (41, 1) := by kernel_rfl
theorem places141_42 : E.P.places 141 42 = some (42, 1) := by kernel_rfl
theorem places141_43 : E.P.places 141 43 = some (43, 1) := by kernel_rfl
theorem places141_44 : E.P.places 141 44 = some (44, 1) := by kernel_rfl
theorem places141_45 : E.P.places 141 45 = some (45, 1) := by kernel_rfl
theorem places141_46 : E.P.places 141 46 = some (46, 1) := by kernel_rfl
theorem places141_47 : E.P.places 141 47 = some (47, 1) := by kernel_rfl
theorem places141_48 : E.P.places 141 48 = some (48, 1) := by kernel_rfl
theorem places141_49 : E.P.places 141 49 = some (49, 1) := by kernel_rfl
theorem places141_50 : E.P.places 141 50 = some (50, 1) := by kernel_rfl
theorem places141_51 : E.P.places 141 51 = some (51, 1) := by kernel_rfl
theorem places141_52 : E.P.places 141 52 = some (52, 1) := by kernel_rfl
theorem places141_53 : E.P.places 141 53 = some (53, 1) := by kernel_rfl
theorem places141_54 : E.P.places 141 54 = some (54, 1) := by kernel_rfl
theorem places141_55 : E.P.places 141 55 = some (55, 1) := by kernel_rfl
theorem places141_56 : E.P.places 141 56 = some (56, 1) := by kernel_rfl
theorem places141_57 : E.P.places 141 57 = some (57, 1) := by kernel_rfl
theorem places141_58 : E.P.places 141 58 = some (58, 1) := by kernel_rfl
theorem places141_59 : E.P.places 141 59 = some (59, 1) := by kernel_rfl
theorem places141_60 : E.P.places 141 60 = some (60, 1) := by kernel_rfl
theorem places141_61 : E.P.places 141 61 = some (61, 1) := by kernel_rfl
theorem places141_62 : E.P.places 141 62 = some (62, 1) := by kernel_rfl
theorem places141_63 : E.P.places 141 63 = some (63, 1) := by kernel_rfl
theorem places141_64 : E.P.places 141 64 = some (64, 1) := by kernel_rfl
theorem places141_65 : E.P.places 141 65 = some (65, 1) := by kernel_rfl
theorem places141_66 : E.P.places 141 66 = some (66, 1) := by kernel_rfl
theorem places141_67 : E.P.places 141 67 = some (67, 1) := by kernel_rfl
theorem places141_68 : E.P.places 141 68 = some (68, 1) := by kernel_rfl
theorem places141_69 : E.P.places 141 69 = some (69, 1) := by kernel_rfl
theorem szO142 : E.P.szO 142 = some 1 := by kernel_rfl
theorem rowO142 : E.P.rowO 142 = some false := by kernel_rfl
theorem zeroL142 : E.P.zeroL 142 = some [AVal.sc Value.nilFunc] := by kernel_rfl
theorem isStr142 : E.P.isStr 142 = false := by kernel_rfl
theorem isInt142 : E.P.isInt 142 = false := by kernel_rfl
theorem und142 : (E.P.underlying 142).isSome = true := by kernel_rfl
theorem guard142 : E.P.eqGuardType E.P.depth 142 = false := by kernel_rfl
theorem szO143 : E.P.szO 143 = some 1 := by kernel_rfl
theorem rowO143 : E.P.rowO 143 = some false := by kernel_rfl
theorem zeroL143 : E.P.zeroL 143 = some [AVal.sc Value.nilFunc] := by kernel_rfl
theorem isStr143 : E.P.isStr 143 = false := by kernel_rfl
theorem isInt143 : E.P.isInt 143 = false := by kernel_rfl
theorem und143 : (E.P.underlying 143).isSome = true := by kernel_rfl
theorem guard143 : E.P.eqGuardType E.P.depth 143 = false := by kernel_rfl
theorem szO144 : E.P.szO 144 = some 1 := by kernel_rfl
theorem rowO144 : E.P.rowO 144 = some false := by kernel_rfl
theorem zeroL144 : E.P.zeroL 144 = some [AVal.sc (Value.slice none 0 0)] := by kernel_rfl
theorem elemO144 : E.P.elemO 144 = some 1 := by kernel_rfl
theorem elemBytes144 : E.P.elemBytes 144 = some 4 := by kernel_rfl
theorem elemZero144 : E.P.elemZero 144 = some [AVal.int IntKind.u32 (0)] := by kernel_rfl
theorem isStr144 : E.P.isStr 144 = false := by kernel_rfl
theorem isInt144 : E.P.isInt 144 = false := by kernel_rfl
theorem und144 : (E.P.underlying 144).isSome = true := by kernel_rfl
theorem guard144 : E.P.eqGuardType E.P.depth 144 = false := by kernel_rfl
theorem szO145 : E.P.szO 145 = some 1 := by kernel_rfl
theorem rowO145 : E.P.rowO 145 = some false := by kernel_rfl
theorem zeroL145 : E.P.zeroL 145 = some [AVal.sc Value.nilFunc] := by kernel_rfl
theorem isStr145 : E.P.isStr 145 = false := by kernel_rfl
theorem isInt145 : E.P.isInt 145 = false := by kernel_rfl
theorem und145 : (E.P.underlying 145).isSome = true := by kernel_rfl
theorem guard145 : E.P.eqGuardType E.P.depth 145 = false := by kernel_rfl
theorem szO146 : E.P.szO 146 = some 1 := by kernel_rfl
theorem rowO146 : E.P.rowO 146 = some false := by kernel_rfl
theorem zeroL146 : E.P.zeroL 146 = some [AVal.sc Value.nilFunc] := by kernel_rfl
theorem isStr146 : E.P.isStr 146 = false := by kernel_rfl
theorem isInt146 : E.P.isInt 146 = false := by kernel_rfl
theorem und146 : (E.P.underlying 146).isSome = true := by kernel_rfl
theorem guard146 : E.P.eqGuardType E.P.depth 146 = false := by kernel_rfl
theorem szO147 : E.P.szO 147 = some 1 := by kernel_rfl
theorem rowO147 : E.P.rowO 147 = some false := by kernel_rfl
theorem zeroL147 : E.P.zeroL 147 = some [AVal.sc (Value.slice none 0 0)] := by kernel_rfl
theorem elemO147 : E.P.elemO 147 = some 1 := by kernel_rfl
theorem elemBytes147 : E.P.elemBytes 147 = some 24 := by kernel_rfl
theorem elemZero147 : E.P.elemZero 147 = some [AVal.sc (Value.slice none 0 0)] := by kernel_rfl
theorem isStr147 : E.P.isStr 147 = false := by kernel_rfl
theorem isInt147 : E.P.isInt 147 = false := by kernel_rfl
theorem und147 : (E.P.underlying 147).isSome = true := by kernel_rfl
theorem guard147 : E.P.eqGuardType E.P.depth 147 = false := by kernel_rfl
theorem szO148 : E.P.szO 148 = some 1 := by kernel_rfl
theorem rowO148 : E.P.rowO 148 = some false := by kernel_rfl
theorem zeroL148 : E.P.zeroL 148 = some [AVal.sc Value.nilFunc] := by kernel_rfl
theorem isStr148 : E.P.isStr 148 = false := by kernel_rfl
theorem isInt148 : E.P.isInt 148 = false := by kernel_rfl
theorem und148 : (E.P.underlying 148).isSome = true := by kernel_rfl
theorem guard148 : E.P.eqGuardType E.P.depth 148 = false := by kernel_rfl
theorem szO149 : E.P.szO 149 = some 1 := by kernel_rfl
theorem rowO149 : E.P.rowO 149 = some false := by kernel_rfl
theorem zeroL149 : E.P.zeroL 149 = some [AVal.sc Value.nilFunc] := by kernel_rfl
theorem isStr149 : E.P.isStr 149 = false := by kernel_rfl
theorem isInt149 : E.P.isInt 149 = false := by kernel_rfl
theorem und149 : (E.P.underlying 149).isSome = true := by kernel_rfl
theorem guard149 : E.P.eqGuardType E.P.depth 149 = false := by kernel_rfl
theorem szO150 : E.P.szO 150 = some 1 := by kernel_rfl
theorem rowO150 : E.P.rowO 150 = some false := by kernel_rfl
theorem zeroL150 : E.P.zeroL 150 = some [AVal.sc Value.nilFunc] := by kernel_rfl
theorem isStr150 : E.P.isStr 150 = false := by kernel_rfl
theorem isInt150 : E.P.isInt 150 = false := by kernel_rfl
theorem und150 : (E.P.underlying 150).isSome = true := by kernel_rfl
theorem guard150 : E.P.eqGuardType E.P.depth 150 = false := by kernel_rfl
theorem szO151 : E.P.szO 151 = some 5 := by kernel_rfl
theorem rowO151 : E.P.rowO 151 = some true := by kernel_rfl
theorem zeroL151 : E.P.zeroL 151 = some [AVal.int IntKind.u64 (0), AVal.int IntKind.u64 (0), AVal.int IntKind.u64 (0), AVal.int IntKind.u64 (0), AVal.int IntKind.u64 (0)] := by kernel_rfl
theorem isStr151 : E.P.isStr 151 = false := by kernel_rfl
theorem isInt151 : E.P.isInt 151 = false := by kernel_rfl
theorem isComp151 : E.P.isComp 151 = true := by kernel_rfl
theorem arrO151 : E.P.arrO 151 = some (5, 1, false) := by kernel_rfl
theorem und151 : (E.P.underlying 151).isSome = true := by kernel_rfl
theorem guard151 : E.P.eqGuardType E.P.depth 151 = false := by kernel_rfl
theorem places151_0 : E.P.places 151 0 = some (0, 1) := by kernel_rfl
theorem places151_1 : E.P.places 151 1 = some (1, 1) := by kernel_rfl
theorem places151_2 : E.P.places 151 2 = some (2, 1) := by kernel_rfl
theorem places151_3 : E.P.places 151 3 = some (3, 1) := by kernel_rfl
theorem places151_4 : E.P.places 151 4 = some (4, 1) := by kernel_rfl
theorem places151_5 : E.P.places 151 5 = some (5, 1) := by kernel_rfl
theorem places151_6 : E.P.places 151 6 = some (6, 1) := by kernel_rfl
theorem places151_7 : E.P.places 151 7 = some (7, 1) := by kernel_rfl
theorem places151_8 : E.P.places 151 8 = some (8, 1) := by kernel_rfl
theorem places151_9 : E.P.places 151 9 = some (9, 1) := by kernel_rfl
theorem places151_10 : E.P.places 151 10 = some (10, 1) := by kernel_rfl
theorem places151_11 : E.P.places 151 11 = some (11, 1) := by kernel_rfl
theorem places151_12 : E.P.places 151 12 = some (12, 1) := by kernel_rfl
theorem places151_13 : E.P.places 151 13 = some (13, 1) := by kernel_rfl
theorem places151_14 : E.P.places 151 14 = some (14, 1) := by kernel_rfl
theorem places151_15 : E.P.places 151 15 = some (15, 1) := by kernel_rfl
theorem places151_16 : E.P.places 151 16 = some (16, 1) := by kernel_rfl
theorem places151_17 : E.P.places 151 17 = some (17, 1) := by kernel_rfl
theorem places151_18 : E.P.places 151 18 = some (18, 1) := by kernel_rfl
theorem places151_19 : E.P.places 151 19 = some (19, 1) := by kernel_rfl
theorem places151_20 : E.P.places 151 20 = some (20, 1) := by kernel_rfl
theorem places151_21 : E.P.places 151 21 = some (21, 1) := by kernel_rfl
theorem places151_22 : E.P.places 151 22 = some (22, 1) := by kernel_rfl
theorem places151_23 : E.P.places 151 23 = some (23, 1) := by kernel_rfl
theorem places151_24 : E.P.places 151 24 = some (24, 1) := by kernel_rfl
theorem places151_25 : E.P.places 151 25 = some (25, 1) := by kernel_rfl
theorem places151_26 : E.P.places 151 26 = some (26, 1) := by kernel_rfl
theorem places151_27 : E.P.places 151 27 = some (27, 1) := by kernel_rfl
theorem places151_28 : E.P.places 151 28 = some (28, 1) := by kernel_rfl
theorem places151_29 : E.P.places 151 29 = some (29, 1) := by kernel_rfl
theorem places151_30 : E.P.places 151 30 = some (30, 1) := by kernel_rfl
theorem places151_31 : E.P.places 151 31 = some (31, 1) := by kernel_rfl
theorem places151_32 : E.P.places 151 32 = some (32, 1) := by kernel_rfl
theorem places151_33 : E.P.places 151 33 = some (33, 1) := by kernel_rfl
theorem places151_34 : E.P.places 151 34 = some (34, 1) := by kernel_rfl
theorem places151_35 : E.P.places 151 35 = some (35, 1) := by kernel_rfl
theorem places151_36 : E.P.places 151 36 = some (36, 1) := by kernel_rfl
theorem places151_37 : E.P.places 151 37 = some (37, 1) := by kernel_rfl
theorem places151_38 : E.P.places 151 38 = some (38, 1) := by kernel_rfl
theorem places151_39 : E.P.places 151 39 = some (39, 1) := by kernel_rfl
theorem places151_40 : E.P.places 151 40 = some (40, 1) := by kernel_rfl
theorem places151_41 : E.P.places 151 41 = some (41, 1) := by kernel_rfl
theorem places151_42 : E.P.places 151 42 = some (42, 1) := by kernel_rfl
theorem places151_43 : E.P.places 151 43 = some (43, 1) := by kernel_rfl
theorem places151_44 : E.P.places 151 44 = some (44, 1) := by kernel_rfl
theorem places151_45 : E.P.places 151 45 = some (45, 1) := by kernel_rfl
theorem places151_46 : E.P.places 151 46 = some (46, 1) := by kernel_rfl
theorem places151_47 : E.P.places 151 47 = some (47, 1) := by kernel_rfl
theorem places151_48 : E.P.places 151 48 = some (48, 1) := by kernel_rfl
theorem places151_49 : E.P.places 151 49 = some (49, 1) := by kernel_rfl
theorem places151_50 : E.P.places 151 50 = some (50, 1) := by kernel_rfl
theorem places151_51 : E.P.places 151 51 = some (51, 1) := by kernel_rfl
theorem places151_52 : E.P.places 151 52 = some (52, 1) := by kernel_rfl
theorem places151_53 : E.P.places 151 53 = some (53, 1) := by kernel_rfl
theorem places151_54 : E.P.places 151 54 = some (54, 1) := by kernel_rfl
theorem places151_55 : E.P.places 151 55 = some (55, 1) := by kernel_rfl
theorem places151_56 : E.P.places 151 56 = some (56, 1) := by kernel_rfl
theorem places151_57 : E.P.places 151 57 = some (57, 1) := by kernel_rfl
theorem places151_58 : E.P.places 151 58 = some (58, 1) := by kernel_rfl
theorem places151_59 : E.P.places 151 59 = some (59, 1) := by kernel_rfl
theorem places151_60 : E.P.places 151 60 = some (60, 1) := by kernel_rfl
theorem places151_61 : E.P.places 151 61 = some (61, 1) := by kernel_rfl
theorem places151_62 : E.P.places 151 62 = some (62, 1) := by kernel_rfl
theorem places151_63 : E.P.places 151 63 = some (63, 1) := by kernel_rfl
theorem places151_64 : E.P.places 151 64 = some (64, 1) := by kernel_rfl
theorem places151_65 : E.P.places 151 65 = some (65, 1) := by kernel_rfl
theorem places151_66 : E.P.places 151 66 = some (66, 1) := by kernel_rfl
theorem places151_67 : E.P.places 151 67 = some (67, 1) := by kernel_rfl
theorem places151_68 : E.P.places 151 68 = some (68, 1) := by kernel_rfl
theorem places151_69 : E.P.places 151 69 = some (69, 1) := by kernel_rfl
theorem szO152 : E.P.szO 152 = some 5 := by kernel_rfl
theorem rowO152 : E.P.rowO 152 = some true := by kernel_rfl
theorem zeroL152 : E.P.zeroL 152 = some [AVal.int IntKind.u64 (0), AVal.int IntKind.u64 (0), AVal.int IntKind.u64 (0), AVal.int IntKind.u64 (0), AVal.int IntKind.u64 (0)] := by kernel_rfl
theorem isStr152 : E.P.isStr 152 = false := by kernel_rfl
theorem isInt152 : E.P.isInt 152 = false := by kernel_rfl
theorem isComp152 : E.P.isComp 152 = true := by kernel_rfl
theorem arrO152 : E.P.arrO 152 = some (5, 1, false) := by kernel_rfl
theorem und152 : (E.P.underlying 152).isSome = true := by kernel_rfl
theorem guard152 : E.P.eqGuardType E.P.depth 152 = false := by kernel_rfl
theorem places152_0 : E.P.places 152 0 = some (0, 1) := by kernel_rfl
theorem places152_1 : E.P.places 152 1 = some (1, 1) := by kernel_rfl
theorem places152_2 : E.P.places 152 2 = some (2, 1) := by kernel_rfl
theorem places152_3 : E.P.places 152 3 = some (3, 1) := by kernel_rfl
theorem places152_4 : E.P.places 152 4 = some (4, 1) := by kernel_rfl
theorem places152_5 : E.P.places 152 5 = some (5, 1) := by kernel_rfl
theorem places152_6 : E.P.places 152 6 = some (6, 1) := by kernel_rfl
theorem places152_7 : E.P.places 152 7 = some (7, 1) := by kernel_rfl
theorem places152_8 : E.P.places 152 8 = some (8, 1) := by kernel_rfl
theorem places152_9 : E.P.places 152 9 = some (9, 1) := by kernel_rfl
theorem places152_10 : E.P.places 152 10 = some (10, 1) := by kernel_rfl
theorem places152_11 : E.P.places 152 11 = some (11, 1) := by kernel_rfl
theorem places152_12 : E.P.places 152 12 = some (12, 1) := by kernel_rfl
theorem places152_13 : E.P.places 152 13 = some (13, 1) := by kernel_rfl
theorem places152_14 : E.P.places 152 14 = some (14, 1) := by kernel_rfl
theorem places152_15 : E.P.places 152 15 = some (15, 1) := by kernel_rfl
theorem places152_16 : E.P.places 152 16 = some (16, 1) := by kernel_rfl
theorem places152_17 : E.P.places 152 17 = some (17, 1) := by kernel_rfl
theorem places152_18 : E.P.places 152 18 = some (18, 1) := by kernel_rfl
theorem places152_19 : E.P.places 152 19 = some (19, 1) := by kernel_rfl
theorem places152_20 : E.P.places 152 20 = some (20, 1) := by kernel_rfl
theorem places152_21 : E.P.places 152 21 = some (21, 1) := by kernel_rfl
theorem places152_22 : E.P.places 152 22 = some (22, 1) := by kernel_rfl
theorem places152_23 : E.P.places 152 23 = some (23, 1) := by kernel_rfl
theorem places152_24 : E.P.places 152 24 = some (24, 1) := by kernel_rfl
theorem places152_25 : E.P.places 152 25 = some (25, 1) := by kernel_rfl
theorem places152_26 : E.P.places 152 26 = some (26, 1) := by kernel_rfl
theorem places152_27 : E.P.places 152 27 = some (27, 1) := by kernel_rfl
theorem places152_28 : E.P.places 152 28 = some (28, 1) := by kernel_rfl
theorem places152_29 : E.P.places 152 29 = some (29, 1) := by kernel_rfl
theorem places152_30 : E.P.places 152 30 = some (30, 1) := by kernel_rfl
theorem places152_31 : E.P.places 152 31 = some (31, 1) := by kernel_rfl
theorem places152_32 : E.P.places 152 32 = some (32, 1) := by kernel_rfl
theorem places152_33 : E.P.places 152 33 = some (33, 1) := by kernel_rfl
theorem places152_34 : E.P.places 152 34 = some (34, 1) := by kernel_rfl
theorem places152_35 : E.P.places 152 35 = some (35, 1) := by kernel_rfl
theorem places152_36 : E.P.places 152 36 = some (36, 1) := by kernel_rfl
theorem places152_37 : E.P.places 152 37 = some (37, 1) := by kernel_rfl
theorem places152_38 : E.P.places 152 38 = some (38, 1) := by kernel_rfl
theorem places152_39 : E.P.places 152 39 = some (39, 1) := by kernel_rfl
theorem places152_40 : E.P.places 152 40 = some (40, 1) := by kernel_rfl
theorem places152_41 : E.P.places 152 41 = some (41, 1) := by kernel_rfl
theorem places152_42 : E.P.places 152 42 = some (42, 1) := by kernel_rfl
theorem places152_43 : E.P.places 152 43 = some (43, 1) := by kernel_rfl
theorem places152_44 : E.P.places 152 44 = some (44, 1) := by kernel_rfl
theorem places152_45 : E.P.places 152 45 = some (45, 1) := by kernel_rfl
theorem places152_46 : E.P.places 152 46 = some (46, 1) := by kernel_rfl
theorem places152_47 : E.P.places 152 47 = some (47, 1) := by kernel_rfl
theorem places152_48 : E.P.places 152 48 = some (48, 1) := by kernel_rfl
theorem places152_49 : E.P.places 152 49 = some (49, 1) := by kernel_rfl
theorem places152_50 : E.P.places 152 50 = some (50, 1) := by kernel_rfl
theorem places152_51 : E.P.places 152 51 = some (51, 1) := by kernel_rfl
theorem places152_52 : E.P.places 152 52 = some (52, 1) := by kernel_rfl
theorem places152_53 : E.P.places 152 53 = some (53, 1) := by kernel_rfl
theorem places152_54 : E.P.places 152 54 = some (54, 1) := by kernel_rfl
theorem places152_55 : E.P.places 152 55 = some (55, 1) := by kernel_rfl
theorem places152_56 : E.P.places 152 56 = some (56, 1) := by kernel_rfl
theorem places152_57 : E.P.places 152 57 = some (57, 1) := by kernel_rfl
theorem places152_58 : E.P.places 152 58 = some (58, 1) := by kernel_rfl
theorem places152_59 : E.P.places 152 59 = some (59, 1) := by kernel_rfl
theorem places152_60 : E.P.places 152 60 = some (60, 1) := by kernel_rfl
theorem places152_61 : E.P.places 152 61 = some (61, 1) := by kernel_rfl
theorem places152_62 : E.P.places 152 62 = some (62, 1) := by kernel_rfl
theorem places152_63 : E.P.places 152 63 = some (63, 1) := by kernel_rfl
theorem places152_64 : E.P.places 152 64 = some (64, 1) := by kernel_rfl
theorem places152_65 : E.P.places 152 65 = some (65, 1) := by kernel_rfl
theorem places152_66 : E.P.places 152 66 = some (66, 1) := by kernel_rfl
theorem places152_67 : E.P.places 152 67 = some (67, 1) := by kernel_rfl
theorem places152_68 : E.P.places 152 68 = some (68, 1) := by kernel_rfl
theorem places152_69 : E.P.places 152 69 = some (69, 1) := by kernel_rfl
theorem szO153 : E.P.szO 153 = some 1 := by kernel_rfl
theorem rowO153 : E.P.rowO 153 = some false := by kernel_rfl
theorem zeroL153 : E.P.zeroL 153 = some [AVal.sc Value.nilFunc] := by kernel_rfl
theorem isStr153 : E.P.isStr 153 = false := by kernel_rfl
theorem isInt153 : E.P.isInt 153 = false := by kernel_rfl
theorem und153 : (E.P.underlying 153).isSome = true := by kernel_rfl
theorem guard153 : E.P.eqGuardType E.P.depth 153 = false := by kernel_rfl
theorem szO154 : E.P.szO 154 = some 1 := by kernel_rfl
theorem rowO154 : E.P.rowO 154 = some false := by kernel_rfl
theorem zeroL154 : E.P.zeroL 154 = some [AVal.sc Value.nilFunc] := by kernel_rfl
theorem isStr154 : E.P.isStr 154 = false := by kernel_rfl
theorem isInt154 : E.P.isInt 154 = false := by kernel_rfl
theorem und154 : (E.P.underlying 154).isSome = true := by kernel_rfl
theorem guard154 : E.P.eqGuardType E.P.depth 154 = false := by kernel_rfl
theorem szO155 : E.P.szO 155 = some 1 := by kernel_rfl
theorem rowO155 : E.P.rowO 155 = some false := by kernel_rfl
theorem zeroL155 : E.P.zeroL 155 = some [AVal.sc Value.nilFunc] := by kernel_rfl
theorem isStr155 : E.P.isStr 155 = false := by kernel_rfl
theorem isInt155 : E.P.isInt 155 = false := by kernel_rfl
theorem und155 : (E.P.underlying 155).isSome = true := by kernel_rfl
theorem guard155 : E.P.eqGuardType E.P.depth 155 = false := by kernel_rfl
theorem szO156 : E.P.szO 156 = some 1 := by kernel_rfl
theorem rowO156 : E.P.rowO 156 = some false := by kernel_rfl
theorem zeroL156 : E.P.zeroL 156 = some [AVal.sc Value.nilFunc] := by kernel_rfl
theorem isStr156 : E.P.isStr 156 = false := by kernel_rfl
theorem isInt156 : E.P.isInt 156 = false := by kernel_rfl
theorem und156 : (E.P.underlying 156).isSome = true := by kernel_rfl
theorem guard156 : E.P.eqGuardType E.P.depth 156 = false := by kernel_rfl
theorem szO157 : E.P.szO 157 = some 1 := by kernel_rfl
theorem rowO157 : E.P.rowO 157 = some false := by kernel_rfl
theorem zeroL157 : E.P.zeroL 157 = some [AVal.sc Value.nilFunc] := by kernel_rfl
theorem isStr157 : E.P.isStr 157 = false := by kernel_rfl
theorem isInt157 : E.P.isInt 157 = false := by kernel_rfl
theorem und157 : (E.P.underlying 157).isSome = true := by kernel_rfl
theorem guard157 : E.P.eqGuardType E.P.depth 157 = false := by kernel_rfl
theorem szO158 : E.P.szO 158 = some 1 := by kernel_rfl
theorem rowO158 : E.P.rowO 158 = some false := by kernel_rfl
theorem zeroL158 : E.P.zeroL 158 = some [AVal.sc Value.nilFunc] := by kernel_rfl
theorem isStr158 : E.P.isStr 158 = false := by kernel_rfl
theorem isInt158 : E.P.isInt 158 = false := by kernel_rfl
theorem und158 : (E.P.underlying 158).isSome = true := by kernel_rfl
theorem guard158 : E.P.eqGuardType E.P.depth 158 = false := by kernel_rfl
theorem szO159 : E.P.szO 159 = some 64 := by kernel_rfl
theorem rowO159 : E.P.rowO 159 = some true := by kernel_rfl
theorem zeroL159 : E.P.zeroL 159 = some [AVal.int IntKind.u32 (0), AVal.int IntKind.u32 (0), AVal.int IntKind.u32 (0), AVal.int IntKind.u32 (0), AVal.int IntKind.u32 (0), AVal.int IntKind.u32 (0), AVal.int IntKind.u32 (0), AVal.int IntKind.u32 (0), AVal.int IntKind.u32 (0), AVal.int IntKind.u32 (0), AVal.int IntKind.u32 (0), AVal.int IntKind.u32 (0), AVal.int IntKind.u32 (0), AVal.int IntKind.u32 (0), AVal.int IntKind.u32 (0), AVal.int IntKind.u32 (0), AVal.int IntKind.u32 (0), AVal.int IntKind.u32 (0), AVal.int IntKind.u32 (0), AVal.int IntKind.u32 (0), AVal.int IntKind.u32 (0), AVal.int IntKind.u32 (0), AVal.int IntKind.u32 (0), AVal.int IntKind.u32 (0), AVal.int IntKind.u32 (0), AVal.int IntKind.u32 (0), AVal.int IntKind.u32 (0), AVal.int IntKind.u32 (0), AVal.int IntKind.u32 (0), AVal.int IntKind.u32 (0), AVal.int IntKind.u32 (0), AVal.int IntKind.u32 (0), AVal.int IntKind.u32 (0), AVal.int IntKind.u32 (0), AVal.int IntKind.u32 (0), AVal.int IntKind.u32 (0), AVal.int IntKind.u32 (0), AVal.int IntKind.u32 (0), AVal.int IntKind.u32 (0), AVal.int IntKind.u32 (0), AVal.int IntKind.u32 (0), AVal.int IntKind.u32 (0), AVal.int IntKind.u32 (0), AVal.int IntKind.u32 (0), AVal.int IntKind.u32 (0), AVal.int IntKind.u32 (0), AVal.int IntKind.u32 (0), AVal.int IntKind.u32 (0), AVal.int IntKind.u32 (0), AVal.int IntKind.u32 (0), AVal.int IntKind.u32 (0), AVal.int IntKind.u32 (0), AVal.int IntKind.u32 (0), AVal.int IntKind.u32 (0), AVal.int IntKind.u32 (0), AVal.int IntKind.u32 (0), AVal.int IntKind.u32 (0), AVal.int IntKind.u32 (0), AVal.int IntKind.u32 (0), AVal.int IntKind.u32 (0), AVal.int IntKind.u32 (0), AVal.int IntKind.u32 (0), AVal.int IntKind.u32 (0), AVal.int IntKind.u32 (0)] := by kernel_rfl
theorem isStr159 : E.P.isStr 159 = false := by kernel_rfl
theorem isInt159 : E.P.isInt 159 = false := by kernel_rfl
theorem isComp159 : E.P.isComp 159 = true := by kernel_rfl
theorem arrO159 : E.P.arrO 159 = some (64, 1, false) := by kernel_rfl
theorem und159 : (E.P.underlying 159).isSome = true := by kernel_rfl
theorem guard159 : E.P.eqGuardType E.P.depth 159 = false := by kernel_rfl
theorem places159_0 : E.P.places 159 0 = some (0, 1) := by kernel_rfl
theorem places159_1 : E.P.places 159 1 = some (1, 1) := by kernel_rfl
theorem places159_2 : E.P.places 159 2 = some (2, 1) := by kernel_rfl
theorem places159_3 : E.P.places 159 3 = some (3, 1) := by kernel_rfl
theorem places159_4 : E.P.places 159 4 = some (4, 1) := by kernel_rfl
theorem places159_5 : E.P.places 159 5 = some (5, 1) := by kernel_rfl
theorem places159_6 : E.P.places 159 6 = some (6, 1) := by kernel_rfl
theorem places159_7 : E.P.places 159 7 = some (7, 1) := by kernel_rfl
theorem places159_8 : E.P.places 159 8 = some (8, 1) := by kernel_rfl
theorem places159_9 : E.P.places 159 9 = some (9, 1) := by kernel_rfl
theorem places159_10 : E.P.places 159 10 = some (10, 1) := by kernel_rfl
theorem places159_11 : E.P.places 159 11 = some (11, 1) := by kernel_rfl
theorem places159_12 : E.P.places 159 12 = some (12, 1) := by kernel_rfl
theorem places159_13 : E.P.places 159 13 = some (13, 1) := by kernel_rfl
theorem places159_14 : E.P.places 159 14 = some (14, 1) := by kernel_rfl
theorem places159_15 : E.P.places 159 15 = some (15, 1) := by kernel_rfl
theorem places159_16 : E.P.places 159 16 = some (16, 1) := by kernel_rfl
theorem places159_17 : E.P.places 159 17 = some (17, 1) := by kernel_rfl
theorem places159_18 : E.P.places 159 18 = some (18, 1) := by kernel_rfl
theorem places159_19 : E.P.places 159 19 = some (19, 1) := by kernel_rfl
theorem places159_20 : E.P.places 159 20 = some (20, 1) := by kernel_rfl
theorem places159_21 : E.P.places 159 21 = some (21, 1) := by kernel_rfl
theorem places159_22 : E.P.places 159 22 = some (22, 1) := by kernel_rfl
theorem places159_23 : E.P.places 159 23 = some (23, 1) := by kernel_rfl
theorem places159_24 : E.P.places 159 24 = some (24, 1) := by kernel_rfl
theorem places159_25 : E.P.places 159 25 = some (25, 1) := by kernel_rfl
theorem places159_26 : E.P.places 159 26 = some (26, 1) := by kernel_rfl
theorem places159_27 : E.P.places 159 27 = some (27, 1) := by kernel_rfl
theorem places159_28 : E.P.places 159 28 = some (28, 1) := by kernel_rfl
theorem places159_29 : E.P.places 159 29 = some (29, 1) := by kernel_rfl
theorem places159_30 : E.P.places 159 30 = some (30, 1) := by kernel_rfl
theorem places159_31 : E.P.places 159 31 = some (31, 1) := by kernel_rfl
theorem places159_32 : E.P.places 159 32 = some (32, 1) := by kernel_rfl
theorem places159_33 : E.P.places 159 33 = some (33, 1) := by kernel_rfl
theorem places159_34 : E.P.places 159 34 = some (34, 1) := by kernel_rfl
theorem places159_35 : E.P.places 159 35 = some (35, 1) := by kernel_rfl
theorem places159_36 : E.P.places 159 36 = some (36, 1) := by kernel_rfl
theorem places159_37 : E.P.places 159 37 = some (37, 1) := by kernel_rfl
theorem places159_38 : E.P.places 159 38 = some (38, 1) := by kernel_rfl
theorem places159_39 : E.P.places 159 39 = some (39, 1) := by kernel_rfl
theorem places159_40 : E.P.places 159 40 = some (40, 1) := by kernel_rfl
theorem places159_41 : E.P.places 159 41 = some (41, 1) := by kernel_rfl
theorem places159_42 : E.P.places 159 42 = some (42, 1) := by kernel_rfl
theorem places159_43 : E.P.places 159 43 = some (43, 1) := by kernel_rfl
theorem places159_44 : E.P.places 159 44 = some (44, 1) := by kernel_rfl
theorem places159_45 : E.P.places 159 45 = some (45, 1) := by kernel_rfl
theorem places159_46 : E.P.places 159 46 = some (46, 1) := by kernel_rfl
theorem places159_47 : E.P.places 159 47 = some (47, 1) := by kernel_rfl
theorem places159_48 : E.P.places 159 48 = some (48, 1) := by kernel_rfl
theorem places159_49 : E.P.places 159 49 = some (49, 1) := by kernel_rfl
theorem places159_50 : E.P.places 159 50 = some (50, 1) := by kernel_rfl
theorem places159_51 : E.P.places 159 51 = some (51, 1) := by kernel_rfl
theorem places159_52 : E.P.places 159 52 = some (52, 1) := by kernel_rfl
theorem places159_53 : E.P.places 159 53 = some (53, 1) := by kernel_rfl
theorem places159_54 : E.P.places 159 54 = some (54, 1) := by kernel_rfl
theorem places159_55 : E.P.places 159 55 = some (55, 1) := by kernel_rfl
theorem places159_56 : E.P.places 159 56 = some (56, 1) := by kernel_rfl
theorem places159_57 : E.P.places 159 57 = some (57, 1) := by kernel_rfl
theorem places159_58 : E.P.places 159 58 = some (58, 1) := by kernel_rfl
theorem places159_59 : E.P.places 159 59 = some (59, 1) := by kernel_rfl
theorem places159_60 : E.P.places 159 60 = some (60, 1) := by kernel_rfl
theorem places159_61 : E.P.places 159 61 = some (61, 1) := by kernel_rfl
theorem places159_62 : E.P.places 159 62 = some (62, 1) := by kernel_rfl
theorem places159_63 : E.P.places 159 63 = some (63, 1) := by kernel_rfl
theorem places159_64 : E.P.places 159 64 = some (64, 1) := by kernel_rfl
theorem places159_65 : E.P.places 159 65 = some (65, 1) := by kernel_rfl
theorem places159_66 : E.P.places 159 66 = some (66, 1) := by kernel_rfl
theorem places159_67 : E.P.places 159 67 = some (67, 1) := by kernel_rfl
theorem places159_68 : E.P.places 159 68 = some (68, 1) := by kernel_rfl
theorem places159_69 : E.P.places 159 69 = some (69, 1) := by kernel_rfl
theorem szO160 : E.P.szO 160 = some 1 := by kernel_rfl
theorem rowO160 : E.P.rowO 160 = some false := by kernel_rfl
theorem zeroL160 : E.P.zeroL 160 = some [AVal.sc Value.nilFunc] := by kernel_rfl
theorem isStr160 : E.P.isStr 160 = false := by kernel_rfl
theorem isInt160 : E.P.isInt 160 = false := by kernel_rfl
theorem und160 : (E.P.underlying 160).isSome = true := by kernel_rfl
theorem guard160 : E.P.eqGuardType E.P.depth 160 = false := by kernel_rfl
theorem szO161 : E.P.szO 161 = some 1 := by kernel_rfl
theorem rowO161 : E.P.rowO 161 = some false := by kernel_rfl
theorem zeroL161 : E.P.zeroL 161 = some [AVal.sc Value.nilFunc] := by kernel_rfl
theorem isStr161 : E.P.isStr 161 = false := by kernel_rfl
theorem isInt161 : E.P.isInt 161 = false := by kernel_rfl
theorem und161 : (E.P.underlying 161).isSome = true := by kernel_rfl
theorem guard161 : E.P.eqGuardType E.P.depth 161 = false := by kernel_rfl
theorem szO162 : E.P.szO 162 = some 1 := by kernel_rfl
theorem rowO162 : E.P.rowO 162 = some false := by kernel_rfl
theorem zeroL162 : E.P.zeroL 162 = some [AVal.sc Value.nilFunc] := by kernel_rfl
theorem isStr162 : E.P.isStr 162 = false := by kernel_rfl
theorem isInt162 : E.P.isInt 162 = false := by kernel_rfl
theorem und162 : (E.P.underlying 162).isSome = true := by kernel_rfl
theorem guard162 : E.P.eqGuardType E.P.depth 162 = false := by kernel_rfl
theorem szO163 : E.P.szO 163 = some 24 := by kernel_rfl
theorem rowO163 : E.P.rowO 163 = some true := by kernel_rfl
theorem zeroL163 : E.P.zeroL 163 = some [AVal.int IntKind.u8 (0), AVal.int IntKind.u8 (0), AVal.int IntKind.u8 (0), AVal.int IntKind.u8 (0), AVal.int IntKind.u8 (0), AVal.int IntKind.u8 (0), AVal.int IntKind.u8 (0), AVal.int IntKind.u8 (0), AVal.int IntKind.u8 (0), AVal.int IntKind.u8 (0), AVal.int IntKind.u8 (0), AVal.int IntKind.u8 (0), AVal.int IntKind.u8 (0), AVal.int IntKind.u8 (0), AVal.int IntKind.u8 (0), AVal.int IntKind.u8 (0), AVal.int IntKind.u8 (0), AVal.int IntKind.u8 (0), AVal.int IntKind.u8 (0), AVal.int IntKind.u8 (0), AVal.int IntKind.u8 (0), AVal.int IntKind.u8 (0), AVal.int IntKind.u8 (0), AVal.int IntKind.u8 (0)] := by kernel_rfl
theorem isStr163 : E.P.isStr 163 = false := by kernel_rfl
theorem isInt163 : E.P.isInt 163 = false := by kernel_rfl
theorem isComp163 : E.P.isComp 163 = true := by kernel_rfl
theorem arrO163 : E.P.arrO 163 = some (24, 1, false) := by kernel_rfl
theorem und163 : (E.P.underlying 163).isSome = true := by kernel_rfl
theorem guard163 : E.P.eqGuardType E.P.depth 163 = false := by kernel_rfl
theorem places163_0 : E.P.places 163 0 = some (0, 1) := by kernel_rfl
theorem places163_1 : E.P.places 163 1 = some (1, 1) := by kernel_rfl
theorem places163_2 : E.P.places 163 2 = some (2, 1) := by kernel_rfl
theorem places163_3 : E.P.places 163 3 = some (3, 1) := by kernel_rfl
theorem places163_4 : E.P.places 163 4 = some (4, 1) := by kernel_rfl
theorem places163_5 : E.P.places 163 5 = some (5, 1) := by kernel_rfl
theorem places163_6 : E.P.places 163 6 = some (6, 1) := by kernel_rfl
theorem places163_7 : E.P.places 163 7 = some (7, 1) := by kernel_rfl
theorem places163_8 : E.P.places 163 8 = some (8, 1) := by kernel_rfl
theorem places163_9 : E.P.places 163 9 = some (9, 1) := by kernel_rfl
theorem places163_10 : E.P.places 163 10 = some (10, 1) := by kernel_rfl
theorem places163_11 : E.P.places 163 11 = some (11, 1) := by kernel_rfl
theorem places163_12 : E.P.places 163 12 = some (12, 1) := by kernel_rfl
theorem places163_13 : E.P.places 163 13 = some (13, 1) := by kernel_rfl
theorem places163_14 : E.P.places 163 14 = some (14, 1) := by kernel_rfl
theorem places163_15 : E.P.places 163 15 = some (15, 1) := by kernel_rfl
theorem places163_16 : E.P.places 163 16 = some (16, 1) := by kernel_rfl
theorem places163_17 : E.P.places 163 17 = some (17, 1) := by kernel_rfl
theorem places163_18 : E.P.places 163 18 = some (18, 1) := by kernel_rfl
theorem places163_19 : E.P.places 163 19 = some (19, 1) := by kernel_rfl
theorem places163_20 : E.P.places 163 20 = some (20, 1) := by kernel_rfl
theorem places163_21 : E.P.places 163 21 = some (21, 1) := by kernel_rfl
theorem places163_22 : E.P.places 163 22 = some (22, 1) := by kernel_rfl
theorem places163_23 : E.P.places 163 23 = some (23, 1) := by kernel_rfl
theorem places163_24 : E.P.places 163 24 = some (24, 1) := by kernel_rfl
theorem places163_25 : E.P.places 163 25 = some (25, 1) := by kernel_rfl
theorem places163_26 : E.P.places 163 26 = some (26, 1) := by kernel_rfl
theorem places163_27 : E.P.places 163 27 = some (27, 1) := by kernel_rfl
theorem places163_28 : E.P.places 163 28 = some (28, 1) := by kernel_rfl
theorem places163_29 : E.P.places 163 29 = some (29, 1) := by kernel_rfl
theorem places163_30 : E.P.places 163 30 = some (30, 1) := by kernel_rfl
theorem places163_31 : E.P.places 163 31 = some (31, 1) := by kernel_rfl
theorem places163_32 : E.P.places 163 32 = some (32, 1) := by kernel_rfl
theorem places163_33 : E.P.places 163 33 = some (33, 1) := by kernel_rfl
theorem places163_34 : E.P.places 163 34 = some (34, 1) := by kernel_rfl
theorem places163_35 : E.P.places 163 35 = some (35, 1) := by kernel_rfl
theorem places163_36 : E.P.places 163 36 = some (36, 1) := by kernel_rfl
theorem places163_37 : E.P.places 163 37 = some (37, 1) := by kernel_rfl
theorem places163_38 : E.P.places 163 38 = some (38, 1) := by kernel_rfl
theorem places163_39 : E.P.places 163 39 = some (39, 1) := by kernel_rfl
theorem places163_40 : E.P.places 163 40 = some (40, 1) := by kernel_rfl
theorem places163_41 : E.P.places 163 41 = some (41, 1) := by kernel_rfl
theorem places163_42 : E.P.places 163 42 = some (42, 1) := by kernel_rfl
theorem places163_43 : E.P.places 163 43 = some (43, 1) := by kernel_rfl
theorem places163_44 : E.P.places 163 44 = some (44, 1) := by kernel_rfl
theorem places163_45 : E.P.places 163 45 = some (45, 1) := by kernel_rfl
theorem places163_46 : E.P.places 163 46 = some (46, 1) := by kernel_rfl
theorem places163_47 : E.P.places 163 47 = some (47, 1) := by kernel_rfl
theorem places163_48 : E.P.places 163 48 = some (48, 1) := by kernel_rfl
theorem places163_49 : E.P.places 163 49 = some (49, 1) := by kernel_rfl
theorem places163_50 : E.P.places 163 50 = some (50, 1) := by kernel_rfl
theorem places163_51 : E.P.places 163 51 = some (51, 1) := by kernel_rfl
theorem places163_52 : E.P.places 163 52 = some (52, 1) := by kernel_rfl
theorem places163_53 : E.P.places 163 53 = some (53, 1) := by kernel_rfl
theorem places163_54 : E.P.places 163 54 = some (54, 1) := by kernel_rfl
theorem places163_55 : E.P.places 163 55 = some (55, 1) := by kernel_rfl
theorem places163_56 : E.P.places 163 56 = some (56, 1) := by kernel_rfl
theorem places163_57 : E.P.places 163 57 = some (57, 1) := by kernel_rfl
theorem places163_58 : E.P.places 163 58 = some (58, 1) := by kernel_rfl
theorem places163_59 : E.P.places 163 59 = some (59, 1) := by kernel_rfl
theorem places163_60 : E.P.places 163 60 = some (60, 1) := by kernel_rfl
theorem places163_61 : E.P.places 163 61 = some (61, 1) := by kernel_rfl
theorem places163_62 : E.P.places 163 62 = some (62, 1) := by kernel_rfl
theorem places163_63 : E.P.places 163 63 = some (63, 1) := by kernel_rfl
theorem places163_64 : E.P.places 163 64 = some (64, 1) := by kernel_rfl
theorem places163_65 : E.P.places 163 65 = some (65, 1) := by kernel_rfl
theorem places163_66 : E.P.places 163 66 = some (66, 1) := by kernel_rfl
theorem places163_67 : E.P.places 163 67 = some (67, 1) := by kernel_rfl
theorem places163_68 : E.P.places 163 68 = some (68, 1) := by kernel_rfl
theorem places163_69 : E.P.places 163 69 = some (69, 1) := by kernel_rfl
theorem szO164 : E.P.szO 164 = some 1 := by kernel_rfl
theorem rowO164 : E.P.rowO 164 = some false := by kernel_rfl
theorem zeroL164 : E.P.zeroL 164 = some [AVal.sc Value.nilFunc] := by kernel_rfl
theorem isStr164 : E.P.isStr 164 = false := by kernel_rfl
theorem isInt164 : E.P.isInt 164 = false := by kernel_rfl
theorem und164 : (E.P.underlying 164).isSome = true := by kernel_rfl
theorem guard164 : E.P.eqGuardType E.P.depth 164 = false := by kernel_rfl
theorem szO165 : E.P.szO 165 = some 1 := by kernel_rfl
theorem rowO165 : E.P.rowO 165 = some false := by kernel_rfl
theorem zeroL165 : E.P.zeroL 165 = some [AVal.sc Value.nilFunc] := by kernel_rfl
theorem isStr165 : E.P.isStr 165 = false := by kernel_rfl
theorem isInt165 : E.P.isInt 165 = false := by kernel_rfl
theorem und165 : (E.P.underlying 165).isSome = true := by kernel_rfl
theorem guard165 : E.P.eqGuardType E.P.depth 165 = false := by kernel_rfl
theorem szO166 : E.P.szO 166 = some 1 := by kernel_rfl
theorem rowO166 : E.P.rowO 166 = some false := by kernel_rfl
theorem zeroL166 : E.P.zeroL 166 = some [AVal.sc (Value.tuple { toList := [Value.slice none 0 0, Value.string { data := { toList := [] } }] })] := by kernel_rfl
theorem isStr166 : E.P.isStr 166 = false := by kernel_rfl
theorem isInt166 : E.P.isInt 166 = false := by kernel_rfl
theorem und166 : (E.P.underlying 166).isSome = true := by kernel_rfl
theorem guard166 : E.P.eqGuardType E.P.depth 166 = false := by kernel_rfl
theorem szO167 : E.P.szO 167 = some 1 := by kernel_rfl
theorem rowO167 : E.P.rowO 167 = some false := by kernel_rfl
theorem zeroL167 : E.P.zeroL 167 = some [AVal.sc Value.nilFunc] := by kernel_rfl
theorem isStr167 : E.P.isStr 167 = false := by kernel_rfl
theorem isInt167 : E.P.isInt 167 = false := by kernel_rfl
theorem und167 : (E.P.underlying 167).isSome = true := by kernel_rfl
theorem guard167 : E.P.eqGuardType E.P.depth 167 = false := by kernel_rfl
theorem szO168 : E.P.szO 168 = some 1 := by kernel_rfl
theorem rowO168 : E.P.rowO 168 = some false := by kernel_rfl
theorem zeroL168 : E.P.zeroL 168 = some [AVal.sc Value.nilFunc] := by kernel_rfl
theorem isStr168 : E.P.isStr 168 = false := by kernel_rfl
theorem isInt168 : E.P.isInt 168 = false := by kernel_rfl
theorem und168 : (E.P.underlying 168).isSome = true := by kernel_rfl
theorem guard168 : E.P.eqGuardType E.P.depth 168 = false := by kernel_rfl
theorem szO169 : E.P.szO 169 = some 1 := by kernel_rfl
theorem rowO169 : E.P.rowO 169 = some false := by kernel_rfl
theorem zeroL169 : E.P.zeroL 169 = some [AVal.sc (Value.tuple { toList := [Value.int IntKind.i64 (0), Value.int IntKind.i64 (0)] })] := by kernel_rfl
theorem isStr169 : E.P.isStr 169 = false := by kernel_rfl
theorem isInt169 : E.P.isInt 169 = false := by kernel_rfl
theorem und169 : (E.P.underlying 169).isSome = true := by kernel_rfl
theorem guard169 : E.P.eqGuardType E.P.depth 169 = false := by kernel_rfl
theorem szO170 : E.P.szO 170 = some 1 := by kernel_rfl
theorem rowO170 : E.P.rowO 170 = some false := by kernel_rfl
theorem zeroL170 : E.P.zeroL 170 = some [AVal.sc Value.nilFunc] := by kernel_rfl
theorem isStr170 : E.P.isStr 170 = false := by kernel_rfl
theorem isInt170 : E.P.isInt 170 = false := by kernel_rfl
theorem und170 : (E.P.underlying 170).isSome = true := by kernel_rfl
theorem guard170 : E.P.eqGuardType E.P.depth 170 = false := by kernel_rfl
theorem szO171 : E.P.szO 171 = some 1 := by kernel_rfl
theorem rowO171 : E.P.rowO 171 = some false := by kernel_rfl
theorem zeroL171 : E.P.zeroL 171 = some [AVal.sc Value.nilFunc] := by kernel_rfl
theorem isStr171 : E.P.isStr 171 = false := by kernel_rfl
theorem isInt171 : E.P.isInt 171 = false := by kernel_rfl
theorem und171 : (E.P.underlying 171).isSome = true := by kernel_rfl
theorem guard171 : E.P.eqGuardType E.P.depth 171 = false := by kernel_rfl
theorem szO172 : E.P.szO 172 = some 1 := by kernel_rfl
theorem rowO172 : E.P.rowO 172 = some false := by kernel_rfl
theorem zeroL172 : E.P.zeroL 172 = some [AVal.sc Value.nilFunc] := by kernel_rfl
theorem isStr172 : E.P.isStr 172 = false := by kernel_rfl
theorem isInt172 : E.P.isInt 172 = false := by kernel_rfl
theorem und172 : (E.P.underlying 172).isSome = true := by kernel_rfl
theorem guard172 : E.P.eqGuardType E.P.depth 172 = false := by kernel_rfl
theorem szO173 : E.P.szO 173 = some 1 := by kernel_rfl
theorem rowO173 : E.P.rowO 173 = some false := by kernel_rfl
theorem zeroL173 : E.P.zeroL 173 = some [AVal.sc Value.nilFunc] := by kernel_rfl
theorem isStr173 : E.P.isStr 173 = false := by kernel_rfl
theorem isInt173 : E.P.isInt 173 = false := by kernel_rfl
theorem und173 : (E.P.underlying 173).isSome = true := by kernel_rfl
theorem guard173 : E.P.eqGuardType E.P.depth 173 = false := by kernel_rfl
theorem szO174 : E.P.szO 174 = some 20 := by kernel_rfl
theorem rowO174 : E.P.rowO 174 = some true := by kernel_rfl
theorem zeroL174 : E.P.zeroL 174 = some [AVal.int IntKind.u64 (0), AVal.int IntKind.u64 (0), AVal.int IntKind.u64 (0), AVal.int IntKind.u64 (0), AVal.int IntKind.u64 (0), AVal.int IntKind.u64 (0), AVal.int IntKind.u64 (0), AVal.int IntKind.u64 (0), AVal.int IntKind.u64 (0), AVal.int IntKind.u64 (0), AVal.int IntKind.u64 (0), AVal.int IntKind.u64 (0), AVal.int IntKind.u64 (0), AVal.int IntKind.u64 (0), AVal.int IntKind.u64 (0), AVal.int IntKind.u64 (0), AVal.int IntKind.u64 (0), AVal.int IntKind.u64 (0), AVal.int IntKind.u64 (0), AVal.int IntKind.u64 (0)] := by kernel_rfl
theorem isStr174 : E.P.isStr 174 = false := by kernel_rfl
theorem isInt174 : E.P.isInt 174 = false := by kernel_rfl
theorem isComp174 : E.P.isComp 174 = true := by kernel_rfl
theorem arrO174 : E.P.arrO 174 = some (20, 1, false) := by kernel_rfl
theorem und174 : (E.P.underlying 174).isSome = true := by kernel_rfl
theorem guard174 : E.P.eqGuardType E.P.depth 174 = false := by kernel_rfl
theorem places174_0 : E.P.places 174 0 = some (0, 1) := by kernel_rfl
theorem places174_1 : E.P.places 174 1 = some (1, 1) := by kernel_rfl
theorem places174_2 : E.P.places 174 2 = some (2, 1) := by kernel_rfl
theorem places174_3 : E.P.places 174 3 = some (3, 1) := by kernel_rfl
theorem places174_4 : E.P.places 174 4 = some (4, 1) := by kernel_rfl
theorem places174_5 : E.P.places 174 5 = some (5, 1) := by kernel_rfl
theorem places174_6 : E.P.places 174 6 = some (6, 1) := by kernel_rfl
theorem places174_7 : E.P.places 174 7 = some (7, 1) := by kernel_rfl
theorem places174_8 : E.P.places 174 8 = some (8, 1) := by kernel_rfl
theorem places174_9 : E.P.places 174 9 = some (9, 1) := by kernel_rfl
theorem places174_10 : E.P.places 174 10 = some (10, 1) := by kernel_rfl
theorem places174_11 : E.P.places 174 11 = some (11, 1) := by kernel_rfl
theorem places174_12 : E.P.places 174 12 = some (12, 1) := by kernel_rfl
theorem places174_13 : E.P.places 174 13 = some (13, 1) := by kernel_rfl
theorem places174_14 : E.P.places 174 14 = some (14, 1) := by kernel_rfl
theorem places174_15 : E.P.places 174 15 = some (15, 1) := by kernel_rfl
theorem places174_16 : E.P.places 174 16 = some (16, 1) := by kernel_rfl
theorem places174_17 : E.P.places 174 17 = some (17, 1) := by kernel_rfl
theorem places174_18 : E.P.places 174 18 = some (18, 1) := by kernel_rfl
theorem places174_19 : E.P.places 174 19 = some (19, 1) := by kernel_rfl
theorem places174_20 : E.P.places 174 20 = some (20, 1) := by kernel_rfl
theorem places174_21 : E.P.places 174 21 = some (21, 1) := by kernel_rfl
theorem places174_22 : E.P.places 174 22 = some (22, 1) := by kernel_rfl
theorem places174_23 : E.P.places 174 23 = some (23, 1) := by kernel_rfl
theorem places174_24 : E.P.places 174 24 = some (24, 1) := by kernel_rfl
theorem places174_25 : E.P.places 174 25 = some (25, 1) := by kernel_rfl
theorem places174_26 : E.P.places 174 26 = some (26, 1) := by kernel_rfl
theorem places174_27 : E.P.places 174 27 = some (27, 1) := by kernel_rfl
theorem places174_28 : E.P.places 174 28 = some (28, 1) := by kernel_rfl
theorem places174_29 : E.P.places 174 29 = some (29, 1) := by kernel_rfl
theorem places174_30 : E.P.places 174 30 = some (30, 1) := by kernel_rfl
theorem places174_31 : E.P.places 174 31 = some (31, 1) := by kernel_rfl
theorem places174_32 : E.P.places 174 32 = some (32, 1) := by kernel_rfl
theorem places174_33 : E.P.places 174 33 = some (33, 1) := by kernel_rfl
theorem places174_34 : E.P.places 174 34 = some (34, 1) := by kernel_rfl
theorem places174_35 : E.P.places 174 35 = some (35, 1) := by kernel_rfl
theorem places174_36 : E.P.places 174 36 = some (36, 1) := by kernel_rfl
theorem places174_37 : E.P.places 174 37 = some (37, 1) := by kernel_rfl
theorem places174_38 : E.P.places 174 38 = some (38, 1) := by kernel_rfl
theorem places174_39 : E.P.places 174 39 = some (39, 1) := by kernel_rfl
theorem places174_40 : E.P.places 174 40 = some (40, 1) := by kernel_rfl
theorem places174_41 : E.P.places 174 41 = some (41, 1) := by kernel_rfl
theorem places174_42 : E.P.places 174 42 = some (42, 1) := by kernel_rfl
theorem places174_43 : E.P.places 174 43 = some (43, 1) := by kernel_rfl
theorem places174_44 : E.P.places 174 44 = some (44, 1) := by kernel_rfl
theorem places174_45 : E.P.places 174 45 = some (45, 1) := by kernel_rfl
theorem places174_46 : E.P.places 174 46 = some (46, 1) := by kernel_rfl
theorem places174_47 : E.P.places 174 47 = some (47, 1) := by kernel_rfl
theorem places174_48 : E.P.places 174 48 = some (48, 1) := by kernel_rfl
theorem places174_49 : E.P.places 174 49 = some (49, 1) := by kernel_rfl
theorem places174_50 : E.P.places 174 50 = some (50, 1) := by kernel_rfl
theorem places174_51 : E.P.places 174 51 = some (51, 1) := by kernel_rfl
theorem places174_52 : E.P.places 174 52 = some (52, 1) := by kernel_rfl
theorem places174_53 : E.P.places 174 53 = some (53, 1) := by kernel_rfl
theorem places174_54 : E.P.places 174 54 = some (54, 1) := by kernel_rfl
theorem places174_55 : E.P.places 174 55 = some (55, 1) := by kernel_rfl
theorem places174_56 : E.P.places 174 56 = some (56, 1) := by kernel_rfl
theorem places174_57 : E.P.places 174 57 = some (57, 1) := by kernel_rfl
theorem places174_58 : E.P.places 174 58 = some (58, 1) := by kernel_rfl
theorem places174_59 : E.P.places 174 59 = some (59, 1) := by kernel_rfl
theorem places174_60 : E.P.places 174 60 = some (60, 1) := by kernel_rfl
theorem places174_61 : E.P.places 174 61 = some (61, 1) := by kernel_rfl
theorem places174_62 : E.P.places 174 62 = some (62, 1) := by kernel_rfl
theorem places174_63 : E.P.places 174 63 = some (63, 1) := by kernel_rfl
theorem places174_64 : E.P.places 174 64 = some (64, 1) := by kernel_rfl
theorem places174_65 : E.P.places 174 65 = some (65, 1) := by kernel_rfl
theorem places174_66 : E.P.places 174 66 = some (66, 1) := by kernel_rfl
theorem places174_67 : E.P.places 174 67 = some (67, 1) := by kernel_rfl
theorem places174_68 : E.P.places 174 68 = some (68, 1) := by kernel_rfl
theorem places174_69 : E.P.places 174 69 = some (69, 1) := by kernel_rfl
theorem szO175 : E.P.szO 175 = some 65 := by kernel_rfl
theorem rowO175 : E.P.rowO 175 = some true := by kernel_rfl
theorem zeroL175 : E.P.zeroL 175 = some [AVal.int IntKind.u8 (0), AVal.int IntKind.u8 (0), AVal.int IntKind.u8 (0), AVal.int IntKind.u8 (0), AVal.int IntKind.u8 (0), AVal.int IntKind.u8 (0), AVal.int IntKind.u8 (0), AVal.int IntKind.u8 (0), AVal.int IntKind.u8 (0), AVal.int IntKind.u8 (0), AVal.int IntKind.u8 (0), AVal.int IntKind.u8 (0), AVal.int IntKind.u8 (0), AVal.int IntKind.u8 (0), AVal.int IntKind.u8 (0), AVal.int IntKind.u8 (0), AVal.int IntKind.u8 (0), AVal.int IntKind.u8 (0), AVal.int IntKind.u8 (0), AVal.int IntKind.u8 (0), AVal.int IntKind.u8 (0), AVal.int IntKind.u8 (0), AVal.int IntKind.u8 (0), AVal.int IntKind.u8 (0), AVal.int IntKind.u8 (0), AVal.int IntKind.u8 (0), AVal.int IntKind.u8 (0), AVal.int IntKind.u8 (0), AVal.int IntKind.u8 (0), AVal.int IntKind.u8 (0), AVal.int IntKind.u8 (0), AVal.int IntKind.u8 (0), AVal.int IntKind.u8 (0), AVal.int IntKind.u8 (0), AVal.int IntKind.u8 (0), AVal.int IntKind.u8 (0), AVal.int IntKind.u8 (0), AVal.int IntKind.u8 (0), AVal.int IntKind.u8 (0), AVal.int IntKind.u8 (0), AVal.int IntKind.u8 (0), AVal.int IntKind.u8 (0), AVal.int IntKind.u8 (0), AVal.int IntKind.u8 (0), AVal.int IntKind.u8 (0), AVal.int IntKind.u8 (0), AVal.int IntKind.u8 (0), AVal.int IntKind.u8 (0), AVal.int IntKind.u8 (0), AVal.int IntKind.u8 (0), AVal.int IntKind.u8 (0), AVal.int IntKind.u8 (0), AVal.int IntKind.u8 (0), AVal.int IntKind.u8 (0), AVal.int IntKind.u8 (0), AVal.int IntKind.u8 (0), AVal.int IntKind.u8 (0), AVal.int IntKind.u8 (0), AVal.int IntKind.u8 (0), AVal.int IntKind.u8 (0), AVal.int IntKind.u8 (0), AVal.int IntKind.u8 (0), AVal.int IntKind.u8 (0), AVal.int IntKind.u8 (0), AVal.int IntKind.u8 (0)] := by kernel_rfl
theorem isStr175 : E.P.isStr 175 = false := by kernel_rfl
theorem isInt175 : E.P.isInt 175 = false := by kernel_rfl
theorem isComp175 : E.P.isComp 175 = true := by kernel_rfl
theorem arrO175 : E.P.arrO 175 = some (65, 1, false) := by kernel_rfl
theorem und175 : (E.P.underlying 175).isSome = true := by kernel_rfl
theorem guard175 : E.P.eqGuardType E.P.depth 175 = false := by kernel_rfl
theorem places175_0 : E.P.places 175 0 = some (0, 1) := by kernel_rfl
theorem places175_1 : E.P.places 175 1 = some (1, 1) := by kernel_rfl
theorem places175_2 : E.P.places 175 2 = some (2, 1) := by kernel_rfl
theorem places175_3 : E.P.places 175 3 = some (3, 1) := by kernel_rfl
theorem places175_4 : E.P.places 175 4 = some (4, 1) := by kernel_rfl
theorem places175_5 : E.P.places 175 5 = some (5, 1) := by kernel_rfl
theorem places175_6 : E.P.places 175 6 = some (6, 1) := by kernel_rfl
theorem places175_7 : E.P.places 175 7 = some (7, 1) := by kernel_rfl
theorem places175_8 : E.P.places 175 8 = some (8, 1) := by kernel_rfl
theorem places175_9 : E.P.places 175 9 = some (9, 1) := by kernel_rfl
theorem places175_10 : E.P.places 175 10 = some (10, 1) := by kernel_rfl
theorem places175_11 : E.P.places 175 11 = some (11, 1) := by kernel_rfl
theorem places175_12 : E.P.places 175 12 = some (12, 1) := by kernel_rfl
theorem places175_13 : E.P.places 175 13 = some (13, 1) := by kernel_rfl
theorem places175_14 : E.P.places 175 14 = some (14, 1) := by kernel_rfl
theorem places175_15 : E.P.places 175 15 = some (15, 1) := by kernel_rfl
theorem places175_16 : E.P.places 175 16 = some (16, 1) := by kernel_rfl
theorem places175_17 : E.P.places 175 17 = some (17, 1) := by kernel_rfl
theorem places175_18 : E.P.places 175 18 = some (18, 1) := by kernel_rfl
theorem places175_19 : E.P.places 175 19 = some (19, 1) := by kernel_rfl
theorem places175_20 : E.P.places 175 20 = some (20, 1) := by kernel_rfl
theorem places175_21 : E.P.places 175 21 = some (21, 1) := by kernel_rfl
theorem places175_22 : E.P.places 175 22 = some (22, 1) := by kernel_rfl
theorem places175_23 : E.P.places 175 23 = some (23, 1) := by kernel_rfl
theorem places175_24 : E.P.places 175 24 = some (24, 1) := by kernel_rfl
theorem places175_25 : E.P.places 175 25 = some (25, 1) := by kernel_rfl
theorem places175_26 : E.P.places 175 26 = some (26, 1) := by kernel_rfl
theorem places175_27 : E.P.places 175 27 = some (27, 1) := by kernel_rfl
theorem places175_28 : E.P.places 175 28 = some (28, 1) := by kernel_rfl
theorem places175_29 : E.P.places 175 29 = some (29, 1) := by kernel_rfl
theorem places175_30 : E.P.places 175 30 = some (30, 1) := by kernel_rfl
theorem places175_31 : E.P.places 175 31 = some (31, 1) := by kernel_rfl
theorem places175_32 : E.P.places 175 32 = some (32, 1) := by kernel_rfl
theorem places175_33 : E.P.places 175 33 = some (33, 1) := by kernel_rfl
theorem places175_34 : E.P.places 175 34 = some (34, 1) := by kernel_rfl
theorem places175_35 : E.P.places 175 35 = some (35, 1) := by kernel_rfl
theorem places175_36 : E.P.places 175 36 = some (36, 1) := by kernel_rfl
theorem places175_37 : E.P.places 175 37 = some (37, 1) := by kernel_rfl
theorem places175_38 : E.P.places 175 38 = some (38, 1) := by kernel_rfl
theorem places175_39 : E.P.places 175 39 = some (39, 1) := by kernel_rfl
theorem places175_40 : E.P.places 175 40 = some (40, 1) := by kernel_rfl
theorem places175_41 : E.P.places 175 41 = some (41, 1) := by kernel_rfl
theorem places175_42 : E.P.places 175 42 = some (42, 1) := by kernel_rfl
theorem places175_43 : E.P.places 175 43 = some (43, 1) := by kernel_rfl
theorem places175_44 : E.P.places 175 44 = some (44, 1) := by kernel_rfl
theorem places175_45 : E.P.places 175 45 = some (45, 1) := by kernel_rfl
theorem places175_46 : E.P.places 175 46 = some (46, 1) := by kernel_rfl
theorem places175_47 : E.P.places 175 47 = some (47, 1) := by kernel_rfl
theorem places175_48 : E.P.places 175 48 = some (48, 1) := by kernel_rfl
theorem places175_49 : E.P.places 175 49 = some (49, 1) := by kernel_rfl
theorem places175_50 : E.P.places 175 50 = some (50, 1) := by kernel_rfl
theorem places175_51 : E.P.places 175 51 = some (51, 1) := by kernel_rfl
theorem places175_52 : E.P.places 175 52 = some (52, 1) := by kernel_rfl
theorem places175_53 : E.P.places 175 53 = some (53, 1) := by kernel_rfl
theorem places175_54 : E.P.places 175 54 = some (54, 1) := by kernel_rfl
theorem places175_55 : E.P.places 175 55 = some (55, 1) := by kernel_rfl
theorem places175_56 : E.P.places 175 56 = some (56, 1) := by kernel_rfl
theorem places175_57 : E.P.places 175 57 = some (57, 1) := by kernel_rfl
theorem places175_58 : E.P.places 175 58 = some (58, 1) := by kernel_rfl
theorem places175_59 : E.P.places 175 59 = some (59, 1) := by kernel_rfl
theorem places175_60 : E.P.places 175 60 = some (60, 1) := by kernel_rfl
theorem places175_61 : E.P.places 175 61 = some (61, 1) := by kernel_rfl
theorem places175_62 : E.P.places 175 62 = some (62, 1) := by kernel_rfl
theorem places175_63 : E.P.places 175 63 = some (63, 1) := by kernel_rfl
theorem places175_64 : E.P.places 175 64 = some (64, 1) := by kernel_rfl
theorem places175_65 : E.P.places 175 65 = some (65, 1) := by kernel_rfl
theorem places175_66 : E.P.places 175 66 = some (66, 1) := by kernel_rfl
theorem places175_67 : E.P.places 175 67 = some (67, 1) := by kernel_rfl
theorem places175_68 : E.P.places 175 68 = some (68, 1) := by kernel_rfl
theorem places175_69 : E.P.places 175 69 = some (69, 1) := by kernel_rfl
theorem szO176 : E.P.szO 176 = some 1 := by kernel_rfl
theorem rowO176 : E.P.rowO 176 = some false := by kernel_rfl
theorem zeroL176 : E.P.zeroL 176 = some [AVal.sc Value.nilFunc] := by kernel_rfl
theorem isStr176 : E.P.isStr 176 = false := by kernel_rfl
theorem isInt176 : E.P.isInt 176 = false := by kernel_rfl
theorem und176 : (E.P.underlying 176).isSome = true := by kernel_rfl
theorem guard176 : E.P.eqGuardType E.P.depth 176 = false := by kernel_rfl
theorem szO177 : E.P.szO 177 = some 1 := by kernel_rfl
theorem rowO177 : E.P.rowO 177 = some false := by kernel_rfl
theorem zeroL177 : E.P.zeroL 177 = some [AVal.sc Value.nilFunc] := by kernel_rfl
theorem isStr177 : E.P.isStr 177 = false := by kernel_rfl
theorem isInt177 : E.P.isInt 177 = false := by kernel_rfl
theorem und177 : (E.P.underlying 177).isSome = true := by kernel_rfl
theorem guard177 : E.P.eqGuardType E.P.depth 177 = false := by kernel_rfl
theorem szO178 : E.P.szO 178 = some 1 := by kernel_rfl
theorem rowO178 : E.P.rowO 178 = some false := by kernel_rfl
theorem zeroL178 : E.P.zeroL 178 = some [AVal.sc (Value.tuple { toList := [Value.int IntKind.u32 (0), Value.int IntKind.u32 (0), Value.int IntKind.u32 (0), Value.int IntKind.u32 (0)] })] := by kernel_rfl
theorem isStr178 : E.P.isStr 178 = false := by kernel_rfl
theorem isInt178 : E.P.isInt 178 = false := by kernel_rfl
theorem und178 : (E.P.underlying 178).isSome = true := by kernel_rfl
theorem guard178 : E.P.eqGuardType E.P.depth 178 = false := by kernel_rfl
theorem szO179 : E.P.szO 179 = some 1 := by kernel_rfl
theorem rowO179 : E.P.rowO 179 = some false := by kernel_rfl
theorem zeroL179 : E.P.zeroL 179 = some [AVal.sc Value.nilFunc] := by kernel_rfl
theorem isStr179 : E.P.isStr 179 = false := by kernel_rfl
theorem isInt179 : E.P.isInt 179 = false := by kernel_rfl
theorem und179 : (E.P.underlying 179).isSome = true := by kernel_rfl
theorem guard179 : E.P.eqGuardType E.P.depth 179 = false := by kernel_rfl
theorem szO180 : E.P.szO 180 = some 1 := by kernel_rfl
theorem rowO180 : E.P.rowO 180 = some false := by kernel_rfl
theorem zeroL180 : E.P.zeroL 180 = some [AVal.sc Value.nilFunc] := by kernel_rfl
theorem isStr180 : E.P.isStr 180 = false := by kernel_rfl
theorem isInt180 : E.P.isInt 180 = false := by kernel_rfl
theorem und180 : (E.P.underlying 180).isSome = true := by kernel_rfl
theorem guard180 : E.P.eqGuardType E.P.depth 180 = false := by kernel_rfl
theorem szO181 : E.P.szO 181 = some 32 := by kernel_rfl
theorem rowO181 : E.P.rowO 181 = some true := by kernel_rfl
theorem zeroL181 : E.P.zeroL 181 = some [AVal.int IntKind.u8 (0), AVal.int IntKind.u8 (0), AVal.int IntKind.u8 (0), AVal.int IntKind.u8 (0), AVal.int IntKind.u8 (0), AVal.int IntKind.u8 (0), AVal.int IntKind.u8 (0), AVal.int IntKind.u8 (0), AVal.int IntKind.u8 (0), AVal.int IntKind.u8 (0), AVal.int IntKind.u8 (0), AVal.int IntKind.u8 (0), AVal.int IntKind.u8 (0), AVal.int IntKind.u8 (0), AVal.int IntKind.u8 (0), AVal.int IntKind.u8 (0), AVal.int IntKind.u8 (0), AVal.int IntKind.u8 (0), AVal.int IntKind.u8 (0), AVal.int IntKind.u8 (0), AVal.int IntKind.u8 (0), AVal.int IntKind.u8 (0), AVal.int IntKind.u8 (0), AVal.int IntKind.u8 (0), AVal.int IntKind.u8 (0), AVal.int IntKind.u8 (0), AVal.int IntKind.u8 (0), AVal.int IntKind.u8 (0), AVal.int IntKind.u8 (0), AVal.int IntKind.u8 (0), AVal.int IntKind.u8 (0), AVal.int IntKind.u8 (0)] := by kernel_rfl
theorem isStr181 : E.P.isStr 181 = false := by kernel_rfl
theorem isInt181 : E.P.isInt 181 = false := by kernel_rfl
theorem isComp181 : E.P.isComp 181 = true := by kernel_rfl
theorem arrO181 : E.P.arrO 181 = some (32, 1, false) := by kernel_rfl
theorem und181 : (E.P.underlying 181).isSome = true := by kernel_rfl
theorem guard181 : E.P.eqGuardType E.P.depth 181 = false := by kernel_rfl
theorem places181_0 : E.P.places 181 0 = some (0, 1) := by kernel_rfl
theorem places181_1 : E.P.places 181 1 = some (1, 1) := by kernel_rfl
theorem places181_2 : E.P.places 181 2 = some (2, 1) := by kernel_rfl
theorem places181_3 : E.P.places 181 3 = some (3, 1) := by kernel_rfl
theorem places181_4 : E.P.places 181 4 = some (4, 1) := by kernel_rfl
theorem places181_5 : E.P.places 181 5 = some (5, 1) := by kernel_rfl
theorem places181_6 : E.P.places 181 6 = some (6, 1) := by kernel_rfl
theorem places181_7 : E.P.places 181 7 = some (7, 1) := by kernel_rfl
theorem places181_8 : E.P.places 181 8 = some (8, 1) := by kernel_rfl
theorem places181_9 : E.P.places 181 9 = some (9, 1) := by kernel_rfl
theorem places181_10 : E.P.places 181 10 = some (10, 1) := by kernel_rfl
theorem places181_11 : E.P.places 181 11 = some (11, 1) := by kernel_rfl
theorem places181_12 : E.P.places 181 12 = some (12, 1) := by kernel_rfl
theorem places181_13 : E.P.places 181 13 = some (13, 1) := by kernel_rfl
theorem places181_14 : E.P.places 181 14 = some (14, 1) := by kernel_rfl
theorem places181_15 : E.P.places 181 15 = some (15, 1) := by kernel_rfl
theorem places181_16 : E.P.places 181 16 = some (16, 1) := by kernel_rfl
theorem places181_17 : E.P.places 181 17 = some (17, 1) := by kernel_rfl
theorem places181_18 : E.P.places 181 18 = some (18, 1) := by kernel_rfl
theorem places181_19 : E.P.places 181 19 = some (19, 1) := by kernel_rfl
theorem places181_20 : E.P.places 181 20 = some (20, 1) := by kernel_rfl
theorem places181_21 : E.P.places 181 21 = some (21, 1) := by kernel_rfl
theorem places181_22 : E.P.places 181 22 = some (22, 1) := by kernel_rfl
theorem places181_23 : E.P.places 181 23 = some (23, 1) := by kernel_rfl
theorem places181_24 : E.P.places 181 24 = some (24, 1) := by kernel_rfl
theorem places181_25 : E.P.places 181 25 = some (25, 1) := by kernel_rfl
theorem places181_26 : E.P.places 181 26 = some (26, 1) := by kernel_rfl
theorem places181_27 : E.P.places 181 27 = some (27, 1) := by kernel_rfl
theorem places181_28 : E.P.places 181 28 = some (28, 1) := by kernel_rfl
theorem places181_29 : E.P.places 181 29 = some (29, 1) := by kernel_rfl
theorem places181_30 : E.P.places 181 30 = some (30, 1) := by kernel_rfl
theorem places181_31 : E.P.places 181 31 = some (31, 1) := by kernel_rfl
theorem places181_32 : E.P.places 181 32 = some (32, 1) := by kernel_rfl
theorem places181_33 : E.P.places 181 33 = some (33, 1) := by kernel_rfl
theorem places181_34 : E.P.places 181 34 = some (34, 1) := by kernel_rfl
theorem places181_35 : E.P.places 181 35 = some (35, 1) := by kernel_rfl
theorem places181_36 : E.P.places 181 36 = some (36, 1) := by kernel_rfl
theorem places181_37 : E.P.places 181 37 = some (37, 1) := by kernel_rfl
theorem places181_38 : E.P.places 181 38 = some (38, 1) := by kernel_rfl
theorem places181_39 : E.P.places 181 39 = some (39, 1) := by kernel_rfl
theorem places181_40 : E.P.places 181 40 = some (40, 1) := by kernel_rfl
theorem places181_41 : E.P.places 181 41 = some (41, 1) := by kernel_rfl
theorem places181_42 : E.P.places 181 42 = some (42, 1) := by kernel_rfl
theorem places181_43 : E.P.places 181 43 = some (43, 1) := by kernel_rfl
theorem places181_44 : E.P.places 181 44 = some (44, 1) := by kernel_rfl
theorem places181_45 : E.P.places 181 45 = some (45, 1) := by kernel_rfl
theorem places181_46 : E.P.places 181 46 = some (46, 1) := by kernel_rfl
theorem places181_47 : E.P.places 181 47 = some (47, 1) := by kernel_rfl
theorem places181_48 : E.P.places 181 48 = some (48, 1) := by kernel_rfl
theorem places181_49 : E.P.places 181 49 = some (49, 1) := by kernel_rfl
theorem places181_50 : E.P.places 181 50 = some (50, 1) := by kernel_rfl
theorem places181_51 : E.P.places 181 51 = some (51, 1) := by kernel_rfl
theorem places181_52 : E.P.places 181 52 = some (52, 1) := by kernel_rfl
theorem places181_53 : E.P.places 181 53 = some (53, 1) := by kernel_rfl
theorem places181_54 : E.P.places 181 54 = some (54, 1) := by kernel_rfl
theorem places181_55 : E.P.places 181 55 = some (55, 1) := by kernel_rfl
theorem places181_56 : E.P.places 181 56 = some (56, 1) := by kernel_rfl
theorem places181_57 : E.P.places 181 57 = some (57, 1) := by kernel_rfl
theorem places181_58 : E.P.places 181 58 = some (58, 1) := by kernel_rfl
theorem places181_59 : E.P.places 181 59 = some (59, 1) := by kernel_rfl
theorem places181_60 : E.P.places 181 60 = some (60, 1) := by kernel_rfl
theorem places181_61 : E.P.places 181 61 = some (61, 1) := by kernel_rfl
theorem places181_62 : E.P.places 181 62 = some (62, 1) := by kernel_rfl
theorem places181_63 : E.P.places 181 63 = some (63, 1) := by kernel_rfl
theorem places181_64 : E.P.places 181 64 = some (64, 1) := by kernel_rfl
theorem places181_65 : E.P.places 181 65 = some (65, 1) := by kernel_rfl
theorem places181_66 : E.P.places 181 66 = some (66, 1) := by kernel_rfl
theorem places181_67 : E.P.places 181 67 = some (67, 1) := by kernel_rfl
theorem places181_68 : E.P.places 181 68 = some (68, 1) := by kernel_rfl
theorem places181_69 : E.P.places 181 69 = some (69, 1) := by kernel_rfl
theorem szO182 : E.P.szO 182 = some 1 := by kernel_rfl
theorem rowO182 : E.P.rowO 182 = some false := by kernel_rfl
theorem zeroL182 : E.P.zeroL 182 = some [AVal.sc Value.nilFunc] := by kernel_rfl
theorem isStr182 : E.P.isStr 182 = false := by kernel_rfl
theorem isInt182 : E.P.isInt 182 = false := by kernel_rfl
theorem und182 : (E.P.underlying 182).isSome = true := by kernel_rfl
theorem guard182 : E.P.eqGuardType E.P.depth 182 = false := by kernel_rfl
theorem szO183 : E.P.szO 183 = some 4 := by kernel_rfl
theorem rowO183 : E.P.rowO 183 = some true := by kernel_rfl
theorem zeroL183 : E.P.zeroL 183 = some [AVal.sc (Value.pointer none), AVal.sc (Value.pointer none), AVal.sc (Value.pointer none), AVal.str []] := by kernel_rfl
theorem isStr183 : E.P.isStr 183 = false := by kernel_rfl
theorem isInt183 : E.P.isInt 183 = false := by kernel_rfl
theorem isComp183 : E.P.isComp 183 = true := by kernel_rfl
theorem und183 : (E.P.underlying 183).isSome = true := by kernel_rfl
theorem guard183 : E.P.eqGuardType E.P.depth 183 = false := by kernel_rfl
theorem fldO183_0 : E.P.fldO 183 0 = some (0, 1, false) := by kernel_rfl
theorem fldO183_1 : E.P.fldO 183 1 = some (1, 1, false) := by kernel_rfl
theorem fldO183_2 : E.P.fldO 183 2 = some (2, 1, false) := by kernel_rfl
theorem fldO183_3 : E.P.fldO 183 3 = some (3, 1, false) := by kernel_rfl
theorem places183_0 : E.P.places 183 0 = some (0, 1) := by kernel_rfl
theorem places183_1 : E.P.places 183 1 = some (1, 1) := by kernel_rfl
theorem places183_2 : E.P.places 183 2 = some (2, 1) := by kernel_rfl
theorem places183_3 : E.P.places 183 3 = some (3, 1) := by kernel_rfl
theorem szO184 : E.P.szO 184 = some 4 := by kernel_rfl
theorem rowO184 : E.P.rowO 184 = some true := by kernel_rfl
theorem zeroL184 : E.P.zeroL 184 = some [AVal.sc (Value.pointer none), AVal.sc (Value.pointer none), AVal.sc (Value.pointer none), AVal.str []] := by kernel_rfl
theorem isStr184 : E.P.isStr 184 = false := by kernel_rfl
theorem isInt184 : E.P.isInt 184 = false := by kernel_rfl
theorem isComp184 : E.P.isComp 184 = true := by kernel_rfl
theorem und184 : (E.P.underlying 184).isSome = true := by kernel_rfl
theorem guard184 : E.P.eqGuardType E.P.depth 184 = false := by kernel_rfl
theorem fldO184_0 : E.P.fldO 184 0 = some (0, 1, false) := by kernel_rfl
theorem fldO184_1 : E.P.fldO 184 1 = some (1, 1, false) := by kernel_rfl
theorem fldO184_2 : E.P.fldO 184 2 = some (2, 1, false) := by kernel_rfl
theorem fldO184_3 : E.P.fldO 184 3 = some (3, 1, false) := by kernel_rfl
theorem places184_0 : E.P.places 184 0 = some (0, 1) := by kernel_rfl
theorem places184_1 : E.P.places 184 1 = some (1, 1) := by kernel_rfl
theorem places184_2 : E.P.places 184 2 = some (2, 1) := by kernel_rfl
theorem places184_3 : E.P.places 184 3 = some (3, 1) := by kernel_rfl
theorem szO185 : E.P.szO 185 = some 0 := by kernel_rfl
theorem rowO185 : E.P.rowO 185 = some true := by kernel_rfl
theorem zeroL185 : E.P.zeroL 185 = some [] := by kernel_rfl
theorem isStr185 : E.P.isStr 185 = false := by kernel_rfl
theorem isInt185 : E.P.isInt 185 = false := by kernel_rfl
theorem isComp185 : E.P.isComp 185 = true := by kernel_rfl
theorem arrO185 : E.P.arrO 185 = some (0, 1, false) := by kernel_rfl
theorem und185 : (E.P.underlying 185).isSome = true := by kernel_rfl
theorem guard185 : E.P.eqGuardType E.P.depth 185 = false := by kernel_rfl
theorem places185_0 : E.P.places 185 0 = some (0, 1) := by kernel_rfl
theorem places185_1 : E.P.places 185 1 = some (1, 1) := by kernel_rfl
theorem places185_2 : E.P.places 185 2 = some (2, 1) := by kernel_rfl
theorem places185_3 : E.P.places 185 3 = some (3, 1) := by kernel_rfl
theorem places185_4 : E.P.places 185 4 = some (4, 1) := by kernel_rfl
theorem places185_5 : E.P.places 185 5 = some (5, 1) := by kernel_rfl
theorem places185_6 : E.P.places 185 6 = some (6, 1) := by kernel_rfl
theorem places185_7 : E.P.places 185 7 = some (7, 1) := by kernel_rfl
theorem places185_8 : E.P.places 185 8 = some (8, 1) := by kernel_rfl
theorem places185_9 : E.P.places 185 9 = some (9, 1) := by kernel_rfl
theorem places185_10 : E.P.places 185 10 = some (10, 1) := by kernel_rfl
theorem places185_11 : E.P.places 185 11 = some (11, 1) := by kernel_rfl
theorem places185_12 : E.P.places 185 12 = some (12, 1) := by kernel_rfl
theorem places185_13 : E.P.places 185 13 = some (13, 1) := by kernel_rfl
theorem places185_14 : E.P.places 185 14 = some (14, 1) := by kernel_rfl
theorem places185_15 : E.P.places 185 15 = some (15, 1) := by kernel_rfl
theorem places185_16 : E.P.places 185 16 = some (16, 1) := by kernel_rfl
theorem places185_17 : E.P.places 185 17 = some (17, 1) := by kernel_rfl
theorem places185_18 : E.P.places 185 18 = some (18, 1) := by kernel_rfl
theorem places185_19 : E.P.places 185 19 = some (19, 1) := by kernel_rfl
theorem places185_20 : E.P.places 185 20 = some (20, 1) := by kernel_rfl
theorem places185_21 : E.P.places 185 21 = some (21, 1) := by kernel_rfl
theorem places185_22 : E.P.places 185 22 = some (22, 1) := by kernel_rfl
theorem places185_23 : E.P.places 185 23 = some (23, 1) := by kernel_rfl
theorem places185_24 : E.P.places 185 24 = some (24, 1) := by kernel_rfl
theorem places185_25 : E.P.places 185 25 = some (25, 1) := by kernel_rfl
theorem places185_26 : E.P.places 185 26 = some (26, 1) := by kernel_rfl
theorem places185_27 : E.P.places 185 27 = some (27, 1) := by kernel_rfl
theorem places185_28 : E.P.places 185 28 = some (28, 1) := by kernel_rfl
theorem places185_29 : E.P.places 185 29 = some (29, 1) := by kernel_rfl
theorem places185_30 : E.P.places 185 30 = some (30, 1) := by kernel_rfl
theorem places185_31 : E.P.places 185 31 = some (31, 1) := by kernel_rfl
theorem places185_32 : E.P.places 185 32 = some (32, 1) := by kernel_rfl
theorem places185_33 : E.P.places 185 33 = some (33, 1) := by kernel_rfl
theorem places185_34 : E.P.places 185 34 = some (34, 1) := by kernel_rfl
theorem places185_35 : E.P.places 185 35 = some (35, 1) := by kernel_rfl
theorem places185_36 : E.P.places 185 36 = some (36, 1) := by kernel_rfl
theorem places185_37 : E.P.places 185 37 = some (37, 1) := by kernel_rfl
theorem places185_38 : E.P.places 185 38 = some (38, 1) := by kernel_rfl
theorem places185_39 : E.P.places 185 39 = some (39, 1) := by kernel_rfl
theorem places185_40 : E.P.places 185 40 = some (40, 1) := by kernel_rfl
theorem places185_41 : E.P.places 185 41 = some (41, 1) := by kernel_rfl
theorem places185_42 : E.P.places 185 42 = some (42, 1) := by kernel_rfl
theorem places185_43 : E.P.places 185 43 = some (43, 1) := by kernel_rfl
theorem places185_44 : E.P.places 185 44 = some (44, 1) := by kernel_rfl
theorem places185_45 : E.P.places 185 45 = some (45, 1) := by kernel_rfl
theorem places185_46 : E.P.places 185 46 = some (46, 1) := by kernel_rfl
theorem places185_47 : E.P.places 185 47 = some (47, 1) := by kernel_rfl
theorem places185_48 : E.P.places 185 48 = some (48, 1) := by kernel_rfl
theorem places185_49 : E.P.places 185 49 = some (49, 1) := by kernel_rfl
theorem places185_50 : E.P.places 185 50 = some (50, 1) := by kernel_rfl
theorem places185_51 : E.P.places 185 51 = some (51, 1) := by kernel_rfl
theorem places185_52 : E.P.places 185 52 = some (52, 1) := by kernel_rfl
theorem places185_53 : E.P.places 185 53 = some (53, 1) := by kernel_rfl
theorem places185_54 : E.P.places 185 54 = some (54, 1) := by kernel_rfl
theorem places185_55 : E.P.places 185 55 = some (55, 1) := by kernel_rfl
theorem places185_56 : E.P.places 185 56 = some (56, 1) := by kernel_rfl
theorem places185_57 : E.P.places 185 57 = some (57, 1) := by kernel_rfl
theorem places185_58 : E.P.places 185 58 = some (58, 1) := by kernel_rfl
theorem places185_59 : E.P.places 185 59 = some (59, 1) := by kernel_rfl
theorem places185_60 : E.P.places 185 60 = some (60, 1) := by kernel_rfl
theorem places185_61 : E.P.places 185 61 = some (61, 1) := by kernel_rfl
theorem places185_62 : E.P.places 185 62 = some (62, 1) := by kernel_rfl
theorem places185_63 : E.P.places 185 63 = some (63, 1) := by kernel_rfl
theorem places185_64 : E.P.places 185 64 = some (64, 1) := by kernel_rfl
theorem places185_65 : E.P.places 185 65 = some (65, 1) := by kernel_rfl
theorem places185_66 : E.P.places 185 66 = some (66, 1) := by kernel_rfl
theorem places185_67 : E.P.places 185 67 = some (67, 1) := by kernel_rfl
theorem places185_68 : E.P.places 185 68 = some (68, 1) := by kernel_rfl
theorem places185_69 : E.P.places 185 69 = some (69, 1) := by kernel_rfl
theorem szO186 : E.P.szO 186 = some 0 := by kernel_rfl
theorem rowO186 : E.P.rowO 186 = some true := by kernel_rfl
theorem zeroL186 : E.P.zeroL 186 = some [] := by kernel_rfl
theorem isStr186 : E.P.isStr 186 = false := by kernel_rfl
theorem isInt186 : E.P.isInt 186 = false := by kernel_rfl
theorem isComp186 : E.P.isComp 186 = true := by kernel_rfl
theorem und186 : (E.P.underlying 186).isSome = true := by kernel_rfl
theorem guard186 : E.P.eqGuardType E.P.depth 186 = false := by kernel_rfl
theorem places186_0 : E.P.places 186 0 = some (0, 0) := by kernel_rfl
theorem szO187 : E.P.szO 187 = some 0 := by kernel_rfl
theorem rowO187 : E.P.rowO 187 = some true := by kernel_rfl
theorem zeroL187 : E.P.zeroL 187 = some [] := by kernel_rfl
theorem isStr187 : E.P.isStr 187 = false := by kernel_rfl
theorem isInt187 : E.P.isInt 187 = false := by kernel_rfl
theorem isComp187 : E.P.isComp 187 = true := by kernel_rfl
theorem und187 : (E.P.underlying 187).isSome = true := by kernel_rfl
theorem guard187 : E.P.eqGuardType E.P.depth 187 = false := by kernel_rfl
theorem places187_0 : E.P.places 187 0 = some (0, 0) := by kernel_rfl
theorem szO188 : E.P.szO 188 = some 1 := by kernel_rfl
theorem rowO188 : E.P.rowO 188 = some false := by kernel_rfl
theorem zeroL188 : E.P.zeroL 188 = some [AVal.int IntKind.u8 (0)] := by kernel_rfl
theorem isStr188 : E.P.isStr 188 = false := by kernel_rfl
theorem isInt188 : E.P.isInt 188 = true := by kernel_rfl
theorem kindO188 : kindO E.P 188 = some IntKind.u8 := by kernel_rfl
theorem und188 : (E.P.underlying 188).isSome = true := by kernel_rfl
theorem guard188 : E.P.eqGuardType E.P.depth 188 = false := by kernel_rfl
theorem szO189 : E.P.szO 189 = some 1 := by kernel_rfl
theorem rowO189 : E.P.rowO 189 = some false := by kernel_rfl
theorem zeroL189 : E.P.zeroL 189 = some [AVal.int IntKind.u8 (0)] := by kernel_rfl
theorem isStr189 : E.P.isStr 189 = false := by kernel_rfl
theorem isInt189 : E.P.isInt 189 = true := by kernel_rfl
theorem kindO189 : kindO E.P 189 = some IntKind.u8 := by kernel_rfl
theorem und189 : (E.P.underlying 189).isSome = true := by kernel_rfl
theorem guard189 : E.P.eqGuardType E.P.depth 189 = false := by kernel_rfl
theorem szO190 : E.P.szO 190 = some 1 := by kernel_rfl
theorem rowO190 : E.P.rowO 190 = some false := by kernel_rfl
theorem zeroL190 : E.P.zeroL 190 = some [AVal.sc Value.nilFunc] := by kernel_rfl
theorem isStr190 : E.P.isStr 190 = false := by kernel_rfl
theorem isInt190 : E.P.isInt 190 = false := by kernel_rfl
theorem und190 : (E.P.underlying 190).isSome = true := by kernel_rfl
theorem guard190 : E.P.eqGuardType E.P.depth 190 = false := by kernel_rfl
theorem szO191 : E.P.szO 191 = some 1 := by kernel_rfl
theorem rowO191 : E.P.rowO 191 = some false := by kernel_rfl
theorem zeroL191 : E.P.zeroL 191 = some [AVal.sc (Value.pointer none)] := by kernel_rfl
theorem isStr191 : E.P.isStr 191 = false := by kernel_rfl
theorem isInt191 : E.P.isInt 191 = false := by kernel_rfl
theorem ptrT191 : ptrT E.P 191 = true := by kernel_rfl
theorem und191 : (E.P.underlying 191).isSome = true := by kernel_rfl
theorem guard191 : E.P.eqGuardType E.P.depth 191 = false := by kernel_rfl
theorem szO192 : E.P.szO 192 = some 1 := by kernel_rfl
theorem rowO192 : E.P.rowO 192 = some false := by kernel_rfl
theorem zeroL192 : E.P.zeroL 192 = some [AVal.int IntKind.i32 (0)] := by kernel_rfl
theorem isStr192 : E.P.isStr 192 = false := by kernel_rfl
theorem isInt192 : E.P.isInt 192 = true := by kernel_rfl
theorem kindO192 : kindO E.P 192 = some IntKind.i32 := by kernel_rfl
theorem und192 : (E.P.underlying 192).isSome = true := by kernel_rfl
theorem guard192 : E.P.eqGuardType E.P.depth 192 = false := by kernel_rfl
theorem szO193 : E.P.szO 193 = some 1 := by kernel_rfl
theorem rowO193 : E.P.rowO 193 = some false := by kernel_rfl
theorem zeroL193 : E.P.zeroL 193 = some [AVal.int IntKind.i32 (0)] := by kernel_rfl
theorem isStr193 : E.P.isStr 193 = false := by kernel_rfl
theorem isInt193 : E.P.isInt 193 = true := by kernel_rfl
theorem kindO193 : kindO E.P 193 = some IntKind.i32 := by kernel_rfl
theorem und193 : (E.P.underlying 193).isSome = true := by kernel_rfl
theorem guard193 : E.P.eqGuardType E.P.depth 193 = false := by kernel_rfl
theorem szO194 : E.P.szO 194 = some 11 := by kernel_rfl
theorem rowO194 : E.P.rowO 194 = some true := by kernel_rfl
theorem zeroL194 : E.P.zeroL 194 = some [AVal.int IntKind.u64 (0), AVal.int IntKind.u64 (0), AVal.int IntKind.u32 (0), AVal.int IntKind.u8 (0), AVal.int IntKind.u8 (0), AVal.int IntKind.u8 (0), AVal.int IntKind.u8 (0), AVal.sc Value.nilFunc, AVal.sc (Value.pointer none), AVal.int IntKind.i32 (0), AVal.int IntKind.i32 (0)] := by kernel_rfl
theorem isStr194 : E.P.isStr 194 = false := by kernel_rfl
theorem isInt194 : E.P.isInt 194 = false := by kernel_rfl
theorem isComp194 : E.P.isComp 194 = true := by kernel_rfl
theorem und194 : (E.P.underlying 194).isSome = true := by kernel_rfl
theorem guard194 : E.P.eqGuardType E.P.depth 194 = false := by kernel_rfl
theorem fldO194_0 : E.P.fldO 194 0 = some (0, 1, false) := by kernel_rfl
theorem fldO194_1 : E.P.fldO 194 1 = some (1, 1, false) := by kernel_rfl
theorem fldO194_2 : E.P.fldO 194 2 = some (2, 1, false) := by kernel_rfl
theorem fldO194_3 : E.P.fldO 194 3 = some (3, 1, false) := by kernel_rfl
theorem fldO194_4 : E.P.fldO 194 4 = some (4, 1, false) := by kernel_rfl
theorem fldO194_5 : E.P.fldO 194 5 = some (5, 1, false) := by kernel_rfl
theorem fldO194_6 : E.P.fldO 194 6 = some (6, 1, false) := by kernel_rfl
theorem fldO194_7 : E.P.fldO 194 7 = some (7, 1, false) := by kernel_rfl
theorem fldO194_8 : E.P.fldO 194 8 = some (8, 1, false) := by kernel_rfl
theorem fldO194_9 : E.P.fldO 194 9 = some (9, 1, false) := by kernel_rfl
theorem fldO194_10 : E.P.fldO 194 10 = some (10, 1, false) := by kernel_rfl
theorem places194_0 : E.P.places 194 0 = some (0, 1) := by kernel_rfl
theorem places194_1 : E.P.places 194 1 = some (1, 1) := by kernel_rfl
theorem places194_2 : E.P.places 194 2 = some (2, 1) := by kernel_rfl
theorem places194_3 : E.P.places 194 3 = some (3, 1) := by kernel_rfl
theorem places194_4 : E.P.places 194 4 = some (4, 1) := by kernel_rfl
theorem places194_5 : E.P.places 194 5 = some (5, 1) := by kernel_rfl
theorem places194_6 : E.P.places 194 6 = some (6, 1) := by kernel_rfl
theorem places194_7 : E.P.places 194 7 = some (7, 1) := by kernel_rfl
theorem places194_8 : E.P.places 194 8 = some (8, 1) := by kernel_rfl
theorem places194_9 : E.P.places 194 9 = some (9, 1) := by kernel_rfl
theorem places194_10 : E.P.places 194 10 = some (10, 1) := by kernel_rfl
theorem szO195 : E.P.szO 195 = some 11 := by kernel_rfl
theorem rowO195 : E.P.rowO 195 = some true := by kernel_rfl
theorem zeroL195 : E.P.zeroL 195 = some [AVal.int IntKind.u64 (0), AVal.int IntKind.u64 (0), AVal.int IntKind.u32 (0), AVal.int IntKind.u8 (0), AVal.int IntKind.u8 (0), AVal.int IntKind.u8 (0), AVal.int IntKind.u8 (0), AVal.sc Value.nilFunc, AVal.sc (Value.pointer none), AVal.int IntKind.i32 (0), AVal.int IntKind.i32 (0)] := by kernel_rfl
theorem isStr195 : E.P.isStr 195 = false := by kernel_rfl
theorem isInt195 : E.P.isInt 195 = false := by kernel_rfl
theorem isComp195 : E.P.isComp 195 = true := by kernel_rfl
theorem und195 : (E.P.underlying 195).isSome = true := by kernel_rfl
theorem guard195 : E.P.eqGuardType E.P.depth 195 = false := by kernel_rfl
theorem fldO195_0 : E.P.fldO 195 0 = some (0, 1, false) := by kernel_rfl
theorem fldO195_1 : E.P.fldO 195 1 = some (1, 1, false) := by kernel_rfl
theorem fldO195_2 : E.P.fldO 195 2 = some (2, 1, false) := by kernel_rfl
theorem fldO195_3 : E.P.fldO 195 3 = some (3, 1, false) := by kernel_rfl
theorem fldO195_4 : E.P.fldO 195 4 = some (4, 1, false) := by kernel_rfl
theorem fldO195_5 : E.P.fldO 195 5 = some (5, 1, false) := by kernel_rfl
theorem fldO195_6 : E.P.fldO 195 6 = some (6, 1, false) := by kernel_rfl
theorem fldO195_7 : E.P.fldO 195 7 = some (7, 1, false) := by kernel_rfl
theorem fldO195_8 : E.P.fldO 195 8 = some (8, 1, false) := by kernel_rfl
theorem fldO195_9 : E.P.fldO 195 9 = some (9, 1, false) := by kernel_rfl
theorem fldO195_10 : E.P.fldO 195 10 = some (10, 1, false) := by kernel_rfl
theorem places195_0 : E.P.places 195 0 = some (0, 1) := by kernel_rfl
theorem places195_1 : E.P.places 195 1 = some (1, 1) := by kernel_rfl
theorem places195_2 : E.P.places 195 2 = some (2, 1) := by kernel_rfl
theorem places195_3 : E.P.places 195 3 = some (3, 1) := by kernel_rfl
theorem places195_4 : E.P.places 195 4 = some (4, 1) := by kernel_rfl
theorem places195_5 : E.P.places 195 5 = some (5, 1) := by kernel_rfl
theorem places195_6 : E.P.places 195 6 = some (6, 1) := by kernel_rfl
theorem places195_7 : E.P.places 195 7 = some (7, 1) := by kernel_rfl
theorem places195_8 : E.P.places 195 8 = some (8, 1) := by kernel_rfl
theorem places195_9 : E.P.places 195 9 = some (9, 1) := by kernel_rfl
theorem places195_10 : E.P.places 195 10 = some (10, 1) := by kernel_rfl
theorem szO196 : E.P.szO 196 = some 1 := by kernel_rfl
theorem rowO196 : E.P.rowO 196 = some false := by kernel_rfl
theorem zeroL196 : E.P.zeroL 196 = some [AVal.sc (Value.pointer none)] := by kernel_rfl
theorem isStr196 : E.P.isStr 196 = false := by kernel_rfl
theorem isInt196 : E.P.isInt 196 = false := by kernel_rfl
theorem und196 : (E.P.underlying 196).isSome = true := by kernel_rfl
theorem guard196 : E.P.eqGuardType E.P.depth 196 = false := by kernel_rfl
theorem goFn2 : E.P.goFn 2 = true := by kernel_rfl
theorem parM2 : M.par 2 = [] := by kernel_rfl
theorem resM2 : M.res 2 = [] := by kernel_rfl
theorem parK2 : E.P.parK 2 = [] := by kernel_rfl
theorem resK2 : E.P.resK 2 = [] := by kernel_rfl
theorem goFn3 : E.P.goFn 3 = true := by kernel_rfl
theorem parM3 : M.par 3 = [] := by kernel_rfl
theorem resM3 : M.res 3 = [] := by kernel_rfl
theorem parK3 : E.P.parK 3 = [[5], [5], [0], [0]] := by kernel_rfl
theorem resK3 : E.P.resK 3 = [[0]] := by kernel_rfl
theorem goFn4 : E.P.goFn 4 = true := by kernel_rfl
theorem parM4 : M.par 4 = [] := by kernel_rfl
theorem resM4 : M.res 4 = [] := by kernel_rfl
theorem parK4 : E.P.parK 4 = [[0], [0], [0], [0, 0, 0, 0, 0, 0], [0, 0, 0, 0, 0, 0], [0]] := by kernel_rfl
theorem resK4 : E.P.resK 4 = [[0]] := by kernel_rfl
theorem goFn5 : E.P.goFn 5 = true := by kernel_rfl
theorem parM5 : M.par 5 = [] := by kernel_rfl
theorem resM5 : M.res 5 = [] := by kernel_rfl
theorem parK5 : E.P.parK 5 = [[0], [0], [0], [0, 0, 0, 0, 0, 0], [0, 0, 0, 0, 0, 0], [0]] := by kernel_rfl
theorem resK5 : E.P.resK 5 = [[0]] := by kernel_rfl
theorem goFn6 : E.P.goFn 6 = true := by kernel_rfl
theorem parM6 : M.par 6 = [] := by kernel_rfl
theorem resM6 : M.res 6 = [] := by kernel_rfl
theorem parK6 : E.P.parK 6 = [[0], [0, 0, 5], [0], [0]] := by kernel_rfl
theorem resK6 : E.P.resK 6 = [[0]] := by kernel_rfl
theorem goFn7 : E.P.goFn 7 = true := by kernel_rfl
theorem parM7 : M.par 7 = [] := by kernel_rfl
theorem resM7 : M.res 7 = [] := by kernel_rfl
theorem parK7 : E.P.parK 7 = [[0, 0, 0, 0], [2]] := by kernel_rfl
theorem resK7 : E.P.resK 7 = [[0]] := by kernel_rfl
theorem goFn8 : E.P.goFn 8 = true := by kernel_rfl
theorem parM8 : M.par 8 = [] := by kernel_rfl
theorem resM8 : M.res 8 = [] := by kernel_rfl
theorem parK8 : E.P.parK 8 = [[0], [0, 0, 0, 0], [2], [0], [0]] := by kernel_rfl
theorem resK8 : E.P.resK 8 = [[0]] := by kernel_rfl
theorem goFn9 : E.P.goFn 9 = true := by kernel_rfl
theorem parM9 : M.par 9 = [] := by kernel_rfl
theorem resM9 : M.res 9 = [] := by kernel_rfl
theorem parK9 : E.P.parK 9 = [[5]] := by kernel_rfl
theorem resK9 : E.P.resK 9 = [[0]] := by kernel_rfl
theorem goFn10 : E.P.goFn 10 = true := by kernel_rfl
theorem parM10 : M.par 10 = [] := by kernel_rfl
theorem resM10 : M.res 10 = [] := by kernel_rfl
theorem parK10 : E.P.parK 10 = [] := by kernel_rfl
theorem resK10 : E.P.resK 10 = [[0]] := by kernel_rfl
theorem goFn11 : E.P.goFn 11 = true := by kernel_rfl
theorem parM11 : M.par 11 = [] := by kernel_rfl
theorem resM11 : M.res 11 = [] := by kernel_rfl
theorem parK11 : E.P.parK 11 = [[5], [5]] := by kernel_rfl
theorem resK11 : E.P.resK 11 = [[5], [0]] := by kernel_rfl
theorem goFn12 : E.P.goFn 12 = true := by kernel_rfl
theorem parM12 : M.par 12 = [] := by kernel_rfl
theorem resM12 : M.res 12 = [] := by kernel_rfl
theorem parK12 : E.P.parK 12 = [[5], [5]] := by kernel_rfl
theorem resK12 : E.P.resK 12 = [[5], [0]] := by kernel_rfl
theorem goFn13 : E.P.goFn 13 = true := by kernel_rfl
theorem parM13 : M.par 13 = [] := by kernel_rfl
theorem resM13 : M.res 13 = [] := by kernel_rfl
theorem parK13 : E.P.parK 13 = [[5], [5]] := by kernel_rfl
theorem resK13 : E.P.resK 13 = [[0]] := by kernel_rfl
theorem goFn14 : E.P.goFn 14 = true := by kernel_rfl
theorem parM14 : M.par 14 = [] := by kernel_rfl
theorem resM14 : M.res 14 = [] := by kernel_rfl
theorem parK14 : E.P.parK 14 = [[5], [0], [0]] := by kernel_rfl
theorem resK14 : E.P.resK 14 = [[5]] := by kernel_rfl
theorem goFn15 : E.P.goFn 15 = true := by kernel_rfl
theorem parM15 : M.par 15 = [] := by kernel_rfl
theorem resM15 : M.res 15 = [] := by kernel_rfl
theorem parK15 : E.P.parK 15 = [[5], [0], [0]] := by kernel_rfl
theorem resK15 : E.P.resK 15 = [[5]] := by kernel_rfl
theorem goFn16 : E.P.goFn 16 = true := by kernel_rfl
theorem parM16 : M.par 16 = [] := by kernel_rfl
theorem resM16 : M.res 16 = [] := by kernel_rfl
theorem parK16 : E.P.parK 16 = [[0, 0, 0, 0, 0, 0]] := by kernel_rfl
theorem resK16 : E.P.resK 16 = [[0]] := by kernel_rfl
theorem goFn17 : E.P.goFn 17 = true := by kernel_rfl
theorem parM17 : M.par 17 = [] := by kernel_rfl
theorem resM17 : M.res 17 = [] := by kernel_rfl
theorem parK17 : E.P.parK 17 = [] := by kernel_rfl
theorem resK17 : E.P.resK 17 = [[0]] := by kernel_rfl
theorem goFn18 : E.P.goFn 18 = true := by kernel_rfl
theorem parM18 : M.par 18 = [] := by kernel_rfl
theorem resM18 : M.res 18 = [] := by kernel_rfl
theorem parK18 : E.P.parK 18 = [[0], [0], [0], [0, 0, 0, 0, 0, 0], [0, 0, 0, 0, 0, 0]] := by kernel_rfl
theorem resK18 : E.P.resK 18 = [[0], [0]] := by kernel_rfl
theorem goFn19 : E.P.goFn 19 = true := by kernel_rfl
theorem parM19 : M.par 19 = [] := by kernel_rfl
theorem resM19 : M.res 19 = [] := by kernel_rfl
theorem parK19 : E.P.parK 19 = [[0], [0], [0], [0, 0, 0, 0, 0, 0], [0, 0, 0, 0, 0, 0]] := by kernel_rfl
theorem resK19 : E.P.resK 19 = [[0], [0]] := by kernel_rfl
theorem goFn20 : E.P.goFn 20 = true := by kernel_rfl
theorem parM20 : M.par 20 = [] := by kernel_rfl
theorem resM20 : M.res 20 = [] := by kernel_rfl
theorem parK20 : E.P.parK 20 = [[0], [0]] := by kernel_rfl
theorem resK20 : E.P.resK 20 = [[0]] := by kernel_rfl
theorem goFn21 : E.P.goFn 21 = true := by kernel_rfl
theorem parM21 : M.par 21 = [] := by kernel_rfl
theorem resM21 : M.res 21 = [] := by kernel_rfl
theorem parK21 : E.P.parK 21 = [[0], [0]] := by kernel_rfl
theorem resK21 : E.P.resK 21 = [[0]] := by kernel_rfl
theorem goFn22 : E.P.goFn 22 = true := by kernel_rfl
theorem parM22 : M.par 22 = [] := by kernel_rfl
theorem resM22 : M.res 22 = [] := by kernel_rfl
theorem parK22 : E.P.parK 22 = [[0], [0], [0]] := by kernel_rfl
theorem resK22 : E.P.resK 22 = [[0], [0]] := by kernel_rfl
theorem goFn23 : E.P.goFn 23 = true := by kernel_rfl
theorem parM23 : M.par 23 = [] := by kernel_rfl
theorem resM23 : M.res 23 = [] := by kernel_rfl
theorem parK23 : E.P.parK 23 = [[0], [0], [0]] := by kernel_rfl
theorem resK23 : E.P.resK 23 = [[0], [0]] := by kernel_rfl
theorem goFn24 : E.P.goFn 24 = true := by kernel_rfl
theorem parM24 : M.par 24 = [] := by kernel_rfl
theorem resM24 : M.res 24 = [] := by kernel_rfl
theorem parK24 : E.P.parK 24 = [] := by kernel_rfl
theorem resK24 : E.P.resK 24 = [[0]] := by kernel_rfl
theorem goFn25 : E.P.goFn 25 = true := by kernel_rfl
theorem parM25 : M.par 25 = [] := by kernel_rfl
theorem resM25 : M.res 25 = [] := by kernel_rfl
theorem parK25 : E.P.parK 25 = [[0, 0, 5]] := by kernel_rfl
theorem resK25 : E.P.resK 25 = [[0]] := by kernel_rfl
theorem goFn26 : E.P.goFn 26 = true := by kernel_rfl
theorem parM26 : M.par 26 = [] := by kernel_rfl
theorem resM26 : M.res 26 = [1] := by kernel_rfl
theorem parK26 : E.P.parK 26 = [[0], [0, 0, 5]] := by kernel_rfl
theorem resK26 : E.P.resK 26 = [[2], [0]] := by kernel_rfl
theorem goFn27 : E.P.goFn 27 = true := by kernel_rfl
theorem parM27 : M.par 27 = [] := by kernel_rfl
theorem resM27 : M.res 27 = [] := by kernel_rfl
theorem parK27 : E.P.parK 27 = [[0], [2]] := by kernel_rfl
theorem resK27 : E.P.resK 27 = [[0, 0, 5], [0]] := by kernel_rfl
theorem goFn28 : E.P.goFn 28 = true := by kernel_rfl
theorem parM28 : M.par 28 = [] := by kernel_rfl
theorem resM28 : M.res 28 = [] := by kernel_rfl
theorem parK28 : E.P.parK 28 = [[2]] := by kernel_rfl
theorem resK28 : E.P.resK 28 = [[0], [0], [0]] := by kernel_rfl
theorem goFn29 : E.P.goFn 29 = true := by kernel_rfl
theorem parM29 : M.par 29 = [] := by kernel_rfl
theorem resM29 : M.res 29 = [] := by kernel_rfl
theorem parK29 : E.P.parK 29 = [] := by kernel_rfl
theorem resK29 : E.P.resK 29 = [[0]] := by kernel_rfl
theorem goFn30 : E.P.goFn 30 = true := by kernel_rfl
theorem parM30 : M.par 30 = [] := by kernel_rfl
theorem resM30 : M.res 30 = [] := by kernel_rfl
theorem parK30 : E.P.parK 30 = [[2]] := by kernel_rfl
theorem resK30 : E.P.resK 30 = [[0, 0, 0, 0], [0]] := by kernel_rfl
theorem goFn31 : E.P.goFn 31 = true := by kernel_rfl
theorem parM31 : M.par 31 = [] := by kernel_rfl
theorem resM31 : M.res 31 = [] := by kernel_rfl
theorem parK31 : E.P.parK 31 = [[2]] := by kernel_rfl
theorem resK31 : E.P.resK 31 = [[0, 0, 0, 0], [0]] := by kernel_rfl
theorem goFn32 : E.P.goFn 32 = true := by kernel_rfl
theorem parM32 : M.par 32 = [] := by kernel_rfl
theorem resM32 : M.res 32 = [] := by kernel_rfl
theorem parK32 : E.P.parK 32 = [[0, 0, 0, 0]] := by kernel_rfl
theorem resK32 : E.P.resK 32 = [[0]] := by kernel_rfl
theorem goFn33 : E.P.goFn 33 = true := by kernel_rfl
theorem parM33 : M.par 33 = [] := by kernel_rfl
theorem resM33 : M.res 33 = [] := by kernel_rfl
theorem parK33 : E.P.parK 33 = [[0, 0, 0, 0]] := by kernel_rfl
theorem resK33 : E.P.resK 33 = [[0]] := by kernel_rfl
theorem goFn34 : E.P.goFn 34 = true := by kernel_rfl
theorem parM34 : M.par 34 = [] := by kernel_rfl
theorem resM34 : M.res 34 = [1] := by kernel_rfl
theorem parK34 : E.P.parK 34 = [[0, 0, 0, 0]] := by kernel_rfl
theorem resK34 : E.P.resK 34 = [[2]] := by kernel_rfl
theorem goFn35 : E.P.goFn 35 = true := by kernel_rfl
theorem parM35 : M.par 35 = [] := by kernel_rfl
theorem resM35 : M.res 35 = [1] := by kernel_rfl
theorem parK35 : E.P.parK 35 = [[0, 0, 0, 0]] := by kernel_rfl
theorem resK35 : E.P.resK 35 = [[2]] := by kernel_rfl
theorem goFn36 : E.P.goFn 36 = true := by kernel_rfl
theorem parM36 : M.par 36 = [] := by kernel_rfl
theorem resM36 : M.res 36 = [1] := by kernel_rfl
theorem parK36 : E.P.parK 36 = [[0], [0, 0, 0, 0], [2]] := by kernel_rfl
theorem resK36 : E.P.resK 36 = [[2], [0]] := by kernel_rfl
theorem goFn37 : E.P.goFn 37 = true := by kernel_rfl
theorem parM37 : M.par 37 = [] := by kernel_rfl
theorem resM37 : M.res 37 = [] := by kernel_rfl
theorem parK37 : E.P.parK 37 = [[0], [2]] := by kernel_rfl
theorem resK37 : E.P.resK 37 = [[0, 0, 0, 0], [2], [0]] := by kernel_rfl
theorem goFn38 : E.P.goFn 38 = true := by kernel_rfl
theorem parM38 : M.par 38 = [] := by kernel_rfl
theorem resM38 : M.res 38 = [] := by kernel_rfl
theorem parK38 : E.P.parK 38 = [[5], [0], [0], [0]] := by kernel_rfl
theorem resK38 : E.P.resK 38 = [[5], [0, 0, 0, 0], [0]] := by kernel_rfl
theorem goFn39 : E.P.goFn 39 = true := by kernel_rfl
theorem parM39 : M.par 39 = [] := by kernel_rfl
theorem resM39 : M.res 39 = [] := by kernel_rfl
theorem parK39 : E.P.parK 39 = [[5], [0]] := by kernel_rfl
theorem resK39 : E.P.resK 39 = [[0, 0, 0, 0], [0]] := by kernel_rfl
theorem goFn40 : E.P.goFn 40 = true := by kernel_rfl
theorem parM40 : M.par 40 = [] := by kernel_rfl
theorem resM40 : M.res 40 = [] := by kernel_rfl
theorem parK40 : E.P.parK 40 = [[5]] := by kernel_rfl
theorem resK40 : E.P.resK 40 = [[0]] := by kernel_rfl
theorem goFn41 : E.P.goFn 41 = true := by kernel_rfl
theorem parM41 : M.par 41 = [] := by kernel_rfl
theorem resM41 : M.res 41 = [] := by kernel_rfl
theorem parK41 : E.P.parK 41 = [[5], [0]] := by kernel_rfl
theorem resK41 : E.P.resK 41 = [[0]] := by kernel_rfl
theorem goFn42 : E.P.goFn 42 = true := by kernel_rfl
theorem parM42 : M.par 42 = [] := by kernel_rfl
theorem resM42 : M.res 42 = [] := by kernel_rfl
theorem parK42 : E.P.parK 42 = [[5]] := by kernel_rfl
theorem resK42 : E.P.resK 42 = [[5]] := by kernel_rfl
theorem goFn43 : E.P.goFn 43 = true := by kernel_rfl
theorem parM43 : M.par 43 = [] := by kernel_rfl
theorem resM43 : M.res 43 = [] := by kernel_rfl
theorem parK43 : E.P.parK 43 = [[0, 0, 0, 0]] := by kernel_rfl
theorem resK43 : E.P.resK 43 = [[0]] := by kernel_rfl
theorem goFn44 : E.P.goFn 44 = true := by kernel_rfl
theorem parM44 : M.par 44 = [] := by kernel_rfl
theorem resM44 : M.res 44 = [] := by kernel_rfl
theorem parK44 : E.P.parK 44 = [[5], [0, 0, 0, 0]] := by kernel_rfl
theorem resK44 : E.P.resK 44 = [[5]] := by kernel_rfl
theorem goFn45 : E.P.goFn 45 = true := by kernel_rfl
theorem parM45 : M.par 45 = [] := by kernel_rfl
theorem resM45 : M.res 45 = [] := by kernel_rfl
theorem parK45 : E.P.parK 45 = [[0, 0, 0, 0]] := by kernel_rfl
theorem resK45 : E.P.resK 45 = [[0]] := by kernel_rfl
theorem goFn46 : E.P.goFn 46 = true := by kernel_rfl
theorem parM46 : M.par 46 = [] := by kernel_rfl
theorem resM46 : M.res 46 = [] := by kernel_rfl
theorem parK46 : E.P.parK 46 = [[5], [0]] := by kernel_rfl
theorem resK46 : E.P.resK 46 = [[0, 0, 0, 0], [0]] := by kernel_rfl
theorem goFn47 : E.P.goFn 47 = true := by kernel_rfl
theorem parM47 : M.par 47 = [] := by kernel_rfl
theorem resM47 : M.res 47 = [] := by kernel_rfl
theorem parK47 : E.P.parK 47 = [[5], [0, 0, 0, 0]] := by kernel_rfl
theorem resK47 : E.P.resK 47 = [[5]] := by kernel_rfl
theorem goFn48 : E.P.goFn 48 = true := by kernel_rfl
theorem parM48 : M.par 48 = [] := by kernel_rfl
theorem resM48 : M.res 48 = [] := by kernel_rfl
theorem parK48 : E.P.parK 48 = [[0], [0], [0]] := by kernel_rfl
theorem resK48 : E.P.resK 48 = [[0]] := by kernel_rfl
theorem goFn49 : E.P.goFn 49 = true := by kernel_rfl
theorem parM49 : M.par 49 = [] := by kernel_rfl
theorem resM49 : M.res 49 = [] := by kernel_rfl
theorem parK49 : E.P.parK 49 = [[0]] := by kernel_rfl
theorem resK49 : E.P.resK 49 = [[0]] := by kernel_rfl
theorem goFn50 : E.P.goFn 50 = true := by kernel_rfl
theorem parM50 : M.par 50 = [] := by kernel_rfl
theorem resM50 : M.res 50 = [] := by kernel_rfl
theorem parK50 : E.P.parK 50 = [[0], [0], [0]] := by kernel_rfl
theorem resK50 : E.P.resK 50 = [[0]] := by kernel_rfl
theorem goFn51 : E.P.goFn 51 = true := by kernel_rfl
theorem parM51 : M.par 51 = [] := by kernel_rfl
theorem resM51 : M.res 51 = [] := by kernel_rfl
theorem parK51 : E.P.parK 51 = [[0]] := by kernel_rfl
theorem resK51 : E.P.resK 51 = [[0]] := by kernel_rfl
theorem goFn52 : E.P.goFn 52 = true := by kernel_rfl
theorem parM52 : M.par 52 = [1] := by kernel_rfl
theorem resM52 : M.res 52 = [1] := by kernel_rfl
theorem parK52 : E.P.parK 52 = [[2], [0], [0]] := by kernel_rfl
theorem resK52 : E.P.resK 52 = [[2]] := by kernel_rfl
theorem goFn53 : E.P.goFn 53 = true := by kernel_rfl
theorem parM53 : M.par 53 = [] := by kernel_rfl
theorem resM53 : M.res 53 = [] := by kernel_rfl
theorem parK53 : E.P.parK 53 = [[2], [2], [2], [0]] := by kernel_rfl
theorem resK53 : E.P.resK 53 = [[2], [0]] := by kernel_rfl
theorem goFn54 : E.P.goFn 54 = true := by kernel_rfl
theorem parM54 : M.par 54 = [] := by kernel_rfl
theorem resM54 : M.res 54 = [] := by kernel_rfl
theorem parK54 : E.P.parK 54 = [[7]] := by kernel_rfl
theorem resK54 : E.P.resK 54 = [[2]] := by kernel_rfl
theorem goFn55 : E.P.goFn 55 = true := by kernel_rfl
theorem parM55 : M.par 55 = [] := by kernel_rfl
theorem resM55 : M.res 55 = [1] := by kernel_rfl
theorem parK55 : E.P.parK 55 = [[2], [0], [0]] := by kernel_rfl
theorem resK55 : E.P.resK 55 = [[2]] := by kernel_rfl
theorem goFn56 : E.P.goFn 56 = true := by kernel_rfl
theorem parM56 : M.par 56 = [] := by kernel_rfl
theorem resM56 : M.res 56 = [1] := by kernel_rfl
theorem parK56 : E.P.parK 56 = [[2], [0]] := by kernel_rfl
theorem resK56 : E.P.resK 56 = [[2]] := by kernel_rfl
theorem goFn57 : E.P.goFn 57 = true := by kernel_rfl
theorem parM57 : M.par 57 = [] := by kernel_rfl
theorem resM57 : M.res 57 = [] := by kernel_rfl
theorem parK57 : E.P.parK 57 = [[0, 0, 0, 0, 0, 0]] := by kernel_rfl
theorem resK57 : E.P.resK 57 = [[2]] := by kernel_rfl
theorem goFn58 : E.P.goFn 58 = true := by kernel_rfl
theorem parM58 : M.par 58 = [] := by kernel_rfl
theorem resM58 : M.res 58 = [] := by kernel_rfl
theorem parK58 : E.P.parK 58 = [[2], [2], [0]] := by kernel_rfl
theorem resK58 : E.P.resK 58 = [[2], [0]] := by kernel_rfl
theorem goFn59 : E.P.goFn 59 = true := by kernel_rfl
theorem parM59 : M.par 59 = [] := by kernel_rfl
theorem resM59 : M.res 59 = [] := by kernel_rfl
theorem parK59 : E.P.parK 59 = [[2], [2]] := by kernel_rfl
theorem resK59 : E.P.resK 59 = [[2]] := by kernel_rfl
theorem goFn60 : E.P.goFn 60 = true := by kernel_rfl
theorem parM60 : M.par 60 = [] := by kernel_rfl
theorem resM60 : M.res 60 = [] := by kernel_rfl
theorem parK60 : E.P.parK 60 = [[2], [0]] := by kernel_rfl
theorem resK60 : E.P.resK 60 = [[2]] := by kernel_rfl
theorem goFn61 : E.P.goFn 61 = true := by kernel_rfl
theorem parM61 : M.par 61 = [] := by kernel_rfl
theorem resM61 : M.res 61 = [] := by kernel_rfl
theorem parK61 : E.P.parK 61 = [[0]] := by kernel_rfl
theorem resK61 : E.P.resK 61 = [[0]] := by kernel_rfl
theorem goFn62 : E.P.goFn 62 = true := by kernel_rfl
theorem parM62 : M.par 62 = [] := by kernel_rfl
theorem resM62 : M.res 62 = [] := by kernel_rfl
theorem parK62 : E.P.parK 62 = [[2], [0]] := by kernel_rfl
theorem resK62 : E.P.resK 62 = [[2]] := by kernel_rfl
theorem goFn63 : E.P.goFn 63 = true := by kernel_rfl
theorem parM63 : M.par 63 = [] := by kernel_rfl
theorem resM63 : M.res 63 = [] := by kernel_rfl
theorem parK63 : E.P.parK 63 = [[0]] := by kernel_rfl
theorem resK63 : E.P.resK 63 = [[0]] := by kernel_rfl
theorem goFn64 : E.P.goFn 64 = true := by kernel_rfl
theorem parM64 : M.par 64 = [] := by kernel_rfl
theorem resM64 : M.res 64 = [1] := by kernel_rfl
theorem parK64 : E.P.parK 64 = [[0, 0, 5]] := by kernel_rfl
theorem resK64 : E.P.resK 64 = [[2]] := by kernel_rfl
theorem goFn65 : E.P.goFn 65 = true := by kernel_rfl
theorem parM65 : M.par 65 = [] := by kernel_rfl
theorem resM65 : M.res 65 = [1] := by kernel_rfl
theorem parK65 : E.P.parK 65 = [[2], [2], [2], [2]] := by kernel_rfl
theorem resK65 : E.P.resK 65 = [[2], [0]] := by kernel_rfl
theorem goFn66 : E.P.goFn 66 = true := by kernel_rfl
theorem parM66 : M.par 66 = [] := by kernel_rfl
theorem resM66 : M.res 66 = [] := by kernel_rfl
theorem parK66 : E.P.parK 66 = [[0]] := by kernel_rfl
theorem resK66 : E.P.resK 66 = [[2]] := by kernel_rfl
theorem goFn67 : E.P.goFn 67 = true := by kernel_rfl
theorem parM67 : M.par 67 = [] := by kernel_rfl
theorem resM67 : M.res 67 = [] := by kernel_rfl
theorem parK67 : E.P.parK 67 = [[0]] := by kernel_rfl
theorem resK67 : E.P.resK 67 = [[2]] := by kernel_rfl
theorem goFn68 : E.P.goFn 68 = true := by kernel_rfl
theorem parM68 : M.par 68 = [] := by kernel_rfl
theorem resM68 : M.res 68 = [] := by kernel_rfl
theorem parK68 : E.P.parK 68 = [[5]] := by kernel_rfl
theorem resK68 : E.P.resK 68 = [[2]] := by kernel_rfl
theorem goFn69 : E.P.goFn 69 = true := by kernel_rfl
theorem parM69 : M.par 69 = [] := by kernel_rfl
theorem resM69 : M.res 69 = [] := by kernel_rfl
theorem parK69 : E.P.parK 69 = [[2]] := by kernel_rfl
theorem resK69 : E.P.resK 69 = [[0, 0, 5], [0], [0]] := by kernel_rfl
theorem goFn70 : E.P.goFn 70 = true := by kernel_rfl
theorem parM70 : M.par 70 = [] := by kernel_rfl
theorem resM70 : M.res 70 = [1] := by kernel_rfl
theorem parK70 : E.P.parK 70 = [[2], [2], [2], [2]] := by kernel_rfl
theorem resK70 : E.P.resK 70 = [[2], [0]] := by kernel_rfl
theorem goFn71 : E.P.goFn 71 = true := by kernel_rfl
theorem parM71 : M.par 71 = [] := by kernel_rfl
theorem resM71 : M.res 71 = [] := by kernel_rfl
theorem parK71 : E.P.parK 71 = [[2]] := by kernel_rfl
theorem resK71 : E.P.resK 71 = [[5], [0]] := by kernel_rfl
theorem goFn72 : E.P.goFn 72 = true := by kernel_rfl
theorem parM72 : M.par 72 = [] := by kernel_rfl
theorem resM72 : M.res 72 = [] := by kernel_rfl
theorem parK72 : E.P.parK 72 = [[2]] := by kernel_rfl
theorem resK72 : E.P.resK 72 = [[0]] := by kernel_rfl
theorem goFn73 : E.P.goFn 73 = true := by kernel_rfl
theorem parM73 : M.par 73 = [] := by kernel_rfl
theorem resM73 : M.res 73 = [1] := by kernel_rfl
theorem parK73 : E.P.parK 73 = [[2]] := by kernel_rfl
theorem resK73 : E.P.resK 73 = [[0]] := by kernel_rfl
theorem goFn74 : E.P.goFn 74 = true := by kernel_rfl
theorem parM74 : M.par 74 = [1] := by kernel_rfl
theorem resM74 : M.res 74 = [] := by kernel_rfl
theorem parK74 : E.P.parK 74 = [[0], [0]] := by kernel_rfl
theorem resK74 : E.P.resK 74 = [[0]] := by kernel_rfl
theorem goFn75 : E.P.goFn 75 = true := by kernel_rfl
theorem parM75 : M.par 75 = [] := by kernel_rfl
theorem resM75 : M.res 75 = [] := by kernel_rfl
theorem parK75 : E.P.parK 75 = [[2]] := by kernel_rfl
theorem resK75 : E.P.resK 75 = [[0]] := by kernel_rfl
theorem goFn76 : E.P.goFn 76 = true := by kernel_rfl
theorem parM76 : M.par 76 = [] := by kernel_rfl
theorem resM76 : M.res 76 = [1] := by kernel_rfl
theorem parK76 : E.P.parK 76 = [[2]] := by kernel_rfl
theorem resK76 : E.P.resK 76 = [[0]] := by kernel_rfl
theorem goFn77 : E.P.goFn 77 = true := by kernel_rfl
theorem parM77 : M.par 77 = [1] := by kernel_rfl
theorem resM77 : M.res 77 = [] := by kernel_rfl
theorem parK77 : E.P.parK 77 = [[0], [0]] := by kernel_rfl
theorem resK77 : E.P.resK 77 = [[0]] := by kernel_rfl
theorem goFn78 : E.P.goFn 78 = true := by kernel_rfl
theorem parM78 : M.par 78 = [] := by kernel_rfl
theorem resM78 : M.res 78 = [] := by kernel_rfl
theorem parK78 : E.P.parK 78 = [[0, 0, 0, 0]] := by kernel_rfl
theorem resK78 : E.P.resK 78 = [[0]] := by kernel_rfl
theorem goFn79 : E.P.goFn 79 = true := by kernel_rfl
theorem parM79 : M.par 79 = [] := by kernel_rfl
theorem resM79 : M.res 79 = [] := by kernel_rfl
theorem parK79 : E.P.parK 79 = [[0, 0, 0, 0], [0]] := by kernel_rfl
theorem resK79 : E.P.resK 79 = [[2]] := by kernel_rfl
theorem goFn80 : E.P.goFn 80 = true := by kernel_rfl
theorem parM80 : M.par 80 = [] := by kernel_rfl
theorem resM80 : M.res 80 = [] := by kernel_rfl
theorem parK80 : E.P.parK 80 = [[0, 0, 0, 0]] := by kernel_rfl
theorem resK80 : E.P.resK 80 = [[2]] := by kernel_rfl
theorem goFn81 : E.P.goFn 81 = true := by kernel_rfl
theorem parM81 : M.par 81 = [] := by kernel_rfl
theorem resM81 : M.res 81 = [] := by kernel_rfl
theorem parK81 : E.P.parK 81 = [[0]] := by kernel_rfl
theorem resK81 : E.P.resK 81 = [[0]] := by kernel_rfl
theorem goFn82 : E.P.goFn 82 = true := by kernel_rfl
theorem parM82 : M.par 82 = [] := by kernel_rfl
theorem resM82 : M.res 82 = [] := by kernel_rfl
theorem parK82 : E.P.parK 82 = [[0]] := by kernel_rfl
theorem resK82 : E.P.resK 82 = [[0]] := by kernel_rfl
theorem goFn83 : E.P.goFn 83 = true := by kernel_rfl
theorem parM83 : M.par 83 = [] := by kernel_rfl
theorem resM83 : M.res 83 = [] := by kernel_rfl
theorem parK83 : E.P.parK 83 = [[5], [0]] := by kernel_rfl
theorem resK83 : E.P.resK 83 = [[0]] := by kernel_rfl
theorem goFn84 : E.P.goFn 84 = true := by kernel_rfl
theorem parM84 : M.par 84 = [] := by kernel_rfl
theorem resM84 : M.res 84 = [] := by kernel_rfl
theorem parK84 : E.P.parK 84 = [[0, 0, 0, 0]] := by kernel_rfl
theorem resK84 : E.P.resK 84 = [[0]] := by kernel_rfl
theorem goFn85 : E.P.goFn 85 = true := by kernel_rfl
theorem parM85 : M.par 85 = [] := by kernel_rfl
theorem resM85 : M.res 85 = [] := by kernel_rfl
theorem parK85 : E.P.parK 85 = [[5]] := by kernel_rfl
theorem resK85 : E.P.resK 85 = [[5]] := by kernel_rfl
theorem goFn86 : E.P.goFn 86 = true := by kernel_rfl
theorem parM86 : M.par 86 = [1] := by kernel_rfl
theorem resM86 : M.res 86 = [] := by kernel_rfl
theorem parK86 : E.P.parK 86 = [[5], [0], [5]] := by kernel_rfl
theorem resK86 : E.P.resK 86 = [[5]] := by kernel_rfl
theorem goFn87 : E.P.goFn 87 = true := by kernel_rfl
theorem parM87 : M.par 87 = [] := by kernel_rfl
theorem resM87 : M.res 87 = [] := by kernel_rfl
theorem parK87 : E.P.parK 87 = [[0]] := by kernel_rfl
theorem resK87 : E.P.resK 87 = [[0]] := by kernel_rfl
theorem goFn88 : E.P.goFn 88 = true := by kernel_rfl
theorem parM88 : M.par 88 = [] := by kernel_rfl
theorem resM88 : M.res 88 = [] := by kernel_rfl
theorem parK88 : E.P.parK 88 = [[5], [0]] := by kernel_rfl
theorem resK88 : E.P.resK 88 = [[0]] := by kernel_rfl
theorem goFn89 : E.P.goFn 89 = true := by kernel_rfl
theorem parM89 : M.par 89 = [] := by kernel_rfl
theorem resM89 : M.res 89 = [] := by kernel_rfl
theorem parK89 : E.P.parK 89 = [[0], [0]] := by kernel_rfl
theorem resK89 : E.P.resK 89 = [[0]] := by kernel_rfl
theorem goFn90 : E.P.goFn 90 = true := by kernel_rfl
theorem parM90 : M.par 90 = [] := by kernel_rfl
theorem resM90 : M.res 90 = [] := by kernel_rfl
theorem parK90 : E.P.parK 90 = [[0], [0]] := by kernel_rfl
theorem resK90 : E.P.resK 90 = [[0]] := by kernel_rfl
theorem goFn91 : E.P.goFn 91 = true := by kernel_rfl
theorem parM91 : M.par 91 = [] := by kernel_rfl
theorem resM91 : M.res 91 = [] := by kernel_rfl
theorem parK91 : E.P.parK 91 = [[2]] := by kernel_rfl
theorem resK91 : E.P.resK 91 = [[0]] := by kernel_rfl
theorem goFn92 : E.P.goFn 92 = true := by kernel_rfl
theorem parM92 : M.par 92 = [] := by kernel_rfl
theorem resM92 : M.res 92 = [] := by kernel_rfl
theorem parK92 : E.P.parK 92 = [[2]] := by kernel_rfl
theorem resK92 : E.P.resK 92 = [[0]] := by kernel_rfl
theorem goFn93 : E.P.goFn 93 = true := by kernel_rfl
theorem parM93 : M.par 93 = [] := by kernel_rfl
theorem resM93 : M.res 93 = [] := by kernel_rfl
theorem parK93 : E.P.parK 93 = [[2], [2], [0]] := by kernel_rfl
theorem resK93 : E.P.resK 93 = [[2], [0]] := by kernel_rfl
theorem goFn94 : E.P.goFn 94 = true := by kernel_rfl
theorem parM94 : M.par 94 = [] := by kernel_rfl
theorem resM94 : M.res 94 = [] := by kernel_rfl
theorem parK94 : E.P.parK 94 = [[2], [2]] := by kernel_rfl
theorem resK94 : E.P.resK 94 = [[2]] := by kernel_rfl
theorem goFn95 : E.P.goFn 95 = true := by kernel_rfl
theorem parM95 : M.par 95 = [1] := by kernel_rfl
theorem resM95 : M.res 95 = [1] := by kernel_rfl
theorem parK95 : E.P.parK 95 = [[2], [0]] := by kernel_rfl
theorem resK95 : E.P.resK 95 = [[2]] := by kernel_rfl
theorem goFn96 : E.P.goFn 96 = true := by kernel_rfl
theorem parM96 : M.par 96 = [] := by kernel_rfl
theorem resM96 : M.res 96 = [] := by kernel_rfl
theorem parK96 : E.P.parK 96 = [[0, 0, 0, 0, 0, 0]] := by kernel_rfl
theorem resK96 : E.P.resK 96 = [[2]] := by kernel_rfl
theorem goFn97 : E.P.goFn 97 = true := by kernel_rfl
theorem parM97 : M.par 97 = [] := by kernel_rfl
theorem resM97 : M.res 97 = [1] := by kernel_rfl
theorem parK97 : E.P.parK 97 = [[0, 0, 0, 0, 0, 0]] := by kernel_rfl
theorem resK97 : E.P.resK 97 = [[2]] := by kernel_rfl
theorem goFn98 : E.P.goFn 98 = true := by kernel_rfl
theorem parM98 : M.par 98 = [] := by kernel_rfl
theorem resM98 : M.res 98 = [] := by kernel_rfl
theorem parK98 : E.P.parK 98 = [[2], [2]] := by kernel_rfl
theorem resK98 : E.P.resK 98 = [[2]] := by kernel_rfl
theorem goFn99 : E.P.goFn 99 = true := by kernel_rfl
theorem parM99 : M.par 99 = [] := by kernel_rfl
theorem resM99 : M.res 99 = [] := by kernel_rfl
theorem parK99 : E.P.parK 99 = [[0]] := by kernel_rfl
theorem resK99 : E.P.resK 99 = [[0]] := by kernel_rfl
theorem goFn100 : E.P.goFn 100 = true := by kernel_rfl
theorem parM100 : M.par 100 = [] := by kernel_rfl
theorem resM100 : M.res 100 = [] := by kernel_rfl
theorem parK100 : E.P.parK 100 = [[2], [2]] := by kernel_rfl
theorem resK100 : E.P.resK 100 = [[0]] := by kernel_rfl
theorem goFn101 : E.P.goFn 101 = true := by kernel_rfl
theorem parM101 : M.par 101 = [] := by kernel_rfl
theorem resM101 : M.res 101 = [1] := by kernel_rfl
theorem parK101 : E.P.parK 101 = [[2], [2], [0], [2]] := by kernel_rfl
theorem resK101 : E.P.resK 101 = [[2], [0]] := by kernel_rfl
theorem goFn102 : E.P.goFn 102 = true := by kernel_rfl
theorem parM102 : M.par 102 = [] := by kernel_rfl
theorem resM102 : M.res 102 = [1] := by kernel_rfl
theorem parK102 : E.P.parK 102 = [[2], [2], [2], [2]] := by kernel_rfl
theorem resK102 : E.P.resK 102 = [[2]] := by kernel_rfl
theorem goFn103 : E.P.goFn 103 = true := by kernel_rfl
theorem parM103 : M.par 103 = [1] := by kernel_rfl
theorem resM103 : M.res 103 = [] := by kernel_rfl
theorem parK103 : E.P.parK 103 = [[0], [0]] := by kernel_rfl
theorem resK103 : E.P.resK 103 = [[0]] := by kernel_rfl
theorem goFn104 : E.P.goFn 104 = true := by kernel_rfl
theorem parM104 : M.par 104 = [] := by kernel_rfl
theorem resM104 : M.res 104 = [] := by kernel_rfl
theorem parK104 : E.P.parK 104 = [[0]] := by kernel_rfl
theorem resK104 : E.P.resK 104 = [[0]] := by kernel_rfl
theorem goFn105 : E.P.goFn 105 = true := by kernel_rfl
theorem parM105 : M.par 105 = [] := by kernel_rfl
theorem resM105 : M.res 105 = [] := by kernel_rfl
theorem parK105 : E.P.parK 105 = [[0]] := by kernel_rfl
theorem resK105 : E.P.resK 105 = [[0]] := by kernel_rfl
theorem goFn106 : E.P.goFn 106 = true := by kernel_rfl
theorem parM106 : M.par 106 = [] := by kernel_rfl
theorem resM106 : M.res 106 = [] := by kernel_rfl
theorem parK106 : E.P.parK 106 = [[2], [2], [0]] := by kernel_rfl
theorem resK106 : E.P.resK 106 = [[2], [0]] := by kernel_rfl
theorem goFn107 : E.P.goFn 107 = true := by kernel_rfl
theorem parM107 : M.par 107 = [1] := by kernel_rfl
theorem resM107 : M.res 107 = [1] := by kernel_rfl
theorem parK107 : E.P.parK 107 = [[2]] := by kernel_rfl
theorem resK107 : E.P.resK 107 = [[2]] := by kernel_rfl
theorem goFn108 : E.P.goFn 108 = true := by kernel_rfl
theorem parM108 : M.par 108 = [] := by kernel_rfl
theorem resM108 : M.res 108 = [] := by kernel_rfl
theorem parK108 : E.P.parK 108 = [[2], [2], [2]] := by kernel_rfl
theorem resK108 : E.P.resK 108 = [[0]] := by kernel_rfl
theorem goFn109 : E.P.goFn 109 = true := by kernel_rfl
theorem parM109 : M.par 109 = [1] := by kernel_rfl
theorem resM109 : M.res 109 = [1] := by kernel_rfl
theorem parK109 : E.P.parK 109 = [[2], [0]] := by kernel_rfl
theorem resK109 : E.P.resK 109 = [[2]] := by kernel_rfl
theorem goFn110 : E.P.goFn 110 = true := by kernel_rfl
theorem parM110 : M.par 110 = [] := by kernel_rfl
theorem resM110 : M.res 110 = [] := by kernel_rfl
theorem parK110 : E.P.parK 110 = [[0]] := by kernel_rfl
theorem resK110 : E.P.resK 110 = [[0]] := by kernel_rfl
theorem goFn111 : E.P.goFn 111 = true := by kernel_rfl
theorem parM111 : M.par 111 = [1] := by kernel_rfl
theorem resM111 : M.res 111 = [] := by kernel_rfl
theorem parK111 : E.P.parK 111 = [[0], [0]] := by kernel_rfl
theorem resK111 : E.P.resK 111 = [[0]] := by kernel_rfl
theorem goFn112 : E.P.goFn 112 = true := by kernel_rfl
theorem parM112 : M.par 112 = [1] := by kernel_rfl
theorem resM112 : M.res 112 = [] := by kernel_rfl
theorem parK112 : E.P.parK 112 = [[0], [0]] := by kernel_rfl
theorem resK112 : E.P.resK 112 = [[0]] := by kernel_rfl
theorem goFn113 : E.P.goFn 113 = true := by kernel_rfl
theorem parM113 : M.par 113 = [1] := by kernel_rfl
theorem resM113 : M.res 113 = [] := by kernel_rfl
theorem parK113 : E.P.parK 113 = [[0], [0]] := by kernel_rfl
theorem resK113 : E.P.resK 113 = [[0]] := by kernel_rfl
theorem goFn115 : E.P.goFn 115 = true := by kernel_rfl
theorem parM115 : M.par 115 = [] := by kernel_rfl
theorem resM115 : M.res 115 = [] := by kernel_rfl
theorem parK115 : E.P.parK 115 = [[5], [0]] := by kernel_rfl
theorem resK115 : E.P.resK 115 = [] := by kernel_rfl
theorem goFn116 : E.P.goFn 116 = true := by kernel_rfl
theorem parM116 : M.par 116 = [] := by kernel_rfl
theorem resM116 : M.res 116 = [] := by kernel_rfl
theorem parK116 : E.P.parK 116 = [[2]] := by kernel_rfl
theorem resK116 : E.P.resK 116 = [[2]] := by kernel_rfl
theorem goFn117 : E.P.goFn 117 = true := by kernel_rfl
theorem parM117 : M.par 117 = [] := by kernel_rfl
theorem resM117 : M.res 117 = [1] := by kernel_rfl
theorem parK117 : E.P.parK 117 = [[2]] := by kernel_rfl
theorem resK117 : E.P.resK 117 = [[2]] := by kernel_rfl
theorem goFn118 : E.P.goFn 118 = true := by kernel_rfl
theorem parM118 : M.par 118 = [] := by kernel_rfl
theorem resM118 : M.res 118 = [] := by kernel_rfl
theorem parK118 : E.P.parK 118 = [[2]] := by kernel_rfl
theorem resK118 : E.P.resK 118 = [[0]] := by kernel_rfl
theorem goFn119 : E.P.goFn 119 = true := by kernel_rfl
theorem parM119 : M.par 119 = [] := by kernel_rfl
theorem resM119 : M.res 119 = [] := by kernel_rfl
theorem parK119 : E.P.parK 119 = [[2], [2]] := by kernel_rfl
theorem resK119 : E.P.resK 119 = [[2]] := by kernel_rfl
theorem goFn120 : E.P.goFn 120 = true := by kernel_rfl
theorem parM120 : M.par 120 = [] := by kernel_rfl
theorem resM120 : M.res 120 = [] := by kernel_rfl
theorem parK120 : E.P.parK 120 = [[2], [2]] := by kernel_rfl
theorem resK120 : E.P.resK 120 = [[2]] := by kernel_rfl
theorem goFn121 : E.P.goFn 121 = true := by kernel_rfl
theorem parM121 : M.par 121 = [] := by kernel_rfl
theorem resM121 : M.res 121 = [1] := by kernel_rfl
theorem parK121 : E.P.parK 121 = [[0, 0, 0, 0, 0, 0]] := by kernel_rfl
theorem resK121 : E.P.resK 121 = [[2]] := by kernel_rfl
theorem goFn122 : E.P.goFn 122 = true := by kernel_rfl
theorem parM122 : M.par 122 = [] := by kernel_rfl
theorem resM122 : M.res 122 = [1] := by kernel_rfl
theorem parK122 : E.P.parK 122 = [[2]] := by kernel_rfl
theorem resK122 : E.P.resK 122 = [[2]] := by kernel_rfl
theorem goFn123 : E.P.goFn 123 = true := by kernel_rfl
theorem parM123 : M.par 123 = [] := by kernel_rfl
theorem resM123 : M.res 123 = [] := by kernel_rfl
theorem parK123 : E.P.parK 123 = [[0]] := by kernel_rfl
theorem resK123 : E.P.resK 123 = [[0]] := by kernel_rfl
theorem goFn124 : E.P.goFn 124 = true := by kernel_rfl
theorem parM124 : M.par 124 = [] := by kernel_rfl
theorem resM124 : M.res 124 = [] := by kernel_rfl
theorem parK124 : E.P.parK 124 = [[2], [2]] := by kernel_rfl
theorem resK124 : E.P.resK 124 = [[0]] := by kernel_rfl
theorem goFn125 : E.P.goFn 125 = true := by kernel_rfl
theorem parM125 : M.par 125 = [] := by kernel_rfl
theorem resM125 : M.res 125 = [] := by kernel_rfl
theorem parK125 : E.P.parK 125 = [[2], [2], [0]] := by kernel_rfl
theorem resK125 : E.P.resK 125 = [[0, 0, 0, 0, 0, 0, 0, 0, 0, 0, 0, 0, 0, 0, 0, 0]] := by kernel_rfl
theorem goFn126 : E.P.goFn 126 = true := by kernel_rfl
theorem parM126 : M.par 126 = [] := by kernel_rfl
theorem resM126 : M.res 126 = [] := by kernel_rfl
theorem parK126 : E.P.parK 126 = [[0, 0, 0, 0, 0, 0, 0, 0, 0, 0, 0, 0, 0, 0, 0, 0]] := by kernel_rfl
theorem resK126 : E.P.resK 126 = [[0, 0, 0, 0, 0, 0, 0, 0, 0, 0, 0, 0, 0, 0, 0, 0, 0, 0, 0, 0, 0, 0, 0, 0, 0, 0, 0, 0, 0, 0, 0, 0, 0, 0, 0, 0, 0, 0, 0, 0, 0, 0, 0, 0, 0, 0, 0, 0, 0, 0, 0, 0, 0, 0, 0, 0, 0, 0, 0, 0, 0, 0, 0, 0]] := by kernel_rfl
theorem goFn127 : E.P.goFn 127 = true := by kernel_rfl
theorem parM127 : M.par 127 = [] := by kernel_rfl
theorem resM127 : M.res 127 = [1] := by kernel_rfl
theorem parK127 : E.P.parK 127 = [[2], [2]] := by kernel_rfl
theorem resK127 : E.P.resK 127 = [[2], [0]] := by kernel_rfl
theorem goFn128 : E.P.goFn 128 = true := by kernel_rfl
theorem parM128 : M.par 128 = [] := by kernel_rfl
theorem resM128 : M.res 128 = [] := by kernel_rfl
theorem parK128 : E.P.parK 128 = [[2], [2]] := by kernel_rfl
theorem resK128 : E.P.resK 128 = [[0]] := by kernel_rfl
theorem goFn129 : E.P.goFn 129 = true := by kernel_rfl
theorem parM129 : M.par 129 = [] := by kernel_rfl
theorem resM129 : M.res 129 = [] := by kernel_rfl
theorem parK129 : E.P.parK 129 = [[5], [0]] := by kernel_rfl
theorem resK129 : E.P.resK 129 = [] := by kernel_rfl
theorem goFn130 : E.P.goFn 130 = true := by kernel_rfl
theorem parM130 : M.par 130 = [] := by kernel_rfl
theorem resM130 : M.res 130 = [] := by kernel_rfl
theorem parK130 : E.P.parK 130 = [[2]] := by kernel_rfl
theorem resK130 : E.P.resK 130 = [[2]] := by kernel_rfl
theorem goFn131 : E.P.goFn 131 = true := by kernel_rfl
theorem parM131 : M.par 131 = [] := by kernel_rfl
theorem resM131 : M.res 131 = [] := by kernel_rfl
theorem parK131 : E.P.parK 131 = [[0]] := by kernel_rfl
theorem resK131 : E.P.resK 131 = [[2]] := by kernel_rfl
theorem goFn132 : E.P.goFn 132 = true := by kernel_rfl
theorem parM132 : M.par 132 = [] := by kernel_rfl
theorem resM132 : M.res 132 = [] := by kernel_rfl
theorem parK132 : E.P.parK 132 = [] := by kernel_rfl
theorem resK132 : E.P.resK 132 = [[0, 0, 0, 0, 0, 0, 0, 0]] := by kernel_rfl
theorem goFn133 : E.P.goFn 133 = true := by kernel_rfl
theorem parM133 : M.par 133 = [] := by kernel_rfl
theorem resM133 : M.res 133 = [] := by kernel_rfl
theorem parK133 : E.P.parK 133 = [[0, 0, 0, 0, 0, 0, 0, 0], [0, 0, 0, 0, 0, 0, 0, 0, 0, 0, 0, 0, 0, 0, 0, 0, 0, 0, 0, 0, 0, 0, 0, 0, 0, 0, 0, 0, 0, 0, 0, 0, 0, 0, 0, 0, 0, 0, 0, 0, 0, 0, 0, 0, 0, 0, 0, 0, 0, 0, 0, 0, 0, 0, 0, 0, 0, 0, 0, 0, 0, 0, 0, 0]] := by kernel_rfl
theorem resK133 : E.P.resK 133 = [[0, 0, 0, 0, 0, 0, 0, 0]] := by kernel_rfl
theorem goFn134 : E.P.goFn 134 = true := by kernel_rfl
theorem parM134 : M.par 134 = [] := by kernel_rfl
theorem resM134 : M.res 134 = [] := by kernel_rfl
theorem parK134 : E.P.parK 134 = [[0]] := by kernel_rfl
theorem resK134 : E.P.resK 134 = [[2]] := by kernel_rfl
theorem goFn135 : E.P.goFn 135 = true := by kernel_rfl
theorem parM135 : M.par 135 = [] := by kernel_rfl
theorem resM135 : M.res 135 = [] := by kernel_rfl
theorem parK135 : E.P.parK 135 = [] := by kernel_rfl
theorem resK135 : E.P.resK 135 = [[2]] := by kernel_rfl
theorem goFn136 : E.P.goFn 136 = true := by kernel_rfl
theorem parM136 : M.par 136 = [] := by kernel_rfl
theorem resM136 : M.res 136 = [] := by kernel_rfl
theorem parK136 : E.P.parK 136 = [[2], [2]] := by kernel_rfl
theorem resK136 : E.P.resK 136 = [[2]] := by kernel_rfl
theorem goFn137 : E.P.goFn 137 = true := by kernel_rfl
theorem parM137 : M.par 137 = [] := by kernel_rfl
theorem resM137 : M.res 137 = [] := by kernel_rfl
theorem parK137 : E.P.parK 137 = [[2], [0]] := by kernel_rfl
theorem resK137 : E.P.resK 137 = [[2]] := by kernel_rfl
theorem goFn138 : E.P.goFn 138 = true := by kernel_rfl
theorem parM138 : M.par 138 = [] := by kernel_rfl
theorem resM138 : M.res 138 = [] := by kernel_rfl
theorem parK138 : E.P.parK 138 = [[2], [2]] := by kernel_rfl
theorem resK138 : E.P.resK 138 = [[2]] := by kernel_rfl
theorem goFn139 : E.P.goFn 139 = true := by kernel_rfl
theorem parM139 : M.par 139 = [] := by kernel_rfl
theorem resM139 : M.res 139 = [] := by kernel_rfl
theorem parK139 : E.P.parK 139 = [[0], [0]] := by kernel_rfl
theorem resK139 : E.P.resK 139 = [[0]] := by kernel_rfl
theorem goFn140 : E.P.goFn 140 = true := by kernel_rfl
theorem parM140 : M.par 140 = [] := by kernel_rfl
theorem resM140 : M.res 140 = [] := by kernel_rfl
theorem parK140 : E.P.parK 140 = [[2]] := by kernel_rfl
theorem resK140 : E.P.resK 140 = [[0]] := by kernel_rfl
theorem goFn141 : E.P.goFn 141 = true := by kernel_rfl
theorem parM141 : M.par 141 = [] := by kernel_rfl
theorem resM141 : M.res 141 = [] := by kernel_rfl
theorem parK141 : E.P.parK 141 = [[0, 0, 0, 0, 0, 0, 0, 0, 0, 0, 0, 0, 0, 0, 0, 0]] := by kernel_rfl
theorem resK141 : E.P.resK 141 = [[0, 0, 0, 0, 0, 0, 0, 0, 0, 0, 0, 0, 0, 0, 0, 0]] := by kernel_rfl
theorem goFn142 : E.P.goFn 142 = true := by kernel_rfl
theorem parM142 : M.par 142 = [] := by kernel_rfl
theorem resM142 : M.res 142 = [] := by kernel_rfl
theorem parK142 : E.P.parK 142 = [[2]] := by kernel_rfl
theorem resK142 : E.P.resK 142 = [[0, 0, 0, 0, 0]] := by kernel_rfl
theorem goFn143 : E.P.goFn 143 = true := by kernel_rfl
theorem parM143 : M.par 143 = [] := by kernel_rfl
theorem resM143 : M.res 143 = [] := by kernel_rfl
theorem parK143 : E.P.parK 143 = [[2]] := by kernel_rfl
theorem resK143 : E.P.resK 143 = [[2]] := by kernel_rfl
theorem goFn144 : E.P.goFn 144 = true := by kernel_rfl
theorem parM144 : M.par 144 = [] := by kernel_rfl
theorem resM144 : M.res 144 = [] := by kernel_rfl
theorem parK144 : E.P.parK 144 = [[0, 0, 0, 0, 0], [0, 0, 0, 0, 0]] := by kernel_rfl
theorem resK144 : E.P.resK 144 = [[0, 0, 0, 0, 0]] := by kernel_rfl
theorem goFn145 : E.P.goFn 145 = true := by kernel_rfl
theorem parM145 : M.par 145 = [] := by kernel_rfl
theorem resM145 : M.res 145 = [] := by kernel_rfl
theorem parK145 : E.P.parK 145 = [[0, 0, 0, 0, 0]] := by kernel_rfl
theorem resK145 : E.P.resK 145 = [[0, 0, 0, 0, 0]] := by kernel_rfl
theorem goFn146 : E.P.goFn 146 = true := by kernel_rfl
theorem parM146 : M.par 146 = [] := by kernel_rfl
theorem resM146 : M.res 146 = [] := by kernel_rfl
theorem parK146 : E.P.parK 146 = [[0, 0, 0, 0, 0], [0, 0, 0, 0, 0]] := by kernel_rfl
theorem resK146 : E.P.resK 146 = [[0, 0, 0, 0, 0]] := by kernel_rfl
theorem goFn147 : E.P.goFn 147 = true := by kernel_rfl
theorem parM147 : M.par 147 = [] := by kernel_rfl
theorem resM147 : M.res 147 = [1] := by kernel_rfl
theorem parK147 : E.P.parK 147 = [[2], [2]] := by kernel_rfl
theorem resK147 : E.P.resK 147 = [[2]] := by kernel_rfl
theorem goFn148 : E.P.goFn 148 = true := by kernel_rfl
theorem parM148 : M.par 148 = [] := by kernel_rfl
theorem resM148 : M.res 148 = [] := by kernel_rfl
theorem parK148 : E.P.parK 148 = [[0, 0, 0, 0, 0]] := by kernel_rfl
theorem resK148 : E.P.resK 148 = [[2]] := by kernel_rfl
theorem goFn149 : E.P.goFn 149 = true := by kernel_rfl
theorem parM149 : M.par 149 = [] := by kernel_rfl
theorem resM149 : M.res 149 = [] := by kernel_rfl
theorem parK149 : E.P.parK 149 = [[0, 0, 0, 0, 0]] := by kernel_rfl
theorem resK149 : E.P.resK 149 = [[0, 0, 0, 0, 0]] := by kernel_rfl
theorem goFn150 : E.P.goFn 150 = true := by kernel_rfl
theorem parM150 : M.par 150 = [] := by kernel_rfl
theorem resM150 : M.res 150 = [] := by kernel_rfl
theorem parK150 : E.P.parK 150 = [[2]] := by kernel_rfl
theorem resK150 : E.P.resK 150 = [[0]] := by kernel_rfl
theorem goFn151 : E.P.goFn 151 = true := by kernel_rfl
theorem parM151 : M.par 151 = [] := by kernel_rfl
theorem resM151 : M.res 151 = [] := by kernel_rfl
theorem parK151 : E.P.parK 151 = [[2], [2]] := by kernel_rfl
theorem resK151 : E.P.resK 151 = [[2]] := by kernel_rfl
theorem goFn152 : E.P.goFn 152 = true := by kernel_rfl
theorem parM152 : M.par 152 = [] := by kernel_rfl
theorem resM152 : M.res 152 = [] := by kernel_rfl
theorem parK152 : E.P.parK 152 = [[5]] := by kernel_rfl
theorem resK152 : E.P.resK 152 = [] := by kernel_rfl
theorem goFn153 : E.P.goFn 153 = true := by kernel_rfl
theorem parM153 : M.par 153 = [] := by kernel_rfl
theorem resM153 : M.res 153 = [] := by kernel_rfl
theorem parK153 : E.P.parK 153 = [[2], [0]] := by kernel_rfl
theorem resK153 : E.P.resK 153 = [[2]] := by kernel_rfl
theorem goFn154 : E.P.goFn 154 = true := by kernel_rfl
theorem parM154 : M.par 154 = [] := by kernel_rfl
theorem resM154 : M.res 154 = [] := by kernel_rfl
theorem parK154 : E.P.parK 154 = [[0, 0, 0, 0, 0, 0, 0, 0, 0, 0, 0, 0, 0, 0, 0, 0, 0, 0, 0, 0, 0, 0, 0, 0, 0, 0, 0, 0, 0, 0, 0, 0, 0, 0, 0, 0, 0, 0, 0, 0, 0, 0, 0, 0, 0, 0, 0, 0, 0, 0, 0, 0, 0, 0, 0, 0, 0, 0, 0, 0, 0, 0, 0, 0]] := by kernel_rfl
theorem resK154 : E.P.resK 154 = [[0, 0, 0, 0, 0, 0, 0, 0, 0, 0, 0, 0, 0, 0, 0, 0, 0, 0, 0, 0, 0, 0, 0, 0, 0, 0, 0, 0, 0, 0, 0, 0, 0, 0, 0, 0, 0, 0, 0, 0, 0, 0, 0, 0, 0, 0, 0, 0, 0, 0, 0, 0, 0, 0, 0, 0, 0, 0, 0, 0, 0, 0, 0, 0]] := by kernel_rfl
theorem goFn155 : E.P.goFn 155 = true := by kernel_rfl
theorem parM155 : M.par 155 = [] := by kernel_rfl
theorem resM155 : M.res 155 = [] := by kernel_rfl
theorem parK155 : E.P.parK 155 = [[0], [0]] := by kernel_rfl
theorem resK155 : E.P.resK 155 = [[0]] := by kernel_rfl
theorem goFn156 : E.P.goFn 156 = true := by kernel_rfl
theorem parM156 : M.par 156 = [] := by kernel_rfl
theorem resM156 : M.res 156 = [] := by kernel_rfl
theorem parK156 : E.P.parK 156 = [[0], [0]] := by kernel_rfl
theorem resK156 : E.P.resK 156 = [[0]] := by kernel_rfl
theorem goFn157 : E.P.goFn 157 = true := by kernel_rfl
theorem parM157 : M.par 157 = [] := by kernel_rfl
theorem resM157 : M.res 157 = [] := by kernel_rfl
theorem parK157 : E.P.parK 157 = [] := by kernel_rfl
theorem resK157 : E.P.resK 157 = [[2]] := by kernel_rfl
theorem goFn158 : E.P.goFn 158 = true := by kernel_rfl
theorem parM158 : M.par 158 = [] := by kernel_rfl
theorem resM158 : M.res 158 = [1] := by kernel_rfl
theorem parK158 : E.P.parK 158 = [[2]] := by kernel_rfl
theorem resK158 : E.P.resK 158 = [[2]] := by kernel_rfl
theorem goFn159 : E.P.goFn 159 = true := by kernel_rfl
theorem parM159 : M.par 159 = [] := by kernel_rfl
theorem resM159 : M.res 159 = [] := by kernel_rfl
theorem parK159 : E.P.parK 159 = [[0]] := by kernel_rfl
theorem resK159 : E.P.resK 159 = [[0]] := by kernel_rfl
theorem goFn160 : E.P.goFn 160 = true := by kernel_rfl
theorem parM160 : M.par 160 = [] := by kernel_rfl
theorem resM160 : M.res 160 = [] := by kernel_rfl
theorem parK160 : E.P.parK 160 = [[0]] := by kernel_rfl
theorem resK160 : E.P.resK 160 = [[0]] := by kernel_rfl
theorem goFn161 : E.P.goFn 161 = true := by kernel_rfl
theorem parM161 : M.par 161 = [] := by kernel_rfl
theorem resM161 : M.res 161 = [] := by kernel_rfl
theorem parK161 : E.P.parK 161 = [[2], [0]] := by kernel_rfl
theorem resK161 : E.P.resK 161 = [] := by kernel_rfl
theorem goFn162 : E.P.goFn 162 = true := by kernel_rfl
theorem parM162 : M.par 162 = [] := by kernel_rfl
theorem resM162 : M.res 162 = [] := by kernel_rfl
theorem parK162 : E.P.parK 162 = [[2], [0], [0], [0], [0]] := by kernel_rfl
theorem resK162 : E.P.resK 162 = [[2], [0]] := by kernel_rfl
theorem goFn163 : E.P.goFn 163 = true := by kernel_rfl
theorem parM163 : M.par 163 = [] := by kernel_rfl
theorem resM163 : M.res 163 = [] := by kernel_rfl
theorem parK163 : E.P.parK 163 = [[0, 0, 0, 0, 0, 0, 0, 0, 0, 0, 0, 0, 0, 0, 0, 0], [0], [0], [0], [0]] := by kernel_rfl
theorem resK163 : E.P.resK 163 = [[0, 0, 0, 0, 0, 0, 0, 0, 0, 0, 0, 0, 0, 0, 0, 0]] := by kernel_rfl
theorem goFn164 : E.P.goFn 164 = true := by kernel_rfl
theorem parM164 : M.par 164 = [] := by kernel_rfl
theorem resM164 : M.res 164 = [] := by kernel_rfl
theorem parK164 : E.P.parK 164 = [[0]] := by kernel_rfl
theorem resK164 : E.P.resK 164 = [[0], [0]] := by kernel_rfl
theorem goFn165 : E.P.goFn 165 = true := by kernel_rfl
theorem parM165 : M.par 165 = [] := by kernel_rfl
theorem resM165 : M.res 165 = [] := by kernel_rfl
theorem parK165 : E.P.parK 165 = [[0, 0, 0, 0, 0]] := by kernel_rfl
theorem resK165 : E.P.resK 165 = [[0, 0, 0, 0, 0]] := by kernel_rfl
theorem goFn166 : E.P.goFn 166 = true := by kernel_rfl
theorem parM166 : M.par 166 = [] := by kernel_rfl
theorem resM166 : M.res 166 = [] := by kernel_rfl
theorem parK166 : E.P.parK 166 = [[2]] := by kernel_rfl
theorem resK166 : E.P.resK 166 = [[0]] := by kernel_rfl
theorem goFn167 : E.P.goFn 167 = true := by kernel_rfl
theorem parM167 : M.par 167 = [] := by kernel_rfl
theorem resM167 : M.res 167 = [] := by kernel_rfl
theorem parK167 : E.P.parK 167 = [[0], [0]] := by kernel_rfl
theorem resK167 : E.P.resK 167 = [[0]] := by kernel_rfl
theorem goFn168 : E.P.goFn 168 = true := by kernel_rfl
theorem parM168 : M.par 168 = [] := by kernel_rfl
theorem resM168 : M.res 168 = [1] := by kernel_rfl
theorem parK168 : E.P.parK 168 = [[2]] := by kernel_rfl
theorem resK168 : E.P.resK 168 = [[2]] := by kernel_rfl
theorem goFn169 : E.P.goFn 169 = true := by kernel_rfl
theorem parM169 : M.par 169 = [] := by kernel_rfl
theorem resM169 : M.res 169 = [] := by kernel_rfl
theorem parK169 : E.P.parK 169 = [[0]] := by kernel_rfl
theorem resK169 : E.P.resK 169 = [[0]] := by kernel_rfl
theorem goFn170 : E.P.goFn 170 = true := by kernel_rfl
theorem parM170 : M.par 170 = [] := by kernel_rfl
theorem resM170 : M.res 170 = [] := by kernel_rfl
theorem parK170 : E.P.parK 170 = [[0]] := by kernel_rfl
theorem resK170 : E.P.resK 170 = [[0]] := by kernel_rfl
theorem goFn171 : E.P.goFn 171 = true := by kernel_rfl
theorem parM171 : M.par 171 = [] := by kernel_rfl
theorem resM171 : M.res 171 = [] := by kernel_rfl
theorem parK171 : E.P.parK 171 = [[0]] := by kernel_rfl
theorem resK171 : E.P.resK 171 = [[0]] := by kernel_rfl
theorem goFn172 : E.P.goFn 172 = true := by kernel_rfl
theorem parM172 : M.par 172 = [] := by kernel_rfl
theorem resM172 : M.res 172 = [] := by kernel_rfl
theorem parK172 : E.P.parK 172 = [[0]] := by kernel_rfl
theorem resK172 : E.P.resK 172 = [[0]] := by kernel_rfl
theorem goFn173 : E.P.goFn 173 = true := by kernel_rfl
theorem parM173 : M.par 173 = [] := by kernel_rfl
theorem resM173 : M.res 173 = [] := by kernel_rfl
theorem parK173 : E.P.parK 173 = [[0]] := by kernel_rfl
theorem resK173 : E.P.resK 173 = [[0]] := by kernel_rfl
theorem goFn174 : E.P.goFn 174 = true := by kernel_rfl
theorem parM174 : M.par 174 = [] := by kernel_rfl
theorem resM174 : M.res 174 = [] := by kernel_rfl
theorem parK174 : E.P.parK 174 = [[0], [0], [0], [0]] := by kernel_rfl
theorem resK174 : E.P.resK 174 = [[0], [0], [0], [0]] := by kernel_rfl
theorem goFn175 : E.P.goFn 175 = true := by kernel_rfl
theorem parM175 : M.par 175 = [] := by kernel_rfl
theorem resM175 : M.res 175 = [] := by kernel_rfl
theorem parK175 : E.P.parK 175 = [[0]] := by kernel_rfl
theorem resK175 : E.P.resK 175 = [[0]] := by kernel_rfl
theorem goFn176 : E.P.goFn 176 = true := by kernel_rfl
theorem parM176 : M.par 176 = [] := by kernel_rfl
theorem resM176 : M.res 176 = [] := by kernel_rfl
theorem parK176 : E.P.parK 176 = [[0]] := by kernel_rfl
theorem resK176 : E.P.resK 176 = [[0]] := by kernel_rfl
theorem goFn201 : E.P.goFn 201 = true := by kernel_rfl
theorem parM201 : M.par 201 = [] := by kernel_rfl
theorem resM201 : M.res 201 = [] := by kernel_rfl
theorem parK201 : E.P.parK 201 = [] := by kernel_rfl
theorem resK201 : E.P.resK 201 = [] := by kernel_rfl
theorem locM2 : M.loc 2 = 1 := by kernel_rfl
theorem locM3 : M.loc 3 = 18014398509211648 := by kernel_rfl
theorem locM4 : M.loc 4 = 147573952589542064128 := by kernel_rfl
theorem locM5 : M.loc 5 = 2535301200456458802984808087552 := by kernel_rfl
theorem locM6 : M.loc 6 = 696898287413517153965687855172091915862016 := by kernel_rfl
theorem locM7 : M.loc 7 = 1125899906840064 := by kernel_rfl
theorem locM8 : M.loc 8 = 81129638412245497328445684383744 := by kernel_rfl
theorem locM9 : M.loc 9 = 268434352 := by kernel_rfl
theorem locM10 : M.loc 10 = 1180591620717411301568 := by kernel_rfl
theorem locM11 : M.loc 11 = 9002800134238208 := by kernel_rfl
theorem locM12 : M.loc 12 = 4602608450394781696 := by kernel_rfl
theorem locM13 : M.loc 13 = 33536960 := by kernel_rfl
theorem locM14 : M.loc 14 = 266321920 := by kernel_rfl
theorem locM15 : M.loc 15 = 4286574080 := by kernel_rfl
theorem locM16 : M.loc 16 = 8184 := by kernel_rfl
theorem locM17 : M.loc 17 = 4294967264 := by kernel_rfl
theorem locM18 : M.loc 18 = 68719460352 := by kernel_rfl
theorem locM19 : M.loc 19 = 140737488322560 := by kernel_rfl
theorem locM20 : M.loc 20 = 4064 := by kernel_rfl
theorem locM21 : M.loc 21 = 4064 := by kernel_rfl
theorem locM22 : M.loc 22 = 121856 := by kernel_rfl
theorem locM23 : M.loc 23 = 56576 := by kernel_rfl
theorem locM24 : M.loc 24 = 295147905179352825088 := by kernel_rfl
theorem locM25 : M.loc 25 = 4088 := by kernel_rfl
theorem locM26 : M.loc 26 = 8321496576 := by kernel_rfl
theorem locM27 : M.loc 27 = 126100514687938560 := by kernel_rfl
theorem locM28 : M.loc 28 = 524096 := by kernel_rfl
theorem locM29 : M.loc 29 = 4503599627370368 := by kernel_rfl
theorem locM30 : M.loc 30 = 1924145280896 := by kernel_rfl
theorem locM31 : M.loc 31 = 3848290627264 := by kernel_rfl
theorem locM32 : M.loc 32 = 240 := by kernel_rfl
theorem locM33 : M.loc 33 = 68719476728 := by kernel_rfl
theorem locM34 : M.loc 34 = 8388592 := by kernel_rfl
theorem locM35 : M.loc 35 = 8388592 := by kernel_rfl
theorem locM36 : M.loc 36 = 266287935488 := by kernel_rfl
theorem locM37 : M.loc 37 = 266287905792 := by kernel_rfl
theorem locM38 : M.loc 38 = 72634050390035251200 := by kernel_rfl
theorem locM39 : M.loc 39 = 128896 := by kernel_rfl
theorem locM40 : M.loc 40 = 16642997760 := by kernel_rfl
theorem locM41 : M.loc 41 = 224 := by kernel_rfl
theorem locM42 : M.loc 42 = 24 := by kernel_rfl
theorem locM43 : M.loc 43 = 2097144 := by kernel_rfl
theorem locM44 : M.loc 44 = 70093865746176 := by kernel_rfl
theorem locM45 : M.loc 45 = 4194296 := by kernel_rfl
theorem locM46 : M.loc 46 = 33028992 := by kernel_rfl
theorem locM47 : M.loc 47 = 4503565267623680 := by kernel_rfl
theorem locM48 : M.loc 48 = 16777088 := by kernel_rfl
theorem locM49 : M.loc 49 = 120 := by kernel_rfl
theorem locM50 : M.loc 50 = 536866176 := by kernel_rfl
theorem locM51 : M.loc 51 = 120 := by kernel_rfl
theorem locM52 : M.loc 52 = 4294729472 := by kernel_rfl
theorem locM53 : M.loc 53 = 261120 := by kernel_rfl
theorem locM54 : M.loc 54 = 2093248 := by kernel_rfl
theorem locM55 : M.loc 55 = 70351560080384 := by kernel_rfl
theorem locM56 : M.loc 56 = 261984 := by kernel_rfl
theorem locM57 : M.loc 57 = 504 := by kernel_rfl
theorem locM58 : M.loc 58 = 17592183812096 := by kernel_rfl
theorem locM59 : M.loc 59 = 16224 := by kernel_rfl
theorem locM60 : M.loc 60 = 65472 := by kernel_rfl
theorem locM61 : M.loc 61 = 24 := by kernel_rfl
theorem locM62 : M.loc 62 = 65472 := by kernel_rfl
theorem locM63 : M.loc 63 = 68702682872 := by kernel_rfl
theorem locM64 : M.loc 64 = 1016 := by kernel_rfl
theorem locM65 : M.loc 65 = 35184338460672 := by kernel_rfl
theorem locM66 : M.loc 66 = 56 := by kernel_rfl
theorem locM67 : M.loc 67 = 56 := by kernel_rfl
theorem locM68 : M.loc 68 = 33822836608 := by kernel_rfl
theorem locM69 : M.loc 69 = 549217894144 := by kernel_rfl
theorem locM70 : M.loc 70 = 4575657221407870976 := by kernel_rfl
theorem locM71 : M.loc 71 = 9223372036853857280 := by kernel_rfl
theorem locM72 : M.loc 72 = 4063224 := by kernel_rfl
theorem locM73 : M.loc 73 = 120 := by kernel_rfl
theorem locM74 : M.loc 74 = 137187032832 := by kernel_rfl
theorem locM75 : M.loc 75 = 4063224 := by kernel_rfl
theorem locM76 : M.loc 76 = 56 := by kernel_rfl
theorem locM77 : M.loc 77 = 2197948464896 := by kernel_rfl
theorem locM78 : M.loc 78 = 274877906928 := by kernel_rfl
theorem locM79 : M.loc 79 = 992 := by kernel_rfl
theorem locM80 : M.loc 80 = 120 := by kernel_rfl
theorem locM81 : M.loc 81 = 133955344 := by kernel_rfl
theorem locM82 : M.loc 82 = 56 := by kernel_rfl
theorem locM83 : M.loc 83 = 457792 := by kernel_rfl
theorem locM84 : M.loc 84 = 240 := by kernel_rfl
theorem locM85 : M.loc 85 = 232 := by kernel_rfl
theorem locM86 : M.loc 86 = 39614080961984263615267404800 := by kernel_rfl
theorem locM87 : M.loc 87 = 134182896 := by kernel_rfl
theorem locM88 : M.loc 88 = 785856 := by kernel_rfl
theorem locM89 : M.loc 89 = 137422143424 := by kernel_rfl
theorem locM90 : M.loc 90 = 224 := by kernel_rfl
theorem locM91 : M.loc 91 = 2093248 := by kernel_rfl
theorem locM92 : M.loc 92 = 65520 := by kernel_rfl
theorem locM93 : M.loc 93 = 137434691584 := by kernel_rfl
theorem locM94 : M.loc 94 = 3936 := by kernel_rfl
theorem locM95 : M.loc 95 = 131040 := by kernel_rfl
theorem locM96 : M.loc 96 = 248 := by kernel_rfl
theorem locM97 : M.loc 97 = 67108848 := by kernel_rfl
theorem locM98 : M.loc 98 = 274877902336 := by kernel_rfl
theorem locM99 : M.loc 99 = 24 := by kernel_rfl
theorem locM100 : M.loc 100 = 8160 := by kernel_rfl
theorem locM101 : M.loc 101 = 37778923979457716224000 := by kernel_rfl
theorem locM102 : M.loc 102 = 2251799813678080 := by kernel_rfl
theorem locM103 : M.loc 103 = 4128704 := by kernel_rfl
theorem locM104 : M.loc 104 = 8388528 := by kernel_rfl
theorem locM105 : M.loc 105 = 1000 := by kernel_rfl
theorem locM106 : M.loc 106 = 2092544 := by kernel_rfl
theorem locM107 : M.loc 107 = 1976 := by kernel_rfl
theorem locM108 : M.loc 108 = 4193792 := by kernel_rfl
theorem locM109 : M.loc 109 = 1048320 := by kernel_rfl
theorem locM110 : M.loc 110 = 4088 := by kernel_rfl
theorem locM111 : M.loc 111 = 480 := by kernel_rfl
theorem locM112 : M.loc 112 = 1099511610752 := by kernel_rfl
theorem locM113 : M.loc 113 = 144115187941632960 := by kernel_rfl
theorem locM115 : M.loc 115 = 1008 := by kernel_rfl
theorem locM116 : M.loc 116 = 4503569561550336 := by kernel_rfl
theorem locM117 : M.loc 117 = 1152921503532580608 := by kernel_rfl
theorem locM118 : M.loc 118 = 33554424 := by kernel_rfl
theorem locM119 : M.loc 119 = 131008 := by kernel_rfl
theorem locM120 : M.loc 120 = 480 := by kernel_rfl
theorem locM121 : M.loc 121 = 33554416 := by kernel_rfl
theorem locM122 : M.loc 122 = 507376 := by kernel_rfl
theorem locM123 : M.loc 123 = 24 := by kernel_rfl
theorem locM124 : M.loc 124 = 8160 := by kernel_rfl
theorem locM125 : M.loc 125 = 274777236480 := by kernel_rfl
theorem locM126 : M.loc 126 = 2251799813659776 := by kernel_rfl
theorem locM127 : M.loc 127 = 140737487825920 := by kernel_rfl
theorem locM128 : M.loc 128 = 65504 := by kernel_rfl
theorem locM129 : M.loc 129 = 16368 := by kernel_rfl
theorem locM130 : M.loc 130 = 68215103488 := by kernel_rfl
theorem locM131 : M.loc 131 = 1073676096 := by kernel_rfl
theorem locM132 : M.loc 132 = 2 := by kernel_rfl
theorem locM133 : M.loc 133 = 2595197691317242642214125633929216 := by kernel_rfl
theorem locM134 : M.loc 134 = 68702633792 := by kernel_rfl
theorem locM135 : M.loc 135 = 2 := by kernel_rfl
theorem locM136 : M.loc 136 = 215679573337205118357336120696151728477114015716832964620587687215104 := by kernel_rfl
theorem locM137 : M.loc 137 = 8381312 := by kernel_rfl
theorem locM138 : M.loc 138 = 992 := by kernel_rfl
theorem locM139 : M.loc 139 = 18014381321090304 := by kernel_rfl
theorem locM140 : M.loc 140 = 33554424 := by kernel_rfl
theorem locM141 : M.loc 141 = 274877120384 := by kernel_rfl
theorem locM142 : M.loc 142 = 35167192211456 := by kernel_rfl
theorem locM143 : M.loc 143 = 8795958615904 := by kernel_rfl
theorem locM144 : M.loc 144 = 2198989686784 := by kernel_rfl
theorem locM145 : M.loc 145 = 4398046510976 := by kernel_rfl
theorem locM146 : M.loc 146 = 524032 := by kernel_rfl
theorem locM147 : M.loc 147 = 68719469312 := by kernel_rfl
theorem locM148 : M.loc 148 = 8796025905920 := by kernel_rfl
theorem locM149 : M.loc 149 = 520176 := by kernel_rfl
theorem locM150 : M.loc 150 = 56 := by kernel_rfl
theorem locM151 : M.loc 151 = 8589704960 := by kernel_rfl
theorem locM152 : M.loc 152 = 268434928 := by kernel_rfl
theorem locM153 : M.loc 153 = 134152096 := by kernel_rfl
theorem locM154 : M.loc 154 = 38685626227650541404552192 := by kernel_rfl
theorem locM155 : M.loc 155 = 480 := by kernel_rfl
theorem locM156 : M.loc 156 = 8160 := by kernel_rfl
theorem locM157 : M.loc 157 = 2 := by kernel_rfl
theorem locM158 : M.loc 158 = 16344 := by kernel_rfl
theorem locM159 : M.loc 159 = 32744 := by kernel_rfl
theorem locM160 : M.loc 160 = 32752 := by kernel_rfl
theorem locM161 : M.loc 161 = 184149205606795480238948490449146349755637850570752 := by kernel_rfl
theorem locM162 : M.loc 162 = 5050176389969560855884357697536 := by kernel_rfl
theorem locM163 : M.loc 163 = 274877904896 := by kernel_rfl
theorem locM164 : M.loc 164 = 1008 := by kernel_rfl
theorem locM165 : M.loc 165 = 268434672 := by kernel_rfl
theorem locM166 : M.loc 166 = 130048 := by kernel_rfl
theorem locM167 : M.loc 167 = 131008 := by kernel_rfl
theorem locM168 : M.loc 168 = 232 := by kernel_rfl
theorem locM169 : M.loc 169 = 56 := by kernel_rfl
theorem locM170 : M.loc 170 = 33537768 := by kernel_rfl
theorem locM171 : M.loc 171 = 0 := by kernel_rfl
theorem locM172 : M.loc 172 = 248 := by kernel_rfl
theorem locM173 : M.loc 173 = 248 := by kernel_rfl
theorem locM174 : M.loc 174 = 17592186040320 := by kernel_rfl
theorem locM175 : M.loc 175 = 16360 := by kernel_rfl
theorem locM176 : M.loc 176 = 16360 := by kernel_rfl
theorem locM201 : M.loc 201 = 15 := by kernel_rfl
attribute [go_sem] szO0 rowO0 zeroL0 isStr0 isInt0 und0 guard0 szO1 rowO1 zeroL1 isStr1 isInt1 und1 guard1 szO2 rowO2 zeroL2 isStr2 isInt2 kindO2 und2 guard2 szO3 rowO3 zeroL3 isStr3 isInt3 kindO3 und3 guard3 szO4 rowO4 zeroL4 isStr4 isInt4 boolT4 und4 guard4 szO5 rowO5 zeroL5 isStr5 isInt5 kindO5 und5 guard5 szO6 rowO6 zeroL6 isStr6 isInt6 kindO6 und6 guard6 szO7 rowO7 zeroL7 isStr7 isInt7 isComp7 und7 guard7 fldO7_0 fldO7_1 fldO7_2 fldO7_3 places7_0 places7_1 places7_2 places7_3 szO8 rowO8 zeroL8 isStr8 isInt8 isComp8 und8 guard8 fldO8_0 fldO8_1 fldO8_2 fldO8_3 places8_0 places8_1 places8_2 places8_3 szO9 rowO9 zeroL9 isStr9 isInt9 und9 guard9 szO10 rowO10 zeroL10 isStr10 isInt10 und10 guard10 szO11 rowO11 zeroL11 isStr11 isInt11 und11 guard11 szO12 rowO12 zeroL12 isStr12 isInt12 kindO12 und12 guard12 szO13 rowO13 zeroL13 isStr13 isInt13 isComp13 und13 guard13 fldO13_0 fldO13_1 places13_0 places13_1 szO14 rowO14 zeroL14 isStr14 isInt14 isComp14 und14 guard14 fldO14_0 fldO14_1 places14_0 places14_1 szO15 rowO15 zeroL15 isStr15 isInt15 ptrT15 und15 guard15 szO16 rowO16 zeroL16 isStr16 isInt16 ptrT16 und16 guard16 szO17 rowO17 zeroL17 isStr17 isInt17 ptrT17 und17 guard17 szO18 rowO18 zeroL18 isStr18 isInt18 isComp18 und18 guard18 fldO18_0 places18_0 szO19 rowO19 zeroL19 isStr19 isInt19 isComp19 und19 guard19 fldO19_0 places19_0 szO20 rowO20 zeroL20 isStr20 isInt20 und20 guard20 szO21 rowO21 zeroL21 isStr21 isInt21 kindO21 und21 guard21 szO22 rowO22 zeroL22 elemO22 elemBytes22 elemZero22 isStr22 isInt22 und22 guard22 szO23 rowO23 zeroL23 isStr23 isInt23 kindO23 und23 guard23 szO24 rowO24 zeroL24 isStr24 isInt24 und24 guard24 szO25 rowO25 zeroL25 isStr25 isInt25 und25 guard25 szO26 rowO26 zeroL26 isStr26 isInt26 kindO26 und26 guard26 szO27 rowO27 zeroL27 isStr27 isInt27 und27 guard27 szO28 rowO28 zeroL28 isStr28 isInt28 und28 guard28 szO29 rowO29 zeroL29 isStr29 isInt29 und29 guard29 szO30 rowO30 zeroL30 isStr30 isInt30 und30 guard30 szO31 rowO31 zeroL31 isStr31 isInt31 und31 guard31 szO32 rowO32 zeroL32 isStr32 isInt32 und32 guard32 szO33 rowO33 zeroL33 isStr33 isInt33 und33 guard33 szO34 rowO34 zeroL34 isStr34 isInt34 isComp34 und34 guard34 fldO34_0 fldO34_1 fldO34_2 fldO34_3 fldO34_4 fldO34_5 places34_0 places34_1 places34_2 places34_3 places34_4 places34_5 szO35 rowO35 zeroL35 isStr35 isInt35 isComp35 und35 guard35 fldO35_0 fldO35_1 fldO35_2 fldO35_3 fldO35_4 fldO35_5 places35_0 places35_1 places35_2 places35_3 places35_4 places35_5 szO36 rowO36 zeroL36 isStr36 isInt36 und36 guard36 szO37 rowO37 zeroL37 isStr37 isInt37 und37 guard37 szO38 rowO38 zeroL38 isStr38 isInt38 und38 guard38 szO39 rowO39 zeroL39 isStr39 isInt39 und39 guard39 szO40 rowO40 zeroL40 isStr40 isInt40 und40 guard40 szO41 rowO41 zeroL41 isStr41 isInt41 und41 guard41 szO42 rowO42 zeroL42 isStr42 isInt42 isComp42 und42 guard42 fldO42_0 fldO42_1 fldO42_2 places42_0 places42_1 places42_2 szO43 rowO43 zeroL43 isStr43 isInt43 isComp43 und43 guard43 fldO43_0 fldO43_1 fldO43_2 places43_0 places43_1 places43_2 szO44 rowO44 zeroL44 isStr44 isInt44 und44 guard44 szO45 rowO45 zeroL45 elemO45 elemBytes45 elemZero45 isStr45 isInt45 isBytes45 und45 guard45 szO46 rowO46 zeroL46 isStr46 isInt46 und46 guard46 szO47 rowO47 zeroL47 isStr47 isInt47 und47 guard47 szO48 rowO48 zeroL48 isStr48 isInt48 und48 guard48 szO49 rowO49 zeroL49 isStr49 isInt49 und49 guard49 szO50 rowO50 zeroL50 isStr50 isInt50 und50 guard50 szO51 rowO51 zeroL51 isStr51 isInt51 und51 guard51 szO52 rowO52 zeroL52 isStr52 isInt52 und52 guard52 szO53 rowO53 zeroL53 isStr53 isInt53 isComp53 und53 guard53 fldO53_0 fldO53_1 fldO53_2 fldO53_3 places53_0 places53_1 places53_2 places53_3 szO54 rowO54 zeroL54 isStr54 isInt54 isComp54 und54 guard54 fldO54_0 fldO54_1 fldO54_2 fldO54_3 places54_0 places54_1 places54_2 places54_3 szO55 rowO55 zeroL55 isStr55 isInt55 und55 guard55 szO56 rowO56 zeroL56 isStr56 isInt56 und56 guard56 szO57 rowO57 zeroL57 isStr57 isInt57 isComp57 und57 guard57 fldO57_0 fldO57_1 fldO57_2 fldO57_3 places57_0 places57_1 places57_2 places57_3 szO58 rowO58 zeroL58 isStr58 isInt58 und58 guard58 szO59 rowO59 zeroL59 isStr59 isInt59 und59 guard59 szO60 rowO60 zeroL60 isStr60 isInt60 und60 guard60 szO61 rowO61 zeroL61 isStr61 isInt61 und61 guard61 szO62 rowO62 zeroL62 isStr62 isInt62 und62 guard62 szO63 rowO63 zeroL63 isStr63 isInt63 und63 guard63 szO64 rowO64 zeroL64 isStr64 isInt64 und64 guard64 szO65 rowO65 zeroL65 isStr65 isInt65 und65 guard65 szO66 rowO66 zeroL66 isStr66 isInt66 und66 guard66 szO67 rowO67 zeroL67 isStr67 isInt67 und67 guard67 szO68 rowO68 zeroL68 isStr68 isInt68 und68 guard68 szO69 rowO69 zeroL69 isStr69 isInt69 isComp69 und69 guard69 fldO69_0 fldO69_1 fldO69_2 fldO69_3 places69_0 places69_1 places69_2 places69_3 szO70 rowO70 zeroL70 isStr70 isInt70 isComp70 und70 guard70 fldO70_0 fldO70_1 fldO70_2 fldO70_3 places70_0 places70_1 places70_2 places70_3 szO71 rowO71 zeroL71 isStr71 isInt71 und71 guard71 szO72 rowO72 zeroL72 isStr72 isInt72 und72 guard72 szO73 rowO73 zeroL73 isStr73 isInt73 und73 guard73 szO74 rowO74 zeroL74 isStr74 isInt74 und74 guard74 szO75 rowO75 zeroL75 isStr75 isInt75 und75 guard75 szO76 rowO76 zeroL76 isStr76 isInt76 und76 guard76 szO77 rowO77 zeroL77 isStr77 isInt77 und77 guard77 szO78 rowO78 zeroL78 isStr78 isInt78 und78 guard78 szO79 rowO79 zeroL79 isStr79 isInt79 und79 guard79 szO80 rowO80 zeroL80 isStr80 isInt80 und80 guard80 szO81 rowO81 zeroL81 isStr81 isInt81 und81 guard81 szO82 rowO82 zeroL82 isStr82 isInt82 und82 guard82 szO83 rowO83 zeroL83 isStr83 isInt83 und83 guard83 szO84 rowO84 zeroL84 isStr84 isInt84 und84 guard84 szO85 rowO85 zeroL85 isStr85 isInt85 und85 guard85 szO86 rowO86 zeroL86 isStr86 isInt86 und86 guard86 szO87 rowO87 zeroL87 isStr87 isInt87 und87 guard87 szO88 rowO88 zeroL88 isStr88 isInt88 und88 guard88 szO89 rowO89 zeroL89 isStr89 isInt89 und89 guard89 szO90 rowO90 zeroL90 isStr90 isInt90 und90 guard90 szO91 rowO91 zeroL91 isStr91 isInt91 und91 guard91 szO92 rowO92 zeroL92 isStr92 isInt92 und92 guard92 szO93 rowO93 zeroL93 isStr93 isInt93 und93 guard93 szO94 rowO94 zeroL94 isStr94 isInt94 und94 guard94 szO95 rowO95 zeroL95 isStr95 isInt95 und95 guard95 szO96 rowO96 zeroL96 isStr96 isInt96 und96 guard96 szO97 rowO97 zeroL97 isStr97 isInt97 und97 guard97 szO98 rowO98 zeroL98 isStr98 isInt98 und98 guard98 szO99 rowO99 zeroL99 isStr99 isInt99 und99 guard99 szO100 rowO100 zeroL100 isStr100 isInt100 ptrT100 und100 guard100 szO101 rowO101 zeroL101 isStr101 isInt101 und101 guard101 szO102 rowO102 zeroL102 isStr102 isInt102 und102 guard102 szO103 rowO103 zeroL103 isStr103 isInt103 ptrT103 und103 guard103 szO104 rowO104 zeroL104 isStr104 isInt104 und104 guard104 szO105 rowO105 zeroL105 isStr105 isInt105 und105 guard105 szO106 rowO106 zeroL106 isStr106 isInt106 und106 guard106 szO107 rowO107 zeroL107 isStr107 isInt107 und107 guard107 szO108 rowO108 zeroL108 isStr108 isInt108 und108 guard108 szO109 rowO109 zeroL109 isStr109 isInt109 und109 guard109 szO110 rowO110 zeroL110 isStr110 isInt110 und110 guard110 szO111 rowO111 zeroL111 isStr111 isInt111 und111 guard111 szO112 rowO112 zeroL112 isStr112 isInt112 und112 guard112 szO113 rowO113 zeroL113 elemO113 elemBytes113 elemZero113 isStr113 isInt113 und113 guard113 szO114 rowO114 zeroL114 isStr114 isInt114 und114 guard114 szO115 rowO115 zeroL115 isStr115 isInt115 und115 guard115 szO116 rowO116 zeroL116 isStr116 isInt116 kindO116 und116 guard116 szO117 rowO117 zeroL117 isStr117 isInt117 und117 guard117 szO118 rowO118 zeroL118 isStr118 isInt118 und118 guard118 szO119 rowO119 zeroL119 isStr119 isInt119 und119 guard119 szO120 rowO120 zeroL120 isStr120 isInt120 und120 guard120 szO121 rowO121 zeroL121 isStr121 isInt121 und121 guard121 szO122 rowO122 zeroL122 isStr122 isInt122 und122 guard122 szO123 rowO123 zeroL123 isStr123 isInt123 und123 guard123 szO124 rowO124 zeroL124 isStr124 isInt124 ptrT124 und124 guard124 szO125 rowO125 zeroL125 isStr125 isInt125 isComp125 und125 guard125 fldO125_0 fldO125_1 places125_0 places125_1 szO126 rowO126 zeroL126 isStr126 isInt126 isComp126 und126 guard126 fldO126_0 fldO126_1 places126_0 places126_1 szO127 rowO127 zeroL127 isStr127 isInt127 und127 guard127 szO128 rowO128 zeroL128 isStr128 isInt128 kindO128 und128 guard128 szO129 rowO129 zeroL129 isStr129 isInt129 isComp129 und129 guard129 fldO129_0 fldO129_1 fldO129_2 places129_0 places129_1 places129_2 szO130 rowO130 zeroL130 isStr130 isInt130 isComp130 und130 guard130 fldO130_0 fldO130_1 fldO130_2 places130_0 places130_1 places130_2 szO131 rowO131 zeroL131 isStr131 isInt131 und131 guard131 szO132 rowO132 zeroL132 isStr132 isInt132 und132 guard132 szO133 rowO133 zeroL133 isStr133 isInt133 und133 guard133 szO134 rowO134 zeroL134 isStr134 isInt134 isComp134 arrO134 und134 guard134 places134_0 places134_1 places134_2 places134_3 places134_4 places134_5 places134_6 places134_7 places134_8 places134_9 places134_10 places134_11 places134_12 places134_13 places134_14 places134_15 places134_16 places134_17 places134_18 places134_19 places134_20 places134_21 places134_22 places134_23 places134_24 places134_25 places134_26 places134_27 places134_28 places134_29 places134_30 places134_31 places134_32 places134_33 places134_34 places134_35 places134_36 places134_37 places134_38 places134_39 places134_40 places134_41 places134_42 places134_43 places134_44 places134_45 places134_46 places134_47 places134_48 places134_49 places134_50 places134_51 places134_52 places134_53 places134_54 places134_55 places134_56 places134_57 places134_58 places134_59 places134_60 places134_61 places134_62 places134_63 places134_64 places134_65 places134_66 places134_67 places134_68 places134_69 szO135 rowO135 zeroL135 isStr135 isInt135 und135 guard135 szO136 rowO136 zeroL136 isStr136 isInt136 isComp136 arrO136 und136 guard136 places136_0 places136_1 places136_2 places136_3 places136_4 places136_5 places136_6 places136_7 places136_8 places136_9 places136_10 places136_11 places136_12 places136_13 places136_14 places136_15 places136_16 places136_17 places136_18 places136_19 places136_20 places136_21 places136_22 places136_23 places136_24 places136_25 places136_26 places136_27 places136_28 places136_29 places136_30 places136_31 places136_32 places136_33 places136_34 places136_35 places136_36 places136_37 places136_38 places136_39 places136_40 places136_41 places136_42 places136_43 places136_44 places136_45 places136_46 places136_47 places136_48 places136_49 places136_50 places136_51 places136_52 places136_53 places136_54 places136_55 places136_56 places136_57 places136_58 places136_59 places136_60 places136_61 places136_62 places136_63 places136_64 places136_65 places136_66 places136_67 places136_68 places136_69 szO137 rowO137 zeroL137 isStr137 isInt137 und137 guard137 szO138 rowO138 zeroL138 isStr138 isInt138 und138 guard138 szO139 rowO139 zeroL139 isStr139 isInt139 und139 guard139 szO140 rowO140 zeroL140 isStr140 isInt140 und140 guard140 szO141 rowO141 zeroL141 isStr141 isInt141 isComp141 arrO141 und141 guard141 places141_0 places141_1 places141_2 places141_3 places141_4 places141_5 places141_6 places141_7 places141_8 places141_9 places141_10 places141_11 places141_12 places141_13 places141_14 places141_15 places141_16 places141_17 places141_18 places141_19 places141_20 places141_21 places141_22 places141_23 places141_24 places141_25 places141_26 places141_27 places141_28 places141_29 places141_30 places141_31 places141_32 places141_33 places141_34 places141_35 places141_36 places141_37 places141_38 places141_39 places141_40 places141_41 places141_42 places141_43 places141_44 places141_45 places141_46 places141_47 places141_48 places141_49 places141_50 places141_51 places141_52 places141_53 places141_54 places141_55 places141_56 places141_57 places141_58 places141_59 places141_60 places141_61 places141_62 places141_63 places141_64 places141_65 places141_66 places141_67 places141_68 places141_69 szO142 rowO142 zeroL142 isStr142 isInt142 und142 guard142 szO143 rowO143 zeroL143 isStr143 isInt143 und143 guard143 szO144 rowO144 zeroL144 elemO144 elemBytes144 elemZero144 isStr144 isInt144 und144 guard144 szO145 rowO145 zeroL145 isStr145 isInt145 und145 guard145 szO146 rowO146 zeroL146 isStr146 isInt146 und146 guard146 szO147 rowO147 zeroL147 elemO147 elemBytes147 elemZero147 isStr147 isInt147 und147 guard147 szO148 rowO148 zeroL148 isStr148 isInt148 und148 guard148 szO149 rowO149 zeroL149 isStr149 isInt149 und149 guard149 szO150 rowO150 zeroL150 isStr150 isInt150 und150 guard150 szO151 rowO151 zeroL151 isStr151 isInt151 isComp151 arrO151 und151 guard151 places151_0 places151_1 places151_2 places151_3 places151_4 places151_5 places151_6 places151_7 places151_8 places151_9 places151_10 places151_11 places151_12 places151_13 places151_14 places151_15 places151_16 places151_17 places151_18 places151_19 places151_20 places151_21 places151_22 places151_23 places151_24 places151_25 places151_26 places151_27 places151_28 places151_29 places151_30 places151_31 places151_32 places151_33 places151_34 places151_35 places151_36 places151_37 places151_38 places151_39 places151_40 places151_41 places151_42 places151_43 places151_44 places151_45 places151_46 places151_47 places151_48 places151_49 places151_50 places151_51 places151_52 places151_53 places151_54 places151_55 places151_56 places151_57 places151_58 places151_59 places151_60 places151_61 places151_62 places151_63 places151_64 places151_65 places151_66 places151_67 places151_68 places151_69 szO152 rowO152 zeroL152 isStr152 isInt152 isComp152 arrO152 und152 guard152 places152_0 places152_1 places152_2 places152_3 places152_4 places152_5 places152_6 places152_7 places152_8 places152_9 places152_10 places152_11 places152_12 places152_13 places152_14 places152_15 places152_16 places152_17 places152_18 places152_19 places152_20 places152_21 places152_22 places152_23 places152_24 places152_25 places152_26 places152_27 places152_28 places152_29 places152_30 places152_31 places152_32 places152_33 places152_34 places152_35 places152_36 places152_37 places152_38 places152_39 places152_40 places152_41 places152_42 places152_43 places152_44 places152_45 places152_46 places152_47 places152_48 places152_49 places152_50 places152_51 places152_52 places152_53 places152_54 places152_55 places152_56 places152_57 places152_58 places152_59 places152_60 places152_61 places152_62 places152_63 places152_64 places152_65 places152_66 places152_67 places152_68 places152_69 szO153 rowO153 zeroL153 isStr153 isInt153 und153 guard153 szO154 rowO154 zeroL154 isStr154 isInt154 und154 guard154 szO155 rowO155 zeroL155 isStr155 isInt155 und155 guard155 szO156 rowO156 zeroL156 isStr156 isInt156 und156 guard156 szO157 rowO157 zeroL157 isStr157 isInt157 und157 guard157 szO158 rowO158 zeroL158 isStr158 isInt158 und158 guard158 szO159 rowO159 zeroL159 isStr159 isInt159 isComp159 arrO159 und159 guard159 places159_0 places159_1 places159_2 places159_3 places159_4 places159_5 places159_6 places159_7 places159_8 places159_9 places159_10 places159_11 places159_12 places159_13 places159_14 places159_15 places159_16 places159_17 places159_18 places159_19 places159_20 places159_21 places159_22 places159_23 places159_24 places159_25 places159_26 places159_27 places159_28 places159_29 places159_30 places159_31 places159_32 places159_33 places159_34 places159_35 places159_36 places159_37 places159_38 places159_39 places159_40 places159_41 places159_42 places159_43 places159_44 places159_45 places159_46 places159_47 places159_48 places159_49 places159_50 places159_51 places159_52 places159_53 places159_54 places159_55 places159_56 places159_57 places159_58 places159_59 places159_60 places159_61 places159_62 places159_63 places159_64 places159_65 places159_66 places159_67 places159_68 places159_69 szO160 rowO160 zeroL160 isStr160 isInt160 und160 guard160 szO161 rowO161 zeroL161 isStr161 isInt161 und161 guard161 szO162 rowO162 zeroL162 isStr162 isInt162 und162 guard162 szO163 rowO163 zeroL163 isStr163 isInt163 isComp163 arrO163 und163 guard163 places163_0 places163_1 places163_2 places163_3 places163_4 places163_5 places163_6 places163_7 places163_8 places163_9 places163_10 places163_11 places163_12 places163_13 places163_14 places163_15 places163_16 places163_17 places163_18 places163_19 places163_20 places163_21 places163_22 places163_23 places163_24 places163_25 places163_26 places163_27 places163_28 places163_29 places163_30 places163_31 places163_32 places163_33 places163_34 places163_35 places163_36 places163_37 places163_38 places163_39 places163_40 places163_41 places163_42 places163_43 places163_44 places163_45 places163_46 places163_47 places163_48 places163_49 places163_50 places163_51 places163_52 places163_53 places163_54 places163_55 places163_56 places163_57 places163_58 places163_59 places163_60 places163_61 places163_62 places163_63 places163_64 places163_65 places163_66 places163_67 places163_68 places163_69 szO164 rowO164 zeroL164 isStr164 isInt164 und164 guard164 szO165 rowO165 zeroL165 isStr165 isInt165 und165 guard165 szO166 rowO166 zeroL166 isStr166 isInt166 und166 guard166 szO167 rowO167 zeroL167 isStr167 isInt167 und167 guard167 szO168 rowO168 zeroL168 isStr168 isInt168 und168 guard168 szO169 rowO169 zeroL169 isStr169 isInt169 und169 guard169 szO170 rowO170 zeroL170 isStr170 isInt170 und170 guard170 szO171 rowO171 zeroL171 isStr171 isInt171 und171 guard171 szO172 rowO172 zeroL172 isStr172 isInt172 und172 guard172 szO173 rowO173 zeroL173 isStr173 isInt173 und173 guard173 szO174 rowO174 zeroL174 isStr174 isInt174 isComp174 arrO174 und174 guard174 places174_0 places174_1 places174_2 places174_3 places174_4 places174_5 places174_6 places174_7 places174_8 places174_9 places174_10 places174_11 places174_12 places174_13 places174_14 places174_15 places174_16 places174_17 places174_18 places174_19 places174_20 places174_21 places174_22 places174_23 places174_24 places174_25 places174_26 places174_27 places174_28 places174_29 places174_30 places174_31 places174_32 places174_33 places174_34 places174_35 places174_36 places174_37 places174_38 places174_39 places174_40 places174_41 places174_42 places174_43 places174_44 places174_45 places174_46 places174_47 places174_48 places174_49 places174_50 places174_51 places174_52 places174_53 places174_54 places174_55 places174_56 places174_57 places174_58 places174_59 places174_60 places174_61 places174_62 places174_63 places174_64 places174_65 places174_66 places174_67 places174_68 places174_69 szO175 rowO175 zeroL175 isStr175 isInt175 isComp175 arrO175 und175 guard175 places175_0 places175_1 places175_2 places175_3 places175_4 places175_5 places175_6 places175_7 places175_8 places175_9 places175_10 places175_11 places175_12 places175_13 places175_14 places175_15 places175_16 places175_17 places175_18 places175_19 places175_20 places175_21 places175_22 places175_23 places175_24 places175_25 places175_26 places175_27 places175_28 places175_29 places175_30 places175_31 places175_32 places175_33 places175_34 places175_35 places175_36 places175_37 places175_38 places175_39 places175_40 places175_41 places175_42 places175_43 places175_44 places175_45 places175_46 places175_47 places175_48 places175_49 places175_50 places175_51 places175_52 places175_53 places175_54 places175_55 places175_56 places175_57 places175_58 places175_59 places175_60 places175_61 places175_62 places175_63 places175_64 places175_65 places175_66 places175_67 places175_68 places175_69 szO176 rowO176 zeroL176 isStr176 isInt176 und176 guard176 szO177 rowO177 zeroL177 isStr177 isInt177 und177 guard177 szO178 rowO178 zeroL178 isStr178 isInt178 und178 guard178 szO179 rowO179 zeroL179 isStr179 isInt179 und179 guard179 szO180 rowO180 zeroL180 isStr180 isInt180 und180 guard180 szO181 rowO181 zeroL181 isStr181 isInt181 isComp181 arrO181 und181 guard181 places181_0 places181_1 places181_2 places181_3 places181_4 places181_5 places181_6 places181_7 places181_8 places181_9 places181_10 places181_11 places181_12 places181_13 places181_14 places181_15 places181_16 places181_17 places181_18 places181_19 places181_20 places181_21 places181_22 places181_23 places181_24 places181_25 places181_26 places181_27 places181_28 places181_29 places181_30 places181_31 places181_32 places181_33 places181_34 places181_35 places181_36 places181_37 places181_38 places181_39 places181_40 places181_41 places181_42 places181_43 places181_44 places181_45 places181_46 places181_47 places181_48 places181_49 places181_50 places181_51 places181_52 places181_53 places181_54 places181_55 places181_56 places181_57 places181_58 places181_59 places181_60 places181_61 places181_62 places181_63 places181_64 places181_65 places181_66 places181_67 places181_68 places181_69 szO182 rowO182 zeroL182 isStr182 isInt182 und182 guard182 szO183 rowO183 zeroL183 isStr183 isInt183 isComp183 und183 guard183 fldO183_0 fldO183_1 fldO183_2 fldO183_3 places183_0 places183_1 places183_2 places183_3 szO184 rowO184 zeroL184 isStr184 isInt184 isComp184 und184 guard184 fldO184_0 fldO184_1 fldO184_2 fldO184_3 places184_0 places184_1 places184_2 places184_3 szO185 rowO185 zeroL185 isStr185 isInt185 isComp185 arrO185 und185 guard185 places185_0 places185_1 places185_2 places185_3 places185_4 places185_5 places185_6 places185_7 places185_8 places185_9 places185_10 places185_11 places185_12 places185_13 places185_14 places185_15 places185_16 places185_17 places185_18 places185_19 places185_20 places185_21 places185_22 places185_23 places185_24 places185_25 places185_26 places185_27 places185_28 places185_29 places185_30 places185_31 places185_32 places185_33 places185_34 places185_35 places185_36 places185_37 places185_38 places185_39 places185_40 places185_41 places185_42 places185_43 places185_44 places185_45 places185_46 places185_47 places185_48 places185_49 places185_50 places185_51 places185_52 places185_53 places185_54 places185_55 places185_56 places185_57 places185_58 places185_59 places185_60 places185_61 places185_62 places185_63 places185_64 places185_65 places185_66 places185_67 places185_68 places185_69 szO186 rowO186 zeroL186 isStr186 isInt186 isComp186 und186 guard186 places186_0 szO187 rowO187 zeroL187 isStr187 isInt187 isComp187 und187 guard187 places187_0 szO188 rowO188 zeroL188 isStr188 isInt188 kindO188 und188 guard188 szO189 rowO189 zeroL189 isStr189 isInt189 kindO189 und189 guard189 szO190 rowO190 zeroL190 isStr190 isInt190 und190 guard190 szO191 rowO191 zeroL191 isStr191 isInt191 ptrT191 und191 guard191 szO192 rowO192 zeroL192 isStr192 isInt192 kindO192 und192 guard192 szO193 rowO193 zeroL193 isStr193 isInt193 kindO193 und193 guard193 szO194 rowO194 zeroL194 isStr194 isInt194 isComp194 und194 guard194 fldO194_0 fldO194_1 fldO194_2 fldO194_3 fldO194_4 fldO194_5 fldO194_6 fldO194_7 fldO194_8 fldO194_9 fldO194_10 places194_0 places194_1 places194_2 places194_3 places194_4 places194_5 places194_6 places194_7 places194_8 places194_9 places194_10 szO195 rowO195 zeroL195 isStr195 isInt195 isComp195 und195 guard195 fldO195_0 fldO195_1 fldO195_2 fldO195_3 fldO195_4 fldO195_5 fldO195_6 fldO195_7 fldO195_8 fldO195_9 fldO195_10 places195_0 places195_1 places195_2 places195_3 places195_4 places195_5 places195_6 places195_7 places195_8 places195_9 places195_10 szO196 rowO196 zeroL196 isStr196 isInt196 und196 guard196 goFn2 parM2 resM2 parK2 resK2 goFn3 parM3 resM3 parK3 resK3 goFn4 parM4 resM4 parK4 resK4 goFn5 parM5 resM5 parK5 resK5 goFn6 parM6 resM6 parK6 resK6 goFn7 parM7 resM7 parK7 resK7 goFn8 parM8 resM8 parK8 resK8 goFn9 parM9 resM9 parK9 resK9 goFn10 parM10 resM10 parK10 resK10 goFn11 parM11 resM11 parK11 resK11 goFn12 parM12 resM12 parK12 resK12 goFn13 parM13 resM13 parK13 resK13 goFn14 parM14 resM14 parK14 resK14 goFn15 parM15 resM15 parK15 resK15 goFn16 parM16 resM16 parK16 resK16 goFn17 parM17 resM17 parK17 resK17 goFn18 parM18 resM18 parK18 resK18 goFn19 parM19 resM19 parK19 resK19 goFn20 parM20 resM20 parK20 resK20 goFn21 parM21 resM21 parK21 resK21 goFn22 parM22 resM22 parK22 resK22 goFn23 parM23 resM23 parK23 resK23 goFn24 parM24 resM24 parK24 resK24 goFn25 parM25 resM25 parK25 resK25 goFn26 parM26 resM26 parK26 resK26 goFn27 parM27 resM27 parK27 resK27 goFn28 parM28 resM28 parK28 resK28 goFn29 parM29 resM29 parK29 resK29 goFn30 parM30 resM30 parK30 resK30 goFn31 parM31 resM31 parK31 resK31 goFn32 parM32 resM32 parK32 resK32 goFn33 parM33 resM33 parK33 resK33 goFn34 parM34 resM34 parK34 resK34 goFn35 parM35 resM35 parK35 resK35 goFn36 parM36 resM36 parK36 resK36 goFn37 parM37 resM37 parK37 resK37 goFn38 parM38 resM38 parK38 resK38 goFn39 parM39 resM39 parK39 resK39 goFn40 parM40 resM40 parK40 resK40 goFn41 parM41 resM41 parK41 resK41 goFn42 parM42 resM42 parK42 resK42 goFn43 parM43 resM43 parK43 resK43 goFn44 parM44 resM44 parK44 resK44 goFn45 parM45 resM45 parK45 resK45 goFn46 parM46 resM46 parK46 resK46 goFn47 parM47 resM47 parK47 resK47 goFn48 parM48 resM48 parK48 resK48 goFn49 parM49 resM49 parK49 resK49 goFn50 parM50 resM50 parK50 resK50 goFn51 parM51 resM51 parK51 resK51 goFn52 parM52 resM52 parK52 resK52 goFn53 parM53 resM53 parK53 resK53 goFn54 parM54 resM54 parK54 resK54 goFn55 parM55 resM55 parK55 resK55 goFn56 parM56 resM56 parK56 resK56 goFn57 parM57 resM57 parK57 resK57 goFn58 parM58 resM58 parK58 resK58 goFn59 parM59 resM59 parK59 resK59 goFn60 parM60 resM60 parK60 resK60 goFn61 parM61 resM61 parK61 resK61 goFn62 parM62 resM62 parK62 resK62 goFn63 parM63 resM63 parK63 resK63 goFn64 parM64 resM64 parK64 resK64 goFn65 parM65 resM65 parK65 resK65 goFn66 parM66 resM66 parK66 resK66 goFn67 parM67 resM67 parK67 resK67 goFn68 parM68 resM68 parK68 resK68 goFn69 parM69 resM69 parK69 resK69 goFn70 parM70 resM70 parK70 resK70 goFn71 parM71 resM71 parK71 resK71 goFn72 parM72 resM72 parK72 resK72 goFn73 parM73 resM73 parK73 resK73 goFn74 parM74 resM74 parK74 resK74 goFn75 parM75 resM75 parK75 resK75 goFn76 parM76 resM76 parK76 resK76 goFn77 parM77 resM77 parK77 resK77 goFn78 parM78 resM78 parK78 resK78 goFn79 parM79 resM79 parK79 resK79 goFn80 parM80 resM80 parK80 resK80 goFn81 parM81 resM81 parK81 resK81 goFn82 parM82 resM82 parK82 resK82 goFn83 parM83 resM83 parK83 resK83 goFn84 parM84 resM84 parK84 resK84 goFn85 parM85 resM85 parK85 resK85 goFn86 parM86 resM86 parK86 resK86 goFn87 parM87 resM87 parK87 resK87 goFn88 parM88 resM88 parK88 resK88 goFn89 parM89 resM89 parK89 resK89 goFn90 parM90 resM90 parK90 resK90 goFn91 parM91 resM91 parK91 resK91 goFn92 parM92 resM92 parK92 resK92 goFn93 parM93 resM93 parK93 resK93 goFn94 parM94 resM94 parK94 resK94 goFn95 parM95 resM95 parK95 resK95 goFn96 parM96 resM96 parK96 resK96 goFn97 parM97 resM97 parK97 resK97 goFn98 parM98 resM98 parK98 resK98 goFn99 parM99 resM99 parK99 resK99 goFn100 parM100 resM100 parK100 resK100 goFn101 parM101 resM101 parK101 resK101 goFn102 parM102 resM102 parK102 resK102 goFn103 parM103 resM103 parK103 resK103 goFn104 parM104 resM104 parK104 resK104 goFn105 parM105 resM105 parK105 resK105 goFn106 parM106 resM106 parK106 resK106 goFn107 parM107 resM107 parK107 resK107 goFn108 parM108 resM108 parK108 resK108 goFn109 parM109 resM109 parK109 resK109 goFn110 parM110 resM110 parK110 resK110 goFn111 parM111 resM111 parK111 resK111 goFn112 parM112 resM112 parK112 resK112 goFn113 parM113 resM113 parK113 resK113 goFn115 parM115 resM115 parK115 resK115 goFn116 parM116 resM116 parK116 resK116 goFn117 parM117 resM117 parK117 resK117 goFn118 parM118 resM118 parK118 resK118 goFn119 parM119 resM119 parK119 resK119 goFn120 parM120 resM120 parK120 resK120 goFn121 parM121 resM121 parK121 resK121 goFn122 parM122 resM122 parK122 resK122 goFn123 parM123 resM123 parK123 resK123 goFn124 parM124 resM124 parK124 resK124 goFn125 parM125 resM125 parK125 resK125 goFn126 parM126 resM126 parK126 resK126 goFn127 parM127 resM127 parK127 resK127 goFn128 parM128 resM128 parK128 resK128 goFn129 parM129 resM129 parK129 resK129 goFn130 parM130 resM130 parK130 resK130 goFn131 parM131 resM131 parK131 resK131 goFn132 parM132 resM132 parK132 resK132 goFn133 parM133 resM133 parK133 resK133 goFn134 parM134 resM134 parK134 resK134 goFn135 parM135 resM135 parK135 resK135 goFn136 parM136 resM136 parK136 resK136 goFn137 parM137 resM137 parK137 resK137 goFn138 parM138 resM138 parK138 resK138 goFn139 parM139 resM139 parK139 resK139 goFn140 parM140 resM140 parK140 resK140 goFn141 parM141 resM141 parK141 resK141 goFn142 parM142 resM142 parK142 resK142 goFn143 parM143 resM143 parK143 resK143 goFn144 parM144 resM144 parK144 resK144 goFn145 parM145 resM145 parK145 resK145 goFn146 parM146 resM146 parK146 resK146 goFn147 parM147 resM147 parK147 resK147 goFn148 parM148 resM148 parK148 resK148 goFn149 parM149 resM149 parK149 resK149 goFn150 parM150 resM150 parK150 resK150 goFn151 parM151 resM151 parK151 resK151 goFn152 parM152 resM152 parK152 resK152 goFn153 parM153 resM153 parK153 resK153 goFn154 parM154 resM154 parK154 resK154 goFn155 parM155 resM155 parK155 resK155 goFn156 parM156 resM156 parK156 resK156 goFn157 parM157 resM157 parK157 resK157 goFn158 parM158 resM158 parK158 resK158 goFn159 parM159 resM159 parK159 resK159 goFn160 parM160 resM160 parK160 resK160 goFn161 parM161 resM161 parK161 resK161 goFn162 parM162 resM162 parK162 resK162 goFn163 parM163 resM163 parK163 resK163 goFn164 parM164 resM164 parK164 resK164 goFn165 parM165 resM165 parK165 resK165 goFn166 parM166 resM166 parK166 resK166 goFn167 parM167 resM167 parK167 resK167 goFn168 parM168 resM168 parK168 resK168 goFn169 parM169 resM169 parK169 resK169 goFn170 parM170 resM170 parK170 resK170 goFn171 parM171 resM171 parK171 resK171 goFn172 parM172 resM172 parK172 resK172 goFn173 parM173 resM173 parK173 resK173 goFn174 parM174 resM174 parK174 resK174 goFn175 parM175 resM175 parK175 resK175 goFn176 parM176 resM176 parK176 resK176 goFn201 parM201 resM201 parK201 resK201 locM2 locM3 locM4 locM5 locM6 locM7 locM8 locM9 locM10 locM11 locM12 locM13 locM14 locM15 locM16 locM17 locM18 locM19 locM20 locM21 locM22 locM23 locM24 locM25 locM26 locM27 locM28 locM29 locM30 locM31 locM32 locM33 locM34 locM35 locM36 locM37 locM38 locM39 locM40 locM41 locM42 locM43 locM44 locM45 locM46 locM47 locM48 locM49 locM50 locM51 locM52 locM53 locM54 locM55 locM56 locM57 locM58 locM59 locM60 locM61 locM62 locM63 locM64 locM65 locM66 locM67 locM68 locM69 locM70 locM71 locM72 locM73 locM74 locM75 locM76 locM77 locM78 locM79 locM80 locM81 locM82 locM83 locM84 locM85 locM86 locM87 locM88 locM89 locM90 locM91 locM92 locM93 locM94 locM95 locM96 locM97 locM98 locM99 locM100 locM101 locM102 locM103 locM104 locM105 locM106 locM107 locM108 locM109 locM110 locM111 locM112 locM113 locM115 locM116 locM117 locM118 locM119 locM120 locM121 locM122 locM123 locM124 locM125 locM126 locM127 locM128 locM129 locM130 locM131 locM132 locM133 locM134 locM135 locM136 locM137 locM138 locM139 locM140 locM141 locM142 locM143 locM144 locM145 locM146 locM147 locM148 locM149 locM150 locM151 locM152 locM153 locM154 locM155 locM156 locM157 locM158 locM159 locM160 locM161 locM162 locM163 locM164 locM165 locM166 locM167 locM168 locM169 locM170 locM171 locM172 locM173 locM174 locM175 locM176 locM201
end Go.Proofs.YtccfjidpdlfenaaDoor
