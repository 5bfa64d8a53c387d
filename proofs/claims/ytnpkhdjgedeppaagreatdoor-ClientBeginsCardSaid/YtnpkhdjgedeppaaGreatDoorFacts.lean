import Derived.Test.YtnpkhdjgedeppaaGreatDoorProg
import Derived.Test.YtnpkhdjgedeppaaGreatDoorFc
namespace Go.Proofs.YtnpkhdjgedeppaaGreatDoor
open Go.Am
set_option maxRecDepth 100000
def parM : FuncId → List Nat
  | 85 => [1]
  | 108 => [1]
  | 155 => [1]
  | 165 => [1]
  | 169 => [1]
  | 170 => [1]
  | 171 => [1]
  | 172 => [1]
  | 173 => [1]
  | 174 => [1]
  | 175 => [1]
  | 176 => [1]
  | 186 => [1, 0, 1]
  | 188 => [1]
  | 213 => [1]
  | 227 => [1]
  | 241 => [1]
  | 242 => [1]
  | 257 => [1]
  | _ => []
def resM : FuncId → List Nat
  | 13 => [1]
  | 54 => [1]
  | 55 => [1]
  | 56 => [1]
  | 57 => [1]
  | 59 => [1]
  | 61 => [1]
  | 62 => [1]
  | 85 => [1]
  | 86 => [1]
  | 109 => [1, 1]
  | 119 => [1]
  | 120 => [1]
  | 124 => [1]
  | 135 => [1, 1]
  | 147 => [1]
  | 154 => [1]
  | 188 => [1]
  | 192 => [1]
  | 203 => [1, 1]
  | 217 => [1]
  | 241 => [1]
  | 242 => [1]
  | 243 => [1, 1]
  | 274 => [1]
  | 281 => [1]
  | 284 => [1]
  | 285 => [1]
  | 286 => [1]
  | 289 => [1]
  | _ => []
def locM : FuncId → Nat
  | 3 => 1298074214633706907132349200203776
  | 4 => 5192296858534827628530358881878016
  | 5 => 72057594033729536
  | 6 => 302231454903657025232896
  | 7 => 36893488146882215936
  | 8 => 3987679154364298561059369121588707328
  | 9 => 144115188067465216
  | 10 => 383123508400083696730193447178714151623171820446809856
  | 11 => 131040
  | 12 => 18889465931474285887328
  | 13 => 1152890718281269232
  | 14 => 618969982740194756415447040
  | 15 => 5070602325281122753404129476608
  | 16 => 2080512
  | 17 => 259968
  | 18 => 41538335254187919160857634757672928
  | 19 => 1208925819614629174688704
  | 20 => 8796092956416
  | 21 => 562949684983680
  | 22 => 8184
  | 23 => 648878573016108406821640531337216
  | 24 => 43555810658881167422789590669213559635968
  | 25 => 9223230164958179328
  | 26 => 1237937604315144935838838784
  | 27 => 2080512
  | 28 => 259968
  | 29 => 4722366482869645213652
  | 30 => 38685626225416058890614784
  | 31 => 24495977542185658032684733417564232422615506979471212544
  | 32 => 131040
  | 33 => 2097008
  | 34 => 267911040
  | 35 => 66977664
  | 36 => 8388576
  | 37 => 2097120
  | 38 => 32736
  | 39 => 32736
  | 40 => 33536960
  | 41 => 67107760
  | 42 => 1180591620717411303072
  | 43 => 4397509632000
  | 44 => 39608943026674368053948444672
  | 45 => 4177408
  | 46 => 4396968562624
  | 47 => 30786191097792
  | 48 => 2301339409585338368
  | 49 => 302083880951067617259136
  | 50 => 261040
  | 51 => 129968
  | 52 => 268434352
  | 53 => 18446725929553100768
  | 54 => 232
  | 55 => 232
  | 56 => 232
  | 57 => 16775392
  | 58 => 232
  | 59 => 232
  | 60 => 232
  | 61 => 232
  | 62 => 232
  | 63 => 65528
  | 64 => 133955344
  | 65 => 56
  | 66 => 480
  | 67 => 134182896
  | 68 => 2040
  | 69 => 562881233944320
  | 70 => 649037107279056074959281169891072
  | 71 => 4080
  | 72 => 3145664
  | 73 => 18889465931409794268160
  | 74 => 33536960
  | 75 => 33536960
  | 76 => 33536960
  | 77 => 67091392
  | 78 => 33536960
  | 79 => 11417981541647597918827873148909761135493635584
  | 80 => 33536960
  | 81 => 33536960
  | 82 => 302231454903519854723040
  | 83 => 8176
  | 84 => 457792
  | 85 => 8589868800
  | 86 => 16773120
  | 87 => 4539628424388919296
  | 88 => 65504
  | 89 => 15872
  | 90 => 2040
  | 91 => 240
  | 92 => 144112989052600288
  | 93 => 2251799813684352
  | 94 => 67108848
  | 95 => 131040
  | 96 => 120
  | 97 => 8386048
  | 98 => 7936
  | 99 => 262016
  | 100 => 4177408
  | 101 => 65376
  | 102 => 268433408
  | 103 => 134215664
  | 104 => 9006099717947264
  | 105 => 67108608
  | 106 => 68719410688
  | 107 => 130784
  | 108 => 1073725424
  | 109 => 324518553658426726772160903249920
  | 110 => 67574152064
  | 111 => 31728
  | 112 => 4362862138883968
  | 113 => 2164663254016
  | 114 => 1888
  | 115 => 4951760152529826285066649600
  | 116 => 33028992
  | 117 => 4602608450394781696
  | 118 => 4286574080
  | 119 => 8160
  | 120 => 523264
  | 121 => 1048288
  | 122 => 72056490229234688
  | 123 => 8854436029478528284672
  | 124 => 480
  | 125 => 1069531904
  | 126 => 535821184
  | 127 => 2139092736
  | 128 => 2080343040
  | 129 => 120
  | 130 => 8160
  | 131 => 112
  | 132 => 43680
  | 133 => 1047808
  | 134 => 67276634880
  | 135 => 1984
  | 136 => 1984
  | 137 => 896
  | 138 => 480
  | 139 => 240
  | 140 => 480
  | 141 => 1008
  | 142 => 896
  | 143 => 261568
  | 144 => 523712
  | 145 => 1073739520
  | 146 => 262136
  | 147 => 232
  | 148 => 4088
  | 149 => 4194048
  | 150 => 224
  | 151 => 128896
  | 152 => 785856
  | 153 => 144115050636902368
  | 154 => 120
  | 155 => 590295810358704599040
  | 156 => 16743296
  | 157 => 67106304
  | 158 => 224
  | 159 => 65520
  | 160 => 268173120
  | 161 => 536870144
  | 162 => 16224
  | 163 => 17162550656
  | 164 => 72634050390035251200
  | 165 => 274877857792
  | 166 => 4080
  | 167 => 1784
  | 168 => 9982748476797305406488081063424
  | 169 => 262140
  | 170 => 2342736497358948794336
  | 171 => 8388604
  | 172 => 17592183947184
  | 173 => 16777212
  | 174 => 274877906680
  | 175 => 32764
  | 177 => 4193664
  | 178 => 34359345152
  | 179 => 2269741575705706496
  | 180 => 5316911981901723415436355420689526784
  | 181 => 4194296
  | 182 => 4503565267623680
  | 183 => 536866176
  | 184 => 496
  | 185 => 17171480064
  | 186 => 39614080961984263615267404800
  | 187 => 274877906432
  | 188 => 4397509111552
  | 189 => 496
  | 190 => 2093248
  | 191 => 480
  | 192 => 33554416
  | 193 => 8176
  | 194 => 496
  | 195 => 268435184
  | 196 => 16368
  | 197 => 32752
  | 198 => 16775136
  | 199 => 9006924360055808
  | 200 => 2199023255536
  | 201 => 444288
  | 202 => 8160
  | 203 => 4503565267499008
  | 204 => 1065336832
  | 205 => 4032
  | 206 => 457792
  | 207 => 457792
  | 208 => 480
  | 209 => 65504
  | 210 => 232
  | 211 => 240
  | 212 => 224
  | 213 => 268435392
  | 214 => 65408
  | 215 => 1048032
  | 216 => 2016
  | 217 => 1152921503532580608
  | 218 => 33554424
  | 219 => 4190080
  | 220 => 274877902840
  | 221 => 4064
  | 222 => 24
  | 223 => 70093865746176
  | 224 => 201326528
  | 225 => 56
  | 226 => 480
  | 227 => 262128
  | 228 => 16777088
  | 229 => 9002800134238208
  | 230 => 266321920
  | 231 => 168
  | 232 => 130496
  | 233 => 262016
  | 234 => 785856
  | 235 => 137422143424
  | 237 => 1008
  | 238 => 137422143424
  | 239 => 4503569561550336
  | 240 => 131008
  | 241 => 4294729472
  | 242 => 131040
  | 243 => 32512
  | 244 => 274806996960
  | 245 => 56
  | 246 => 3968
  | 247 => 457792
  | 248 => 457792
  | 249 => 240
  | 250 => 2251799813668864
  | 251 => 261984
  | 252 => 68702633792
  | 253 => 2
  | 254 => 215679573337205118357336120696151728477114015716832964620587687215104
  | 255 => 266207216
  | 256 => 8160
  | 257 => 39614080961984263615267404800
  | 258 => 457792
  | 259 => 2097144
  | 260 => 16777088
  | 261 => 16368
  | 262 => 68215103488
  | 263 => 1073676096
  | 264 => 2
  | 265 => 2595197691317242642214125633929216
  | 266 => 8381312
  | 267 => 992
  | 268 => 504
  | 269 => 65504
  | 270 => 8160
  | 271 => 2
  | 272 => 64960
  | 273 => 274877902336
  | 274 => 67108848
  | 276 => 1008
  | 277 => 268434928
  | 278 => 134152096
  | 279 => 38685626227650541404552192
  | 280 => 480
  | 281 => 16344
  | 282 => 56
  | 283 => 8589704960
  | 284 => 507376
  | 285 => 261984
  | 286 => 70351560080384
  | 287 => 16368
  | 288 => 131008
  | 289 => 232
  | 290 => 130048
  | 291 => 268434928
  | _ => 0
def tabL0 : List Int := [1116352408, 1899447441, 3049323471, 3921009573, 961987163, 1508970993, 2453635748, 2870763221, 3624381080, 310598401, 607225278, 1426881987, 1925078388, 2162078206, 2614888103, 3248222580, 3835390401, 4022224774, 264347078, 604807628, 770255983, 1249150122, 1555081692, 1996064986, 2554220882, 2821834349, 2952996808, 3210313671, 3336571891, 3584528711, 113926993, 338241895, 666307205, 773529912, 1294757372, 1396182291, 1695183700, 1986661051, 2177026350, 2456956037, 2730485921, 2820302411, 3259730800, 3345764771, 3516065817, 3600352804, 4094571909, 275423344, 430227734, 506948616, 659060556, 883997877, 958139571, 1322822218, 1537002063, 1747873779, 1955562222, 2024104815, 2227730452, 2361852424, 2428436474, 2756734187, 3204031479, 3329325298]
def tabs : Tabs := [(0, "carcanet/digest.constants", .u32, tabL0)]
noncomputable def E : Env := ⟨Tryz.prog, gamma tabs⟩
def nlM : FuncId → List (Nat × Nat)
  | 14 => [(18, 2001)]
  | 15 => [(64, 2001)]
  | 20 => [(33, 0)]
  | 21 => [(3, 29)]
  | 24 => [(64, 906), (64, 1004), (70, 906), (70, 1004)]
  | 30 => [(33, 906), (33, 1004)]
  | 31 => [(19, 906), (19, 1004)]
  | 48 => [(5, 20), (55, 906), (55, 1004)]
  | 49 => [(5, 20), (73, 906), (73, 1004)]
  | 85 => [(13, 1), (26, 1)]
  | 92 => [(33, 906), (33, 1004), (49, 906), (49, 1004)]
  | 94 => [(24, 906), (24, 1004)]
  | 102 => [(17, 906), (17, 1004)]
  | 115 => [(77, 2001)]
  | 120 => [(3, 6)]
  | 121 => [(3, 6)]
  | 126 => [(5, 8)]
  | 127 => [(5, 9)]
  | 156 => [(5, 29)]
  | 161 => [(5, 1)]
  | 165 => [(32, 906), (32, 1004)]
  | 168 => [(77, 906), (76, 0)]
  | 170 => [(67, 0)]
  | 171 => [(19, 0)]
  | 178 => [(29, 906), (29, 1004)]
  | 180 => [(8, 20), (71, 906), (70, 0)]
  | 204 => [(5, 8)]
  | _ => []
def inlsM : List (FuncId × Nat) := [(166, 20000), (110, 40000), (69, 60000), (149, 80000), (70, 100000), (71, 120000), (105, 140000), (91, 160000), (90, 180001), (94, 200000), (92, 220000), (93, 240000), (103, 260000), (104, 280000), (236, 300001)]
noncomputable def M : Mds := ⟨parM, resM, locM, nlM, [], inlsM, 0, none⟩
@[go_sem] theorem M_cur : M.cur = [] := Eq.trans rfl rfl
@[go_sem] theorem M_inls : M.inls = [(166, 20000), (110, 40000), (69, 60000), (149, 80000), (70, 100000), (71, 120000), (105, 140000), (91, 160000), (90, 180001), (94, 200000), (92, 220000), (93, 240000), (103, 260000), (104, 280000), (236, 300001)] := Eq.trans rfl rfl
@[go_sem] theorem M_base : M.base = 0 := Eq.trans rfl rfl
@[go_sem] theorem M_gh : M.gh = none := Eq.trans rfl rfl
@[go_sem] theorem nl14 : M.nl 14 = [(18, 2001)] := Eq.trans rfl rfl
@[go_sem] theorem nl15 : M.nl 15 = [(64, 2001)] := Eq.trans rfl rfl
@[go_sem] theorem nl20 : M.nl 20 = [(33, 0)] := Eq.trans rfl rfl
@[go_sem] theorem nl21 : M.nl 21 = [(3, 29)] := Eq.trans rfl rfl
@[go_sem] theorem nl24 : M.nl 24 = [(64, 906), (64, 1004), (70, 906), (70, 1004)] := Eq.trans rfl rfl
@[go_sem] theorem nl30 : M.nl 30 = [(33, 906), (33, 1004)] := Eq.trans rfl rfl
@[go_sem] theorem nl31 : M.nl 31 = [(19, 906), (19, 1004)] := Eq.trans rfl rfl
@[go_sem] theorem nl48 : M.nl 48 = [(5, 20), (55, 906), (55, 1004)] := Eq.trans rfl rfl
@[go_sem] theorem nl49 : M.nl 49 = [(5, 20), (73, 906), (73, 1004)] := Eq.trans rfl rfl
@[go_sem] theorem nl85 : M.nl 85 = [(13, 1), (26, 1)] := Eq.trans rfl rfl
@[go_sem] theorem nl92 : M.nl 92 = [(33, 906), (33, 1004), (49, 906), (49, 1004)] := Eq.trans rfl rfl
@[go_sem] theorem nl94 : M.nl 94 = [(24, 906), (24, 1004)] := Eq.trans rfl rfl
@[go_sem] theorem nl102 : M.nl 102 = [(17, 906), (17, 1004)] := Eq.trans rfl rfl
@[go_sem] theorem nl115 : M.nl 115 = [(77, 2001)] := Eq.trans rfl rfl
@[go_sem] theorem nl120 : M.nl 120 = [(3, 6)] := Eq.trans rfl rfl
@[go_sem] theorem nl121 : M.nl 121 = [(3, 6)] := Eq.trans rfl rfl
@[go_sem] theorem nl126 : M.nl 126 = [(5, 8)] := Eq.trans rfl rfl
@[go_sem] theorem nl127 : M.nl 127 = [(5, 9)] := Eq.trans rfl rfl
@[go_sem] theorem nl156 : M.nl 156 = [(5, 29)] := Eq.trans rfl rfl
@[go_sem] theorem nl161 : M.nl 161 = [(5, 1)] := Eq.trans rfl rfl
@[go_sem] theorem nl165 : M.nl 165 = [(32, 906), (32, 1004)] := Eq.trans rfl rfl
@[go_sem] theorem nl168 : M.nl 168 = [(77, 906), (76, 0)] := Eq.trans rfl rfl
@[go_sem] theorem nl170 : M.nl 170 = [(67, 0)] := Eq.trans rfl rfl
@[go_sem] theorem nl171 : M.nl 171 = [(19, 0)] := Eq.trans rfl rfl
@[go_sem] theorem nl178 : M.nl 178 = [(29, 906), (29, 1004)] := Eq.trans rfl rfl
@[go_sem] theorem nl180 : M.nl 180 = [(8, 20), (71, 906), (70, 0)] := Eq.trans rfl rfl
@[go_sem] theorem nl204 : M.nl 204 = [(5, 8)] := Eq.trans rfl rfl
noncomputable def C0 : Cf := ⟨E, M, fun _ => none⟩
@[go_sem] theorem C0_E : C0.E = E := rfl
@[go_sem] theorem C0_M : C0.M = M := rfl
theorem mixed : E.P.follows .mixedOrders = true := by kernel_rfl
@[go_sem] theorem ev_g0 (f) : ev E.Γ f (.global 0) = .iptr (tabV .u32 tabL0) := rfl
theorem tq3 : Tq E 3 (some 1) (some false) (some [.int .i64 (0)]) false true false (some .i64) true false := .of (by kernel_rfl)
theorem tq4 : Tq E 4 (some 1) (some false) (some [.bool false]) false false true none true false := .of (by kernel_rfl)
theorem tq5 : Tq E 5 (some 1) (some false) (some [.int .u8 (0)]) false true false (some .u8) true false := .of (by kernel_rfl)
theorem tq9 : Tq E 9 (some 1) (some false) (some [.str []]) true false false none true false := .of (by kernel_rfl)
theorem tq22 : Tq E 22 (some 1) (some false) (some [.int .u64 (0)]) false true false (some .u64) true false := .of (by kernel_rfl)
theorem tq24 : Tq E 24 (some 6) (some true) (some [.str [], .int .u64 (0), .int .i64 (0), .int .i64 (0), .int .i64 (0), .str []]) false false false none true false := .of (by kernel_rfl)
theorem uq24 : Uq E 24 none none none false false true none := .of (by kernel_rfl)
theorem tq26 : Tq E 26 (some 2) (some true) (some [.int .i64 (0), .str []]) false false false none true false := .of (by kernel_rfl)
theorem tq27 : Tq E 27 (some 1) (some false) (some [.sc (.slice none 0 0)]) false false false none true false := .of (by kernel_rfl)
theorem uq27 : Uq E 27 (some 8) (some 80) (some [.str [], .int .u64 (0), .int .i64 (0), .int .i64 (0), .int .i64 (0), .str [], .int .i64 (0), .int .i64 (0)]) false false false none := .of (by kernel_rfl)
theorem tq28 : Tq E 28 (some 1) (some false) (some [.sc (.slice none 0 0)]) false false false none true false := .of (by kernel_rfl)
theorem uq28 : Uq E 28 (some 9) (some 88) (some [.int .i64 (0), .str [], .int .u64 (0), .int .i64 (0), .int .i64 (0), .int .i64 (0), .str [], .int .i64 (0), .int .i64 (0)]) false false false none := .of (by kernel_rfl)
theorem tq29 : Tq E 29 (some 1) (some false) (some [.sc (.slice none 0 0)]) false false false none true false := .of (by kernel_rfl)
theorem uq29 : Uq E 29 (some 20) (some 192) (some [.int .u64 (0), .int .u64 (0), .str [], .int .u64 (0), .int .i64 (0), .int .i64 (0), .int .i64 (0), .str [], .int .i64 (0), .int .i64 (0), .str [], .str [], .int .i64 (0), .int .i64 (0), .int .i64 (0), .int .i64 (0), .int .i64 (0), .int .u64 (0), .int .u64 (0), .int .i64 (0)]) false false false none := .of (by kernel_rfl)
theorem tq30 : Tq E 30 (some 1) (some false) (some [.sc (.slice none 0 0)]) false false false none true false := .of (by kernel_rfl)
theorem uq30 : Uq E 30 (some 23) (some 240) (some [.int .i64 (0), .int .i64 (0), .int .i64 (0), .int .i64 (0), .int .i64 (0), .int .u64 (0), .str [], .int .u64 (0), .int .i64 (0), .int .i64 (0), .int .i64 (0), .str [], .int .i64 (0), .int .i64 (0), .int .i64 (0), .int .i64 (0), .int .u64 (0), .bool false, .bool false, .str [], .str [], .sc (.slice none 0 0), .sc (.slice none 0 0)]) false false false none := .of (by kernel_rfl)
theorem tq31 : Tq E 31 (some 1) (some false) (some [.sc (.slice none 0 0)]) false false false none true false := .of (by kernel_rfl)
theorem uq31 : Uq E 31 (some 4) (some 48) (some [.str [], .str [], .int .i64 (0), .bool false]) false false false none := .of (by kernel_rfl)
theorem tq32 : Tq E 32 (some 1) (some false) (some [.sc (.slice none 0 0)]) false false false none true false := .of (by kernel_rfl)
theorem uq32 : Uq E 32 (some 29) (some 312) (some [.int .i64 (0), .int .i64 (0), .int .i64 (0), .int .i64 (0), .int .i64 (0), .int .i64 (0), .str [], .str [], .str [], .int .u64 (0), .int .i64 (0), .int .i64 (0), .int .i64 (0), .str [], .str [], .str [], .int .i64 (0), .bool false, .int .i64 (0), .int .i64 (0), .sc (.slice none 0 0), .str [], .int .u64 (0), .int .i64 (0), .int .i64 (0), .int .i64 (0), .str [], .int .i64 (0), .int .i64 (0)]) false false false none := .of (by kernel_rfl)
theorem tq33 : Tq E 33 (some 1) (some false) (some [.sc (.slice none 0 0)]) false false false none true false := .of (by kernel_rfl)
theorem uq33 : Uq E 33 (some 1) (some 8) (some [.int .u64 (0)]) false false false none := .of (by kernel_rfl)
theorem tq34 : Tq E 34 (some 1) (some false) (some [.sc (.slice none 0 0)]) false false false none true false := .of (by kernel_rfl)
theorem uq34 : Uq E 34 (some 8) (some 72) (some [.int .i64 (0), .int .i64 (0), .int .i64 (0), .str [], .str [], .bool false, .bool false, .int .i64 (0)]) false false false none := .of (by kernel_rfl)
theorem tq36 : Tq E 36 (some 22) (some true) (some [.str [], .int .u64 (0), .int .i64 (0), .int .i64 (0), .int .i64 (0), .str [], .int .i64 (0), .str [], .int .i64 (0), .str [], .bool false, .sc (.slice none 0 0), .sc (.slice none 0 0), .sc (.slice none 0 0), .sc (.slice none 0 0), .sc (.slice none 0 0), .sc (.slice none 0 0), .sc (.slice none 0 0), .int .i64 (0), .int .i64 (0), .sc (.slice none 0 0), .sc (.slice none 0 0)]) false false false none true false := .of (by kernel_rfl)
theorem uq36 : Uq E 36 none none none false false true none := .of (by kernel_rfl)
theorem tq39 : Tq E 39 (some 1) (some false) (some [.int .i64 (0)]) false true false (some .i64) true false := .of (by kernel_rfl)
theorem tq40 : Tq E 40 (some 1) (some false) (some [.sc (.slice none 0 0)]) false false false none true false := .of (by kernel_rfl)
theorem uq40 : Uq E 40 (some 6) (some 64) (some [.str [], .int .u64 (0), .int .i64 (0), .int .i64 (0), .int .i64 (0), .str []]) false false false none := .of (by kernel_rfl)
theorem tq42 : Tq E 42 (some 11) (some true) (some [.int .i64 (0), .int .i64 (0), .int .i64 (0), .int .i64 (0), .int .u64 (0), .bool false, .bool false, .str [], .str [], .sc (.slice none 0 0), .sc (.slice none 0 0)]) false false false none true false := .of (by kernel_rfl)
theorem uq42 : Uq E 42 none none none false false true none := .of (by kernel_rfl)
theorem tq45 : Tq E 45 (some 1) (some false) (some [.sc (.slice none 0 0)]) false false false none true false := .of (by kernel_rfl)
theorem uq45 : Uq E 45 (some 20) (some 216) (some [.bool false, .str [], .int .u64 (0), .int .i64 (0), .int .i64 (0), .int .i64 (0), .str [], .int .i64 (0), .int .i64 (0), .int .i64 (0), .int .i64 (0), .int .u64 (0), .bool false, .bool false, .str [], .str [], .sc (.slice none 0 0), .sc (.slice none 0 0), .int .i64 (0), .int .i64 (0)]) false false false none := .of (by kernel_rfl)
theorem tq69 : Tq E 69 (some 23) (some true) (some [.int .i64 (0), .int .i64 (0), .int .i64 (0), .int .i64 (0), .int .i64 (0), .int .u64 (0), .str [], .int .u64 (0), .int .i64 (0), .int .i64 (0), .int .i64 (0), .str [], .int .i64 (0), .int .i64 (0), .int .i64 (0), .int .i64 (0), .int .u64 (0), .bool false, .bool false, .str [], .str [], .sc (.slice none 0 0), .sc (.slice none 0 0)]) false false false none true false := .of (by kernel_rfl)
theorem tq74 : Tq E 74 (some 8) (some true) (some [.str [], .int .u64 (0), .int .i64 (0), .int .i64 (0), .int .i64 (0), .str [], .int .i64 (0), .int .i64 (0)]) false false false none true false := .of (by kernel_rfl)
theorem tq78 : Tq E 78 (some 20) (some true) (some [.bool false, .str [], .int .u64 (0), .int .i64 (0), .int .i64 (0), .int .i64 (0), .str [], .int .i64 (0), .int .i64 (0), .int .i64 (0), .int .i64 (0), .int .u64 (0), .bool false, .bool false, .str [], .str [], .sc (.slice none 0 0), .sc (.slice none 0 0), .int .i64 (0), .int .i64 (0)]) false false false none true false := .of (by kernel_rfl)
theorem uq78 : Uq E 78 none none none false false true none := .of (by kernel_rfl)
theorem tq86 : Tq E 86 (some 9) (some true) (some [.int .i64 (0), .str [], .int .u64 (0), .int .i64 (0), .int .i64 (0), .int .i64 (0), .str [], .int .i64 (0), .int .i64 (0)]) false false false none true false := .of (by kernel_rfl)
theorem tq88 : Tq E 88 (some 4) (some true) (some [.str [], .str [], .int .i64 (0), .bool false]) false false false none true false := .of (by kernel_rfl)
theorem uq88 : Uq E 88 none none none false false true none := .of (by kernel_rfl)
theorem tq89 : Tq E 89 (some 1) (some false) (some [.sc (.slice none 0 0)]) false false false none true false := .of (by kernel_rfl)
theorem uq89 : Uq E 89 (some 1) (some 16) (some [.str []]) false false false none := .of (by kernel_rfl)
theorem tq91 : Tq E 91 (some 29) (some true) (some [.int .i64 (0), .int .i64 (0), .int .i64 (0), .int .i64 (0), .int .i64 (0), .int .i64 (0), .str [], .str [], .str [], .int .u64 (0), .int .i64 (0), .int .i64 (0), .int .i64 (0), .str [], .str [], .str [], .int .i64 (0), .bool false, .int .i64 (0), .int .i64 (0), .sc (.slice none 0 0), .str [], .int .u64 (0), .int .i64 (0), .int .i64 (0), .int .i64 (0), .str [], .int .i64 (0), .int .i64 (0)]) false false false none true false := .of (by kernel_rfl)
theorem uq91 : Uq E 91 none none none false false true none := .of (by kernel_rfl)
theorem tq93 : Tq E 93 (some 8) (some true) (some [.int .i64 (0), .int .i64 (0), .int .i64 (0), .str [], .str [], .bool false, .bool false, .int .i64 (0)]) false false false none true false := .of (by kernel_rfl)
theorem uq93 : Uq E 93 none none none false false true none := .of (by kernel_rfl)
theorem tq101 : Tq E 101 (some 20) (some true) (some [.int .u64 (0), .int .u64 (0), .str [], .int .u64 (0), .int .i64 (0), .int .i64 (0), .int .i64 (0), .str [], .int .i64 (0), .int .i64 (0), .str [], .str [], .int .i64 (0), .int .i64 (0), .int .i64 (0), .int .i64 (0), .int .i64 (0), .int .u64 (0), .int .u64 (0), .int .i64 (0)]) false false false none true false := .of (by kernel_rfl)
theorem tq111 : Tq E 111 (some 1) (some false) (some [.sc (.pointer none)]) false false false none true false := .of (by kernel_rfl)
theorem tq129 : Tq E 129 (some 1) (some false) (some [.sc (.pointer none)]) false false false none true false := .of (by kernel_rfl)
theorem tq130 : Tq E 130 (some 1) (some false) (some [.sc .nilFunc]) false false false none true false := .of (by kernel_rfl)
theorem tq132 : Tq E 132 (some 25) (some true) (some [.str [], .int .u64 (0), .int .i64 (0), .int .i64 (0), .int .i64 (0), .str [], .int .i64 (0), .str [], .int .i64 (0), .str [], .bool false, .sc (.slice none 0 0), .sc (.slice none 0 0), .sc (.slice none 0 0), .sc (.slice none 0 0), .sc (.slice none 0 0), .sc (.slice none 0 0), .sc (.slice none 0 0), .int .i64 (0), .int .i64 (0), .sc (.slice none 0 0), .sc (.slice none 0 0), .sc (.pointer none), .sc (.slice none 0 0), .sc .nilFunc]) false false false none true false := .of (by kernel_rfl)
theorem uq132 : Uq E 132 none none none false false true none := .of (by kernel_rfl)
theorem tq188 : Tq E 188 (some 23) (some true) (some [.str [], .int .u64 (0), .int .i64 (0), .int .i64 (0), .int .i64 (0), .str [], .int .i64 (0), .str [], .int .i64 (0), .str [], .bool false, .sc (.slice none 0 0), .sc (.slice none 0 0), .sc (.slice none 0 0), .sc (.slice none 0 0), .sc (.slice none 0 0), .sc (.slice none 0 0), .sc (.slice none 0 0), .int .i64 (0), .int .i64 (0), .sc (.slice none 0 0), .sc (.slice none 0 0), .sc (.slice none 0 0)]) false false false none true false := .of (by kernel_rfl)
theorem uq188 : Uq E 188 none none none false false true none := .of (by kernel_rfl)
theorem tq194 : Tq E 194 (some 1) (some false) (some [.sc (.slice none 0 0)]) false false false none true false := .of (by kernel_rfl)
theorem uq194 : Uq E 194 (some 1) (some 1) (some [.int .u8 (0)]) true false false none := .of (by kernel_rfl)
theorem tq231 : Tq E 231 (some 1) (some false) (some [.int .u32 (0)]) false true false (some .u32) true false := .of (by kernel_rfl)
theorem tq239 : Tq E 239 (some 1) (some false) (some [.int .u64 (0)]) false true false (some .u64) true false := .of (by kernel_rfl)
theorem tq251 : Tq E 251 (some 1) (some false) (some [.sc (.slice none 0 0)]) false false false none true false := .of (by kernel_rfl)
theorem uq251 : Uq E 251 (some 1) (some 4) (some [.int .u32 (0)]) false false false none := .of (by kernel_rfl)
theorem tq257 : Tq E 257 (some 8) (some true) (some [.int .u32 (0), .int .u32 (0), .int .u32 (0), .int .u32 (0), .int .u32 (0), .int .u32 (0), .int .u32 (0), .int .u32 (0)]) false false false none true false := .of (by kernel_rfl)
theorem uq257 : Uq E 257 none none none false false true (some (8, 1, false)) := .of (by kernel_rfl)
theorem tq260 : Tq E 260 (some 64) (some true) (some [.int .u8 (0), .int .u8 (0), .int .u8 (0), .int .u8 (0), .int .u8 (0), .int .u8 (0), .int .u8 (0), .int .u8 (0), .int .u8 (0), .int .u8 (0), .int .u8 (0), .int .u8 (0), .int .u8 (0), .int .u8 (0), .int .u8 (0), .int .u8 (0), .int .u8 (0), .int .u8 (0), .int .u8 (0), .int .u8 (0), .int .u8 (0), .int .u8 (0), .int .u8 (0), .int .u8 (0), .int .u8 (0), .int .u8 (0), .int .u8 (0), .int .u8 (0), .int .u8 (0), .int .u8 (0), .int .u8 (0), .int .u8 (0), .int .u8 (0), .int .u8 (0), .int .u8 (0), .int .u8 (0), .int .u8 (0), .int .u8 (0), .int .u8 (0), .int .u8 (0), .int .u8 (0), .int .u8 (0), .int .u8 (0), .int .u8 (0), .int .u8 (0), .int .u8 (0), .int .u8 (0), .int .u8 (0), .int .u8 (0), .int .u8 (0), .int .u8 (0), .int .u8 (0), .int .u8 (0), .int .u8 (0), .int .u8 (0), .int .u8 (0), .int .u8 (0), .int .u8 (0), .int .u8 (0), .int .u8 (0), .int .u8 (0), .int .u8 (0), .int .u8 (0), .int .u8 (0)]) false false false none true false := .of (by kernel_rfl)
theorem uq260 : Uq E 260 none none none false false true (some (64, 1, false)) := .of (by kernel_rfl)
theorem uq261 : Uq E 261 (some 1) (some 24) (some [.sc (.slice none 0 0)]) false false false none := .of (by kernel_rfl)
theorem tq270 : Tq E 270 (some 64) (some true) (some [.int .u32 (0), .int .u32 (0), .int .u32 (0), .int .u32 (0), .int .u32 (0), .int .u32 (0), .int .u32 (0), .int .u32 (0), .int .u32 (0), .int .u32 (0), .int .u32 (0), .int .u32 (0), .int .u32 (0), .int .u32 (0), .int .u32 (0), .int .u32 (0), .int .u32 (0), .int .u32 (0), .int .u32 (0), .int .u32 (0), .int .u32 (0), .int .u32 (0), .int .u32 (0), .int .u32 (0), .int .u32 (0), .int .u32 (0), .int .u32 (0), .int .u32 (0), .int .u32 (0), .int .u32 (0), .int .u32 (0), .int .u32 (0), .int .u32 (0), .int .u32 (0), .int .u32 (0), .int .u32 (0), .int .u32 (0), .int .u32 (0), .int .u32 (0), .int .u32 (0), .int .u32 (0), .int .u32 (0), .int .u32 (0), .int .u32 (0), .int .u32 (0), .int .u32 (0), .int .u32 (0), .int .u32 (0), .int .u32 (0), .int .u32 (0), .int .u32 (0), .int .u32 (0), .int .u32 (0), .int .u32 (0), .int .u32 (0), .int .u32 (0), .int .u32 (0), .int .u32 (0), .int .u32 (0), .int .u32 (0), .int .u32 (0), .int .u32 (0), .int .u32 (0), .int .u32 (0)]) false false false none true false := .of (by kernel_rfl)
theorem uq270 : Uq E 270 none none none false false true (some (64, 1, false)) := .of (by kernel_rfl)
theorem fl24 : E.P.fldO 24 0 = some (0, 1, false) ∧ E.P.fldO 24 1 = some (1, 1, false) ∧ E.P.fldO 24 2 = some (2, 1, false) ∧ E.P.fldO 24 3 = some (3, 1, false) ∧ E.P.fldO 24 4 = some (4, 1, false) ∧ E.P.fldO 24 5 = some (5, 1, false) := by and_intros <;> kernel_rfl
theorem fl26 : E.P.fldO 26 0 = some (0, 1, false) ∧ E.P.fldO 26 1 = some (1, 1, false) := by and_intros <;> kernel_rfl
theorem fl36 : E.P.fldO 36 0 = some (0, 6, true) ∧ E.P.fldO 36 1 = some (6, 1, false) ∧ E.P.fldO 36 2 = some (7, 1, false) ∧ E.P.fldO 36 3 = some (8, 2, true) ∧ E.P.fldO 36 4 = some (10, 1, false) ∧ E.P.fldO 36 5 = some (11, 1, false) ∧ E.P.fldO 36 6 = some (12, 1, false) ∧ E.P.fldO 36 7 = some (13, 1, false) ∧ E.P.fldO 36 8 = some (14, 1, false) ∧ E.P.fldO 36 9 = some (15, 1, false) ∧ E.P.fldO 36 10 = some (16, 1, false) ∧ E.P.fldO 36 11 = some (17, 1, false) ∧ E.P.fldO 36 12 = some (18, 1, false) ∧ E.P.fldO 36 13 = some (19, 1, false) ∧ E.P.fldO 36 14 = some (20, 1, false) ∧ E.P.fldO 36 15 = some (21, 1, false) := by and_intros <;> kernel_rfl
theorem fl42 : E.P.fldO 42 0 = some (0, 1, false) ∧ E.P.fldO 42 1 = some (1, 1, false) ∧ E.P.fldO 42 2 = some (2, 1, false) ∧ E.P.fldO 42 3 = some (3, 1, false) ∧ E.P.fldO 42 4 = some (4, 1, false) ∧ E.P.fldO 42 5 = some (5, 1, false) ∧ E.P.fldO 42 6 = some (6, 1, false) ∧ E.P.fldO 42 7 = some (7, 1, false) ∧ E.P.fldO 42 8 = some (8, 1, false) ∧ E.P.fldO 42 9 = some (9, 1, false) ∧ E.P.fldO 42 10 = some (10, 1, false) := by and_intros <;> kernel_rfl
theorem fl69 : E.P.fldO 69 0 = some (0, 1, false) ∧ E.P.fldO 69 1 = some (1, 1, false) ∧ E.P.fldO 69 2 = some (2, 1, false) ∧ E.P.fldO 69 3 = some (3, 1, false) ∧ E.P.fldO 69 4 = some (4, 1, false) ∧ E.P.fldO 69 5 = some (5, 1, false) ∧ E.P.fldO 69 6 = some (6, 6, true) ∧ E.P.fldO 69 7 = some (12, 11, true) := by and_intros <;> kernel_rfl
theorem fl74 : E.P.fldO 74 0 = some (0, 6, true) := by kernel_rfl
theorem fl78 : E.P.fldO 78 0 = some (0, 1, false) ∧ E.P.fldO 78 1 = some (1, 6, true) ∧ E.P.fldO 78 2 = some (7, 11, true) ∧ E.P.fldO 78 3 = some (18, 1, false) ∧ E.P.fldO 78 4 = some (19, 1, false) := by and_intros <;> kernel_rfl
theorem fl86 : E.P.fldO 86 1 = some (1, 8, true) := by kernel_rfl
theorem fl88 : E.P.fldO 88 0 = some (0, 1, false) ∧ E.P.fldO 88 1 = some (1, 1, false) ∧ E.P.fldO 88 2 = some (2, 1, false) ∧ E.P.fldO 88 3 = some (3, 1, false) := by and_intros <;> kernel_rfl
theorem fl91 : E.P.fldO 91 0 = some (0, 1, false) ∧ E.P.fldO 91 1 = some (1, 1, false) ∧ E.P.fldO 91 2 = some (2, 1, false) ∧ E.P.fldO 91 3 = some (3, 1, false) ∧ E.P.fldO 91 4 = some (4, 1, false) ∧ E.P.fldO 91 5 = some (5, 1, false) ∧ E.P.fldO 91 6 = some (6, 1, false) ∧ E.P.fldO 91 7 = some (7, 1, false) ∧ E.P.fldO 91 8 = some (8, 6, true) ∧ E.P.fldO 91 9 = some (14, 4, true) ∧ E.P.fldO 91 10 = some (18, 1, false) ∧ E.P.fldO 91 11 = some (19, 1, false) ∧ E.P.fldO 91 12 = some (20, 1, false) ∧ E.P.fldO 91 13 = some (21, 6, true) ∧ E.P.fldO 91 14 = some (27, 1, false) ∧ E.P.fldO 91 15 = some (28, 1, false) := by and_intros <;> kernel_rfl
theorem fl93 : E.P.fldO 93 1 = some (1, 1, false) ∧ E.P.fldO 93 2 = some (2, 1, false) ∧ E.P.fldO 93 3 = some (3, 1, false) ∧ E.P.fldO 93 4 = some (4, 1, false) ∧ E.P.fldO 93 5 = some (5, 1, false) ∧ E.P.fldO 93 7 = some (7, 1, false) := by and_intros <;> kernel_rfl
theorem fl101 : E.P.fldO 101 2 = some (2, 6, true) ∧ E.P.fldO 101 5 = some (10, 1, false) ∧ E.P.fldO 101 6 = some (11, 1, false) := by and_intros <;> kernel_rfl
theorem fl132 : E.P.fldO 132 0 = some (0, 22, true) ∧ E.P.fldO 132 1 = some (22, 1, false) ∧ E.P.fldO 132 2 = some (23, 1, false) ∧ E.P.fldO 132 3 = some (24, 1, false) := by and_intros <;> kernel_rfl
theorem fl188 : E.P.fldO 188 0 = some (0, 22, true) ∧ E.P.fldO 188 1 = some (22, 1, false) := by and_intros <;> kernel_rfl
theorem pl36 : E.P.places 36 0 = some (0, 6) ∧ E.P.places 36 1 = some (6, 1) ∧ E.P.places 36 3 = some (8, 2) ∧ E.P.places 36 4 = some (10, 1) ∧ E.P.places 36 11 = some (17, 1) ∧ E.P.places 36 15 = some (21, 1) := by and_intros <;> kernel_rfl
theorem pl42 : E.P.places 42 0 = some (0, 1) ∧ E.P.places 42 1 = some (1, 1) ∧ E.P.places 42 2 = some (2, 1) ∧ E.P.places 42 3 = some (3, 1) ∧ E.P.places 42 4 = some (4, 1) ∧ E.P.places 42 6 = some (6, 1) ∧ E.P.places 42 7 = some (7, 1) ∧ E.P.places 42 8 = some (8, 1) ∧ E.P.places 42 9 = some (9, 1) ∧ E.P.places 42 10 = some (10, 1) := by and_intros <;> kernel_rfl
theorem pl78 : E.P.places 78 0 = some (0, 1) ∧ E.P.places 78 1 = some (1, 6) ∧ E.P.places 78 2 = some (7, 11) ∧ E.P.places 78 3 = some (18, 1) ∧ E.P.places 78 4 = some (19, 1) := by and_intros <;> kernel_rfl
theorem pl88 : E.P.places 88 0 = some (0, 1) ∧ E.P.places 88 1 = some (1, 1) ∧ E.P.places 88 2 = some (2, 1) ∧ E.P.places 88 3 = some (3, 1) := by and_intros <;> kernel_rfl
theorem pl91 : E.P.places 91 0 = some (0, 1) ∧ E.P.places 91 1 = some (1, 1) ∧ E.P.places 91 5 = some (5, 1) ∧ E.P.places 91 6 = some (6, 1) ∧ E.P.places 91 9 = some (14, 4) ∧ E.P.places 91 13 = some (21, 6) ∧ E.P.places 91 14 = some (27, 1) ∧ E.P.places 91 15 = some (28, 1) := by and_intros <;> kernel_rfl
theorem pl93 : E.P.places 93 0 = some (0, 1) ∧ E.P.places 93 1 = some (1, 1) ∧ E.P.places 93 2 = some (2, 1) ∧ E.P.places 93 3 = some (3, 1) ∧ E.P.places 93 4 = some (4, 1) ∧ E.P.places 93 5 = some (5, 1) ∧ E.P.places 93 6 = some (6, 1) ∧ E.P.places 93 7 = some (7, 1) := by and_intros <;> kernel_rfl
theorem pl132 : E.P.places 132 0 = some (0, 22) := by kernel_rfl
theorem pl188 : E.P.places 188 0 = some (0, 22) := by kernel_rfl
theorem pl257 : E.P.places 257 0 = some (0, 1) ∧ E.P.places 257 1 = some (1, 1) ∧ E.P.places 257 2 = some (2, 1) ∧ E.P.places 257 3 = some (3, 1) ∧ E.P.places 257 4 = some (4, 1) ∧ E.P.places 257 5 = some (5, 1) ∧ E.P.places 257 6 = some (6, 1) ∧ E.P.places 257 7 = some (7, 1) := by and_intros <;> kernel_rfl
theorem fq3 : Fq E M 3 1298074214633706907132349200203776 [] [] [[0, 0, 0, 0, 0, 0, 0, 0, 0, 0, 0, 9, 9, 10, 21, 24, 5, 30, 0, 0, 2, 9], [0], [0], [0], [0]] [[0]] := .of (by kernel_rfl)
theorem fq10 : Fq E M 10 383123508400083696730193447178714151623171820446809856 [] [] [[0, 0, 0, 0, 0, 0, 0, 0, 0, 0, 0, 9, 9, 10, 21, 24, 5, 30, 0, 0, 2, 9]] [[0]] := .of (by kernel_rfl)
theorem fq11 : Fq E M 11 131040 [] [] [[0, 0, 0, 0, 0, 0, 0, 0, 0, 0, 0, 9, 9, 10, 21, 24, 5, 30, 0, 0, 2, 9], [0, 0, 0, 0, 0, 0, 0, 0, 0, 7, 5]] [[0]] := .of (by kernel_rfl)
theorem fq12 : Fq E M 12 18889465931474285887328 [] [] [] [[0]] := .of (by kernel_rfl)
theorem fq13 : Fq E M 13 1152890718281269232 [] [1] [[0, 0, 0, 0, 0, 0, 0, 0, 0, 0, 0, 9, 9, 10, 21, 24, 5, 30, 0, 0, 2, 9]] [[0, 0, 0, 0, 0, 0, 0, 0, 0, 0, 0, 9, 9, 10, 21, 24, 5, 30, 0, 0, 2, 9]] := .of (by kernel_rfl)
theorem fq14 : Fq E M 14 618969982740194756415447040 [] [] [[0, 0, 0, 0, 0, 0, 0, 0, 0, 0, 0, 9, 9, 10, 21, 24, 5, 30, 0, 0, 2, 9], [0], [0], [0]] [[0, 0, 0, 0, 0, 0, 0, 0, 0, 0, 0, 9, 9, 10, 21, 24, 5, 30, 0, 0, 2, 9], [21], [0]] := .of (by kernel_rfl)
theorem fq15 : Fq E M 15 5070602325281122753404129476608 [] [] [[0, 0, 0, 0, 0, 0, 0, 0, 0, 0, 0, 9, 9, 10, 21, 24, 5, 30, 0, 0, 2, 9], [0], [0], [0]] [[0, 0, 0, 0, 0, 0, 0, 0, 0, 0, 0, 9, 9, 10, 21, 24, 5, 30, 0, 0, 2, 9], [21], [0]] := .of (by kernel_rfl)
theorem fq16 : Fq E M 16 2080512 [] [] [[0, 0, 0, 0, 0, 0, 0, 0, 0, 0, 0, 9, 9, 10, 21, 24, 5, 30, 0, 0, 2, 9], [0]] [[0, 0, 0, 0, 0, 0, 0, 0, 0, 0, 0, 9, 9, 10, 21, 24, 5, 30, 0, 0, 2, 9], [21]] := .of (by kernel_rfl)
theorem fq17 : Fq E M 17 259968 [] [] [[0, 0, 0, 0, 0, 0, 0, 0, 0, 0, 0, 9, 9, 10, 21, 24, 5, 30, 0, 0, 2, 9], [0]] [[0, 0, 0, 0, 0, 0, 0, 0, 0, 0, 0, 9, 9, 10, 21, 24, 5, 30, 0, 0, 2, 9], [21]] := .of (by kernel_rfl)
theorem fq18 : Fq E M 18 41538335254187919160857634757672928 [] [] [[0, 0, 0, 0, 0, 0, 0, 0, 0, 0, 0, 9, 9, 10, 21, 24, 5, 30, 0, 0, 2, 9], [0, 0, 0, 0, 0, 0, 0, 0, 0, 0, 0, 9, 9, 10, 21, 24, 5, 30, 0, 0, 2, 9]] [[0]] := .of (by kernel_rfl)
theorem fq19 : Fq E M 19 1208925819614629174688704 [] [] [[21], [21]] [[0]] := .of (by kernel_rfl)
theorem fq20 : Fq E M 20 8796092956416 [] [] [[0, 0, 0, 0, 0, 0, 0, 0, 0, 0, 0, 9, 9, 10, 21, 24, 5, 30, 0, 0, 2, 9]] [[0, 0, 0, 0, 0, 0, 0, 0, 0, 0, 0, 9, 9, 10, 21, 24, 5, 30, 0, 0, 2, 9]] := .of (by kernel_rfl)
theorem fq21 : Fq E M 21 562949684983680 [] [] [[0, 0, 0, 0, 0, 0, 0, 0, 0, 0, 0, 9, 9, 10, 21, 24, 5, 30, 0, 0, 2, 9]] [[0, 0, 0, 0, 0, 0, 0, 0, 0, 0, 0, 9, 9, 10, 21, 24, 5, 30, 0, 0, 2, 9]] := .of (by kernel_rfl)
theorem fq22 : Fq E M 22 8184 [] [] [[0, 0, 0, 0, 0, 0]] [[0]] := .of (by kernel_rfl)
theorem fq40 : Fq E M 40 33536960 [] [] [[7], [7]] [[0]] := .of (by kernel_rfl)
theorem fq41 : Fq E M 41 67107760 [] [] [[24]] [[0]] := .of (by kernel_rfl)
theorem fq50 : Fq E M 50 261040 [] [] [[9]] [[0]] := .of (by kernel_rfl)
theorem fq51 : Fq E M 51 129968 [] [] [[21]] [[0]] := .of (by kernel_rfl)
theorem fq52 : Fq E M 52 268434352 [] [] [[5]] [[0]] := .of (by kernel_rfl)
theorem fq53 : Fq E M 53 18446725929553100768 [] [] [[0, 0, 0, 0, 0, 0, 0, 0, 0, 7, 5]] [[0]] := .of (by kernel_rfl)
theorem fq54 : Fq E M 54 232 [] [1] [[9]] [[9]] := .of (by kernel_rfl)
theorem fq55 : Fq E M 55 232 [] [1] [[10]] [[10]] := .of (by kernel_rfl)
theorem fq56 : Fq E M 56 232 [] [1] [[21]] [[21]] := .of (by kernel_rfl)
theorem fq57 : Fq E M 57 16775392 [] [1] [[24]] [[24]] := .of (by kernel_rfl)
theorem fq58 : Fq E M 58 232 [] [] [[5]] [[5]] := .of (by kernel_rfl)
theorem fq59 : Fq E M 59 232 [] [1] [[30]] [[30]] := .of (by kernel_rfl)
theorem fq60 : Fq E M 60 232 [] [] [[2]] [[2]] := .of (by kernel_rfl)
theorem fq61 : Fq E M 61 232 [] [1] [[9]] [[9]] := .of (by kernel_rfl)
theorem fq62 : Fq E M 62 232 [] [1] [[2]] [[2]] := .of (by kernel_rfl)
theorem fq63 : Fq E M 63 65528 [] [] [[0, 0, 0, 0, 0, 0, 0, 0, 0, 0, 0, 0, 0, 0, 0, 0, 0, 0, 0, 0, 2, 0, 0, 0, 0, 0, 0, 0, 0]] [[0]] := .of (by kernel_rfl)
theorem fq64 : Fq E M 64 133955344 [] [] [[0]] [[0]] := .of (by kernel_rfl)
theorem fq65 : Fq E M 65 56 [] [] [[0]] [[0]] := .of (by kernel_rfl)
theorem fq66 : Fq E M 66 480 [] [] [[30], [0]] [[0]] := .of (by kernel_rfl)
theorem fq67 : Fq E M 67 134182896 [] [] [[0]] [[0]] := .of (by kernel_rfl)
theorem fq68 : Fq E M 68 2040 [] [] [[0, 0, 0, 0, 0, 0, 0, 0, 0, 0, 0, 0, 0, 0, 0, 0, 0, 0, 0, 0, 2, 0, 0, 0, 0, 0, 0, 0, 0]] [[0]] := .of (by kernel_rfl)
theorem fq69 : Fq E M 69 562881233944320 [] [] [[0, 0, 0, 0, 0, 0, 0, 0, 0, 0, 0, 9, 9, 10, 21, 24, 5, 30, 0, 0, 2, 9], [0]] [[0], [0]] := .of (by kernel_rfl)
theorem fq70 : Fq E M 70 649037107279056074959281169891072 [] [] [[0]] [] := .of (by kernel_rfl)
theorem fq71 : Fq E M 71 4080 [] [] [[0]] [[0, 0, 0, 0, 0, 0, 0, 0, 0, 0, 0, 9, 9, 10, 21, 24, 5, 30, 0, 0, 2, 9], [21]] := .of (by kernel_rfl)
theorem fq72 : Fq E M 72 3145664 [] [] [[0, 0, 0, 0, 0, 0, 0, 0, 0, 0, 0, 9, 9, 10, 21, 24, 5, 30, 0, 0, 2, 9], [0]] [[0]] := .of (by kernel_rfl)
theorem fq73 : Fq E M 73 18889465931409794268160 [] [] [[0, 0, 0, 0, 0, 0, 0, 0, 0, 0, 0, 9, 9, 10, 21, 24, 5, 30, 0, 0, 2, 9], [0]] [[0, 0, 0, 0, 0, 0, 0, 0, 0, 0, 0, 9, 9, 10, 21, 24, 5, 30, 0, 0, 2, 9], [21]] := .of (by kernel_rfl)
theorem fq74 : Fq E M 74 33536960 [] [] [[9], [9]] [[0]] := .of (by kernel_rfl)
theorem fq75 : Fq E M 75 33536960 [] [] [[10], [10]] [[0]] := .of (by kernel_rfl)
theorem fq76 : Fq E M 76 33536960 [] [] [[21], [21]] [[0]] := .of (by kernel_rfl)
theorem fq77 : Fq E M 77 67091392 [] [] [[24], [24]] [[0]] := .of (by kernel_rfl)
theorem fq78 : Fq E M 78 33536960 [] [] [[5], [5]] [[0]] := .of (by kernel_rfl)
theorem fq79 : Fq E M 79 11417981541647597918827873148909761135493635584 [] [] [[30], [30]] [[0]] := .of (by kernel_rfl)
theorem fq80 : Fq E M 80 33536960 [] [] [[2], [2]] [[0]] := .of (by kernel_rfl)
theorem fq81 : Fq E M 81 33536960 [] [] [[9], [9]] [[0]] := .of (by kernel_rfl)
theorem fq82 : Fq E M 82 302231454903519854723040 [] [] [[0, 0, 0, 0, 0, 0, 0, 0, 0, 7, 5], [0, 0, 0, 0, 0, 0, 0, 0, 0, 7, 5]] [[0]] := .of (by kernel_rfl)
theorem fq83 : Fq E M 83 8176 [] [] [[0, 0, 0, 0, 0, 0, 0, 0, 0, 0, 0, 0, 0, 0, 0, 0, 0, 0, 0, 0, 2, 0, 0, 0, 0, 0, 0, 0, 0]] [[0]] := .of (by kernel_rfl)
theorem fq84 : Fq E M 84 457792 [] [] [[30], [0]] [[0]] := .of (by kernel_rfl)
theorem fq85 : Fq E M 85 8589868800 [1] [1] [[30], [0], [0]] [[30]] := .of (by kernel_rfl)
theorem fq86 : Fq E M 86 16773120 [] [1] [[0, 0, 0, 0, 0, 0, 0, 0, 0, 0, 0, 9, 9, 10, 21, 24, 5, 30, 0, 0, 2, 9], [0], [0, 0, 0, 0], [0], [0]] [[0, 0, 0, 0, 0, 0, 0, 0, 0, 0, 0, 9, 9, 10, 21, 24, 5, 30, 0, 0, 2, 9]] := .of (by kernel_rfl)
theorem fq87 : Fq E M 87 4539628424388919296 [] [] [[0, 0, 0, 0, 0, 0, 0, 0, 0, 0, 0, 9, 9, 10, 21, 24, 5, 30, 0, 0, 2, 9], [0], [0, 0, 0, 0], [0], [0]] [[0, 0, 0, 0, 0, 0, 0, 0, 0, 0, 0, 9, 9, 10, 21, 24, 5, 30, 0, 0, 2, 9]] := .of (by kernel_rfl)
theorem fq90 : Fq E M 90 2040 [] [] [[0]] [[0]] := .of (by kernel_rfl)
theorem fq94 : Fq E M 94 67108848 [] [] [[0], [0, 0, 0, 0, 0, 0]] [] := .of (by kernel_rfl)
theorem fq96 : Fq E M 96 120 [] [] [[0]] [[0]] := .of (by kernel_rfl)
theorem fq99 : Fq E M 99 262016 [] [] [[0, 0, 0, 0, 0, 0, 0, 0, 0, 0, 0, 9, 9, 10, 21, 24, 5, 30, 0, 0, 2, 9], [0], [0, 0, 0, 0, 0, 0, 0, 0, 0, 0, 0, 0, 0, 0, 0, 0, 0, 0, 0, 0, 2, 0, 0, 0, 0, 0, 0, 0, 0]] [[0, 0, 0, 0, 0, 0, 0, 0, 0, 0, 0, 9, 9, 10, 21, 24, 5, 30, 0, 0, 2, 9]] := .of (by kernel_rfl)
theorem fq101 : Fq E M 101 65376 [] [] [[0], [0]] [[0]] := .of (by kernel_rfl)
theorem fq102 : Fq E M 102 268433408 [] [] [[0, 0, 0, 0, 0, 0, 0, 0, 0, 0, 0, 9, 9, 10, 21, 24, 5, 30, 0, 0, 2, 9], [0], [0, 0, 0, 0, 0, 0, 0, 0, 0, 0, 0, 0, 0, 0, 0, 0, 0, 0, 0, 0, 2, 0, 0, 0, 0, 0, 0, 0, 0], [0, 0, 0, 0, 0, 0]] [[0, 0, 0, 0, 0, 0, 0, 0, 0, 0, 0, 9, 9, 10, 21, 24, 5, 30, 0, 0, 2, 9], [21]] := .of (by kernel_rfl)
theorem fq105 : Fq E M 105 67108608 [] [] [[0], [0, 0, 0, 0], [0], [0]] [] := .of (by kernel_rfl)
theorem fq109 : Fq E M 109 324518553658426726772160903249920 [] [1, 1] [[0, 0, 0, 0, 0, 0, 0, 0, 0, 0, 0, 9, 9, 10, 21, 24, 5, 30, 0, 0, 2, 9], [0], [0], [0], [0, 0, 0, 0, 0, 0], [0], [0]] [[0, 0, 0, 0, 0, 0, 0, 0, 0, 0, 0, 9, 9, 10, 21, 24, 5, 30, 0, 0, 2, 9], [21]] := .of (by kernel_rfl)
theorem fq113 : Fq E M 113 2164663254016 [] [] [[0, 0, 0, 0, 0, 0], [9], [0]] [[0, 0, 0, 0, 0, 0]] := .of (by kernel_rfl)
theorem fq115 : Fq E M 115 4951760152529826285066649600 [] [] [[0, 0, 0, 0, 0, 0, 0, 0, 0, 0, 0, 9, 9, 10, 21, 24, 5, 30, 0, 0, 2, 9], [0], [0], [0], [0, 0, 0, 0, 0, 0], [0], [0]] [[0, 0, 0, 0, 0, 0, 0, 0, 0, 0, 0, 9, 9, 10, 21, 24, 5, 30, 0, 0, 2, 9], [21]] := .of (by kernel_rfl)
theorem fq116 : Fq E M 116 33028992 [] [] [[5], [0]] [[0, 0, 0, 0], [0]] := .of (by kernel_rfl)
theorem fq121 : Fq E M 121 1048288 [] [] [[9]] [[7]] := .of (by kernel_rfl)
theorem fq128 : Fq E M 128 2080343040 [] [] [[0, 0, 0, 0, 0, 0], [9], [0]] [[0, 0, 0, 0, 0, 0]] := .of (by kernel_rfl)
theorem fq129 : Fq E M 129 120 [] [] [[0]] [[0]] := .of (by kernel_rfl)
theorem fq146 : Fq E M 146 262136 [] [] [[0, 0, 0, 0, 0, 0, 0, 0, 0, 0, 0, 0, 0, 0, 0, 0, 0, 0, 0, 0]] [[0]] := .of (by kernel_rfl)
theorem fq147 : Fq E M 147 232 [] [1] [[24]] [[24]] := .of (by kernel_rfl)
theorem fq148 : Fq E M 148 4088 [] [] [[0, 0, 0, 0, 0, 0, 0, 0, 0, 7, 5]] [[0, 0, 0, 0, 0, 0, 0, 0, 0, 7, 5]] := .of (by kernel_rfl)
theorem fq149 : Fq E M 149 4194048 [] [] [[0, 0, 0, 0, 0, 0], [0, 0, 0, 0, 0, 0, 0, 0, 0, 7, 5], [0]] [] := .of (by kernel_rfl)
theorem fq150 : Fq E M 150 224 [] [] [[30], [0]] [[0]] := .of (by kernel_rfl)
theorem fq151 : Fq E M 151 128896 [] [] [[5], [0]] [[0, 0, 0, 0], [0]] := .of (by kernel_rfl)
theorem fq152 : Fq E M 152 785856 [] [] [[30], [0]] [[0]] := .of (by kernel_rfl)
theorem fq153 : Fq E M 153 144115050636902368 [] [] [[0, 0, 0, 0, 0, 0, 0, 0, 0, 0, 0, 0, 0, 0, 0, 0, 0, 0, 0, 0, 0, 7, 5], [0, 0, 0, 0, 0, 0, 0, 0, 0, 0, 0, 0, 0, 0, 0, 0, 0, 0, 0, 0, 0, 7, 5]] [[0]] := .of (by kernel_rfl)
theorem fq154 : Fq E M 154 120 [] [1] [[0, 0, 0, 0, 0, 0, 0, 0, 0, 0, 0, 9, 9, 10, 21, 24, 5, 30, 0, 0, 2, 9]] [[0]] := .of (by kernel_rfl)
theorem fq155 : Fq E M 155 590295810358704599040 [1] [] [[0], [0], [0, 0, 0, 0], [0], [0]] [] := .of (by kernel_rfl)
theorem fq156 : Fq E M 156 16743296 [] [] [[30], [0]] [[30]] := .of (by kernel_rfl)
theorem fq158 : Fq E M 158 224 [] [] [[0], [0]] [[0]] := .of (by kernel_rfl)
theorem fq159 : Fq E M 159 65520 [] [] [[2]] [[0]] := .of (by kernel_rfl)
theorem fq164 : Fq E M 164 72634050390035251200 [] [] [[5], [0], [0], [0]] [[5], [0, 0, 0, 0], [0]] := .of (by kernel_rfl)
theorem fq165 : Fq E M 165 274877857792 [1] [] [[0], [0, 0, 0, 0, 0, 0], [0], [0], [0, 0, 0, 0], [0], [0]] [] := .of (by kernel_rfl)
theorem fq166 : Fq E M 166 4080 [] [] [[0]] [[0, 0, 0, 0, 0, 0, 0, 0, 0, 0, 0, 9, 9, 10, 21, 24, 5, 30, 0, 0, 2, 9], [21]] := .of (by kernel_rfl)
theorem fq167 : Fq E M 167 1784 [] [] [[0]] [[0]] := .of (by kernel_rfl)
theorem fq168 : Fq E M 168 9982748476797305406488081063424 [] [] [[0], [0]] [] := .of (by kernel_rfl)
theorem fq178 : Fq E M 178 34359345152 [] [] [[0, 0, 0, 0, 0, 0, 0, 0, 0, 0, 0, 9, 9, 10, 21, 24, 5, 30, 0, 0, 2, 9], [0, 0, 0, 0, 0, 0], [0], [0], [0, 0, 0, 0], [0], [0]] [[0, 0, 0, 0, 0, 0, 0, 0, 0, 0, 0, 9, 9, 10, 21, 24, 5, 30, 0, 0, 2, 9], [21]] := .of (by kernel_rfl)
theorem fq179 : Fq E M 179 2269741575705706496 [] [] [[5], [0], [0], [0]] [[5], [0, 0, 0, 0], [0]] := .of (by kernel_rfl)
theorem fq180 : Fq E M 180 5316911981901723415436355420689526784 [] [] [[0, 0, 0, 0, 0, 0, 0, 0, 0, 0, 0, 9, 9, 10, 21, 24, 5, 30, 0, 0, 2, 9], [0]] [[0, 0, 0, 0, 0, 0, 0, 0, 0, 0, 0, 9, 9, 10, 21, 24, 5, 30, 0, 0, 2, 9], [21]] := .of (by kernel_rfl)
theorem fq182 : Fq E M 182 4503565267623680 [] [] [[5], [0, 0, 0, 0]] [[5]] := .of (by kernel_rfl)
theorem fq190 : Fq E M 190 2093248 [] [] [[2]] [[0]] := .of (by kernel_rfl)
theorem fq210 : Fq E M 210 232 [] [] [[7]] [[7]] := .of (by kernel_rfl)
theorem fq211 : Fq E M 211 240 [] [] [[0, 0, 0, 0, 0, 0, 0, 0, 0, 0, 0, 0, 0, 0, 0, 0, 0, 0, 0, 0, 2, 0, 0, 0, 0, 0, 0, 0, 0]] [[0]] := .of (by kernel_rfl)
theorem fq212 : Fq E M 212 224 [] [] [[5], [0]] [[0]] := .of (by kernel_rfl)
theorem fq213 : Fq E M 213 268435392 [1] [] [[0], [0]] [[0, 0, 0, 0, 0, 0, 0, 0, 0, 0, 0, 0, 0, 0, 0, 0, 0, 0, 0, 0, 2, 0, 0, 0, 0, 0, 0, 0, 0]] := .of (by kernel_rfl)
theorem fq217 : Fq E M 217 1152921503532580608 [] [1] [[2]] [[2]] := .of (by kernel_rfl)
theorem fq218 : Fq E M 218 33554424 [] [] [[2]] [[0]] := .of (by kernel_rfl)
theorem fq222 : Fq E M 222 24 [] [] [[5]] [[5]] := .of (by kernel_rfl)
theorem fq223 : Fq E M 223 70093865746176 [] [] [[5], [0, 0, 0, 0]] [[5]] := .of (by kernel_rfl)
theorem fq224 : Fq E M 224 201326528 [] [] [[0], [0]] [[0]] := .of (by kernel_rfl)
theorem fq225 : Fq E M 225 56 [] [] [[0]] [[0]] := .of (by kernel_rfl)
theorem fq226 : Fq E M 226 480 [] [] [[2], [0]] [[0]] := .of (by kernel_rfl)
theorem fq227 : Fq E M 227 262128 [1] [] [[0], [0, 0, 0, 0, 0, 0, 0, 0, 0, 0, 0, 0, 0, 0, 0, 0, 0, 0, 0, 0, 2, 0, 0, 0, 0, 0, 0, 0, 0]] [] := .of (by kernel_rfl)
theorem fq231 : Fq E M 231 168 [] [] [[0]] [[0]] := .of (by kernel_rfl)
theorem fq232 : Fq E M 232 130496 [] [] [[2], [0]] [[0]] := .of (by kernel_rfl)
theorem fq233 : Fq E M 233 262016 [] [] [[0, 0, 0, 0, 0, 0, 0, 0, 0, 0, 0, 9, 9, 10, 21, 24, 5, 30, 0, 0, 2, 9], [0], [0, 0, 0, 0, 0, 0, 0, 0, 0, 0, 0, 0, 0, 0, 0, 0, 0, 0, 0, 0, 2, 0, 0, 0, 0, 0, 0, 0, 0]] [[0, 0, 0, 0, 0, 0, 0, 0, 0, 0, 0, 9, 9, 10, 21, 24, 5, 30, 0, 0, 2, 9]] := .of (by kernel_rfl)
theorem fq234 : Fq E M 234 785856 [] [] [[5], [0]] [[0]] := .of (by kernel_rfl)
theorem fq235 : Fq E M 235 137422143424 [] [] [[0], [0]] [[0]] := .of (by kernel_rfl)
theorem fq239 : Fq E M 239 4503569561550336 [] [] [[2]] [[2]] := .of (by kernel_rfl)
theorem fq248 : Fq E M 248 457792 [] [] [[5], [0]] [[0]] := .of (by kernel_rfl)
theorem fq249 : Fq E M 249 240 [] [] [[0, 0, 0, 0]] [[0]] := .of (by kernel_rfl)
theorem fq252 : Fq E M 252 68702633792 [] [] [[0]] [[2]] := .of (by kernel_rfl)
theorem fq253 : Fq E M 253 2 [] [] [] [[2]] := .of (by kernel_rfl)
theorem fq254 : Fq E M 254 215679573337205118357336120696151728477114015716832964620587687215104 [] [] [[2], [2]] [[2]] := .of (by kernel_rfl)
theorem fq257 : Fq E M 257 39614080961984263615267404800 [1] [] [[5], [0], [5]] [[5]] := .of (by kernel_rfl)
theorem fq258 : Fq E M 258 457792 [] [] [[2], [0]] [[0]] := .of (by kernel_rfl)
theorem fq262 : Fq E M 262 68215103488 [] [] [[2]] [[2]] := .of (by kernel_rfl)
theorem fq263 : Fq E M 263 1073676096 [] [] [[0]] [[2]] := .of (by kernel_rfl)
theorem fq264 : Fq E M 264 2 [] [] [] [[0, 0, 0, 0, 0, 0, 0, 0]] := .of (by kernel_rfl)
theorem fq265 : Fq E M 265 2595197691317242642214125633929216 [] [] [[0, 0, 0, 0, 0, 0, 0, 0], [0, 0, 0, 0, 0, 0, 0, 0, 0, 0, 0, 0, 0, 0, 0, 0, 0, 0, 0, 0, 0, 0, 0, 0, 0, 0, 0, 0, 0, 0, 0, 0, 0, 0, 0, 0, 0, 0, 0, 0, 0, 0, 0, 0, 0, 0, 0, 0, 0, 0, 0, 0, 0, 0, 0, 0, 0, 0, 0, 0, 0, 0, 0, 0]] [[0, 0, 0, 0, 0, 0, 0, 0]] := .of (by kernel_rfl)
theorem fq270 : Fq E M 270 8160 [] [] [[0], [0]] [[0]] := .of (by kernel_rfl)
theorem fq271 : Fq E M 271 2 [] [] [] [[2]] := .of (by kernel_rfl)
theorem fq279 : Fq E M 279 38685626227650541404552192 [] [] [[0, 0, 0, 0, 0, 0, 0, 0, 0, 0, 0, 0, 0, 0, 0, 0, 0, 0, 0, 0, 0, 0, 0, 0, 0, 0, 0, 0, 0, 0, 0, 0, 0, 0, 0, 0, 0, 0, 0, 0, 0, 0, 0, 0, 0, 0, 0, 0, 0, 0, 0, 0, 0, 0, 0, 0, 0, 0, 0, 0, 0, 0, 0, 0]] [[0, 0, 0, 0, 0, 0, 0, 0, 0, 0, 0, 0, 0, 0, 0, 0, 0, 0, 0, 0, 0, 0, 0, 0, 0, 0, 0, 0, 0, 0, 0, 0, 0, 0, 0, 0, 0, 0, 0, 0, 0, 0, 0, 0, 0, 0, 0, 0, 0, 0, 0, 0, 0, 0, 0, 0, 0, 0, 0, 0, 0, 0, 0, 0]] := .of (by kernel_rfl)
theorem fq280 : Fq E M 280 480 [] [] [[0], [0]] [[0]] := .of (by kernel_rfl)
theorem fq288 : Fq E M 288 131008 [] [] [[0], [0]] [[0]] := .of (by kernel_rfl)
theorem fq289 : Fq E M 289 232 [] [1] [[2]] [[2]] := .of (by kernel_rfl)
attribute [go_sem] tq3 tq4 tq5 tq9 tq22 tq24 uq24 tq26 tq27 uq27 tq28 uq28 tq29 uq29 tq30 uq30 tq31 uq31 tq32 uq32 tq33 uq33 tq34 uq34 tq36 uq36 tq39 tq40 uq40 tq42 uq42 tq45 uq45 tq69 tq74 tq78 uq78 tq86 tq88 uq88 tq89 uq89 tq91 uq91 tq93 uq93 tq101 tq111 tq129 tq130 tq132 uq132 tq188 uq188 tq194 uq194 tq231 tq239 tq251 uq251 tq257 uq257 tq260 uq260 uq261 tq270 uq270 fl24 fl26 fl36 fl42 fl69 fl74 fl78 fl86 fl88 fl91 fl93 fl101 fl132 fl188 pl36 pl42 pl78 pl88 pl91 pl93 pl132 pl188 pl257 fq3 fq10 fq11 fq12 fq13 fq14 fq15 fq16 fq17 fq18 fq19 fq20 fq21 fq22 fq40 fq41 fq50 fq51 fq52 fq53 fq54 fq55 fq56 fq57 fq58 fq59 fq60 fq61 fq62 fq63 fq64 fq65 fq66 fq67 fq68 fq69 fq70 fq71 fq72 fq73 fq74 fq75 fq76 fq77 fq78 fq79 fq80 fq81 fq82 fq83 fq84 fq85 fq86 fq87 fq90 fq94 fq96 fq99 fq101 fq102 fq105 fq109 fq113 fq115 fq116 fq121 fq128 fq129 fq146 fq147 fq148 fq149 fq150 fq151 fq152 fq153 fq154 fq155 fq156 fq158 fq159 fq164 fq165 fq166 fq167 fq168 fq178 fq179 fq180 fq182 fq190 fq210 fq211 fq212 fq213 fq217 fq218 fq222 fq223 fq224 fq225 fq226 fq227 fq231 fq232 fq233 fq234 fq235 fq239 fq248 fq249 fq252 fq253 fq254 fq257 fq258 fq262 fq263 fq264 fq265 fq270 fq271 fq279 fq280 fq288 fq289
end Go.Proofs.YtnpkhdjgedeppaaGreatDoor
