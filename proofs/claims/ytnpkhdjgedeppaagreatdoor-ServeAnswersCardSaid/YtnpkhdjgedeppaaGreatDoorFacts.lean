import Derived.Test.YtnpkhdjgedeppaaGreatDoorProg
import Derived.Test.YtnpkhdjgedeppaaGreatDoorFc
namespace Go.Proofs.YtnpkhdjgedeppaaGreatDoor
open Go.Am
set_option maxRecDepth 100000
def qKm:FuncId→List Nat
 | 85=>[1]
 | 108=>[1]
 | 155=>[1]
 | 165=>[1]
 | 169=>[1]
 | 170=>[1]
 | 171=>[1]
 | 172=>[1]
 | 173=>[1]
 | 174=>[1]
 | 175=>[1]
 | 176=>[1]
 | 186=>[1,0,1]
 | 188=>[1]
 | 213=>[1]
 | 227=>[1]
 | 241=>[1]
 | 242=>[1]
 | 257=>[1]
 | _=>[]
def qKn:FuncId→List Nat
 | 13=>[1]
 | 54=>[1]
 | 55=>[1]
 | 56=>[1]
 | 57=>[1]
 | 59=>[1]
 | 61=>[1]
 | 62=>[1]
 | 85=>[1]
 | 86=>[1]
 | 109=>[1,1]
 | 119=>[1]
 | 120=>[1]
 | 124=>[1]
 | 135=>[1,1]
 | 147=>[1]
 | 154=>[1]
 | 188=>[1]
 | 192=>[1]
 | 203=>[1,1]
 | 217=>[1]
 | 241=>[1]
 | 242=>[1]
 | 243=>[1,1]
 | 274=>[1]
 | 281=>[1]
 | 284=>[1]
 | 285=>[1]
 | 286=>[1]
 | 289=>[1]
 | _=>[]
def qKo:FuncId→Nat
 | 3=>1298074214633706907132349200203776
 | 4=>5192296858534827628530358881878016
 | 5=>72057594033729536
 | 6=>302231454903657025232896
 | 7=>36893488146882215936
 | 8=>3987679154364298561059369121588707328
 | 9=>144115188067465216
 | 10=>383123508400083696730193447178714151623171820446809856
 | 11=>131040
 | 12=>18889465931474285887328
 | 13=>1152890718281269232
 | 14=>618969982740194756415447040
 | 15=>5070602325281122753404129476608
 | 16=>2080512
 | 17=>259968
 | 18=>41538335254187919160857634757672928
 | 19=>1208925819614629174688704
 | 20=>8796092956416
 | 21=>562949684983680
 | 22=>8184
 | 23=>648878573016108406821640531337216
 | 24=>43555810658881167422789590669213559635968
 | 25=>9223230164958179328
 | 26=>1237937604315144935838838784
 | 27=>2080512
 | 28=>259968
 | 29=>4722366482869645213652
 | 30=>38685626225416058890614784
 | 31=>24495977542185658032684733417564232422615506979471212544
 | 32=>131040
 | 33=>2097008
 | 34=>267911040
 | 35=>66977664
 | 36=>8388576
 | 37=>2097120
 | 38=>32736
 | 39=>32736
 | 40=>33536960
 | 41=>67107760
 | 42=>1180591620717411303072
 | 43=>4397509632000
 | 44=>39608943026674368053948444672
 | 45=>4177408
 | 46=>4396968562624
 | 47=>30786191097792
 | 48=>2301339409585338368
 | 49=>302083880951067617259136
 | 50=>261040
 | 51=>129968
 | 52=>268434352
 | 53=>18446725929553100768
 | 54=>232
 | 55=>232
 | 56=>232
 | 57=>16775392
 | 58=>232
 | 59=>232
 | 60=>232
 | 61=>232
 | 62=>232
 | 63=>65528
 | 64=>133955344
 | 65=>56
 | 66=>480
 | 67=>134182896
 | 68=>2040
 | 69=>562881233944320
 | 70=>649037107279056074959281169891072
 | 71=>4080
 | 72=>3145664
 | 73=>18889465931409794268160
 | 74=>33536960
 | 75=>33536960
 | 76=>33536960
 | 77=>67091392
 | 78=>33536960
 | 79=>11417981541647597918827873148909761135493635584
 | 80=>33536960
 | 81=>33536960
 | 82=>302231454903519854723040
 | 83=>8176
 | 84=>457792
 | 85=>8589868800
 | 86=>16773120
 | 87=>4539628424388919296
 | 88=>65504
 | 89=>15872
 | 90=>2040
 | 91=>240
 | 92=>144112989052600288
 | 93=>2251799813684352
 | 94=>67108848
 | 95=>131040
 | 96=>120
 | 97=>8386048
 | 98=>7936
 | 99=>262016
 | 100=>4177408
 | 101=>65376
 | 102=>268433408
 | 103=>134215664
 | 104=>9006099717947264
 | 105=>67108608
 | 106=>68719410688
 | 107=>130784
 | 108=>1073725424
 | 109=>324518553658426726772160903249920
 | 110=>67574152064
 | 111=>31728
 | 112=>4362862138883968
 | 113=>2164663254016
 | 114=>1888
 | 115=>4951760152529826285066649600
 | 116=>33028992
 | 117=>4602608450394781696
 | 118=>4286574080
 | 119=>8160
 | 120=>523264
 | 121=>1048288
 | 122=>72056490229234688
 | 123=>8854436029478528284672
 | 124=>480
 | 125=>1069531904
 | 126=>535821184
 | 127=>2139092736
 | 128=>2080343040
 | 129=>120
 | 130=>8160
 | 131=>112
 | 132=>43680
 | 133=>1047808
 | 134=>67276634880
 | 135=>1984
 | 136=>1984
 | 137=>896
 | 138=>480
 | 139=>240
 | 140=>480
 | 141=>1008
 | 142=>896
 | 143=>261568
 | 144=>523712
 | 145=>1073739520
 | 146=>262136
 | 147=>232
 | 148=>4088
 | 149=>4194048
 | 150=>224
 | 151=>128896
 | 152=>785856
 | 153=>144115050636902368
 | 154=>120
 | 155=>590295810358704599040
 | 156=>16743296
 | 157=>67106304
 | 158=>224
 | 159=>65520
 | 160=>268173120
 | 161=>536870144
 | 162=>16224
 | 163=>17162550656
 | 164=>72634050390035251200
 | 165=>274877857792
 | 166=>4080
 | 167=>1784
 | 168=>9982748476797305406488081063424
 | 169=>262140
 | 170=>2342736497358948794336
 | 171=>8388604
 | 172=>17592183947184
 | 173=>16777212
 | 174=>274877906680
 | 175=>32764
 | 177=>4193664
 | 178=>34359345152
 | 179=>2269741575705706496
 | 180=>5316911981901723415436355420689526784
 | 181=>4194296
 | 182=>4503565267623680
 | 183=>536866176
 | 184=>496
 | 185=>17171480064
 | 186=>39614080961984263615267404800
 | 187=>274877906432
 | 188=>4397509111552
 | 189=>496
 | 190=>2093248
 | 191=>480
 | 192=>33554416
 | 193=>8176
 | 194=>496
 | 195=>268435184
 | 196=>16368
 | 197=>32752
 | 198=>16775136
 | 199=>9006924360055808
 | 200=>2199023255536
 | 201=>444288
 | 202=>8160
 | 203=>4503565267499008
 | 204=>1065336832
 | 205=>4032
 | 206=>457792
 | 207=>457792
 | 208=>480
 | 209=>65504
 | 210=>232
 | 211=>240
 | 212=>224
 | 213=>268435392
 | 214=>65408
 | 215=>1048032
 | 216=>2016
 | 217=>1152921503532580608
 | 218=>33554424
 | 219=>4190080
 | 220=>274877902840
 | 221=>4064
 | 222=>24
 | 223=>70093865746176
 | 224=>201326528
 | 225=>56
 | 226=>480
 | 227=>262128
 | 228=>16777088
 | 229=>9002800134238208
 | 230=>266321920
 | 231=>168
 | 232=>130496
 | 233=>262016
 | 234=>785856
 | 235=>137422143424
 | 237=>1008
 | 238=>137422143424
 | 239=>4503569561550336
 | 240=>131008
 | 241=>4294729472
 | 242=>131040
 | 243=>32512
 | 244=>274806996960
 | 245=>56
 | 246=>3968
 | 247=>457792
 | 248=>457792
 | 249=>240
 | 250=>2251799813668864
 | 251=>261984
 | 252=>68702633792
 | 253=>2
 | 254=>215679573337205118357336120696151728477114015716832964620587687215104
 | 255=>266207216
 | 256=>8160
 | 257=>39614080961984263615267404800
 | 258=>457792
 | 259=>2097144
 | 260=>16777088
 | 261=>16368
 | 262=>68215103488
 | 263=>1073676096
 | 264=>2
 | 265=>2595197691317242642214125633929216
 | 266=>8381312
 | 267=>992
 | 268=>504
 | 269=>65504
 | 270=>8160
 | 271=>2
 | 272=>64960
 | 273=>274877902336
 | 274=>67108848
 | 276=>1008
 | 277=>268434928
 | 278=>134152096
 | 279=>38685626227650541404552192
 | 280=>480
 | 281=>16344
 | 282=>56
 | 283=>8589704960
 | 284=>507376
 | 285=>261984
 | 286=>70351560080384
 | 287=>16368
 | 288=>131008
 | 289=>232
 | 290=>130048
 | 291=>268434928
 | _=>0
def qAH:List Int:=[1116352408,1899447441,3049323471,3921009573,961987163,1508970993,2453635748,2870763221,3624381080,310598401,607225278,1426881987,1925078388,2162078206,2614888103,3248222580,3835390401,4022224774,264347078,604807628,770255983,1249150122,1555081692,1996064986,2554220882,2821834349,2952996808,3210313671,3336571891,3584528711,113926993,338241895,666307205,773529912,1294757372,1396182291,1695183700,1986661051,2177026350,2456956037,2730485921,2820302411,3259730800,3345764771,3516065817,3600352804,4094571909,275423344,430227734,506948616,659060556,883997877,958139571,1322822218,1537002063,1747873779,1955562222,2024104815,2227730452,2361852424,2428436474,2756734187,3204031479,3329325298]
def qF5:qGN:=[(0,"carcanet/digest.constants",.u32,qAH)]
noncomputable def E:Env:=⟨Tryz.prog,qyV qF5⟩
def nlM:FuncId→List (Nat×Nat)
 | 14=>[(18,2001)]
 | 15=>[(64,2001)]
 | 20=>[(33,0)]
 | 21=>[(3,29)]
 | 24=>[(64,906),(64,1004),(70,906),(70,1004)]
 | 30=>[(33,906),(33,1004)]
 | 31=>[(19,906),(19,1004)]
 | 48=>[(5,20),(55,906),(55,1004)]
 | 49=>[(5,20),(73,906),(73,1004)]
 | 85=>[(13,1),(26,1)]
 | 92=>[(33,906),(33,1004),(49,906),(49,1004)]
 | 94=>[(24,906),(24,1004)]
 | 102=>[(17,906),(17,1004)]
 | 115=>[(77,2001)]
 | 120=>[(3,6)]
 | 121=>[(3,6)]
 | 126=>[(5,8)]
 | 127=>[(5,9)]
 | 156=>[(5,29)]
 | 161=>[(5,1)]
 | 165=>[(32,906),(32,1004)]
 | 168=>[(77,906),(76,0)]
 | 170=>[(67,0)]
 | 171=>[(19,0)]
 | 178=>[(29,906),(29,1004)]
 | 180=>[(8,20),(71,906),(70,0)]
 | 204=>[(5,8)]
 | _=>[]
def qG3:List (FuncId×Nat):=[(166,20000),(110,40000),(69,60000),(149,80000),(70,100000),(71,120000),(105,140000),(91,160000),(90,180001),(94,200000),(92,220000),(93,240000),(103,260000),(104,280000),(236,300001)]
noncomputable def M:Mds:=⟨qKm,qKn,qKo,nlM,[],qG3,0,none⟩
@[go_sem] theorem qKp:M.cur=[]:=Eq.trans rfl rfl
@[go_sem] theorem qIW:M.inls=[(166,20000),(110,40000),(69,60000),(149,80000),(70,100000),(71,120000),(105,140000),(91,160000),(90,180001),(94,200000),(92,220000),(93,240000),(103,260000),(104,280000),(236,300001)]:=Eq.trans rfl rfl
@[go_sem] theorem qIX:M.base=0:=Eq.trans rfl rfl
@[go_sem] theorem qMV:M.gh=none:=Eq.trans rfl rfl
@[go_sem] theorem qMW:M.nl 14=[(18,2001)]:=Eq.trans rfl rfl
@[go_sem] theorem qMX:M.nl 15=[(64,2001)]:=Eq.trans rfl rfl
@[go_sem] theorem qMY:M.nl 20=[(33,0)]:=Eq.trans rfl rfl
@[go_sem] theorem qMZ:M.nl 21=[(3,29)]:=Eq.trans rfl rfl
@[go_sem] theorem qM0:M.nl 24=[(64,906),(64,1004),(70,906),(70,1004)]:=Eq.trans rfl rfl
@[go_sem] theorem qM1:M.nl 30=[(33,906),(33,1004)]:=Eq.trans rfl rfl
@[go_sem] theorem qM2:M.nl 31=[(19,906),(19,1004)]:=Eq.trans rfl rfl
@[go_sem] theorem qM3:M.nl 48=[(5,20),(55,906),(55,1004)]:=Eq.trans rfl rfl
@[go_sem] theorem qM4:M.nl 49=[(5,20),(73,906),(73,1004)]:=Eq.trans rfl rfl
@[go_sem] theorem qM5:M.nl 85=[(13,1),(26,1)]:=Eq.trans rfl rfl
@[go_sem] theorem qM6:M.nl 92=[(33,906),(33,1004),(49,906),(49,1004)]:=Eq.trans rfl rfl
@[go_sem] theorem qM7:M.nl 94=[(24,906),(24,1004)]:=Eq.trans rfl rfl
@[go_sem] theorem qKq:M.nl 102=[(17,906),(17,1004)]:=Eq.trans rfl rfl
@[go_sem] theorem qKr:M.nl 115=[(77,2001)]:=Eq.trans rfl rfl
@[go_sem] theorem qKs:M.nl 120=[(3,6)]:=Eq.trans rfl rfl
@[go_sem] theorem qKt:M.nl 121=[(3,6)]:=Eq.trans rfl rfl
@[go_sem] theorem qKu:M.nl 126=[(5,8)]:=Eq.trans rfl rfl
@[go_sem] theorem qKv:M.nl 127=[(5,9)]:=Eq.trans rfl rfl
@[go_sem] theorem qKw:M.nl 156=[(5,29)]:=Eq.trans rfl rfl
@[go_sem] theorem qKx:M.nl 161=[(5,1)]:=Eq.trans rfl rfl
@[go_sem] theorem qKy:M.nl 165=[(32,906),(32,1004)]:=Eq.trans rfl rfl
@[go_sem] theorem qKz:M.nl 168=[(77,906),(76,0)]:=Eq.trans rfl rfl
@[go_sem] theorem qKA:M.nl 170=[(67,0)]:=Eq.trans rfl rfl
@[go_sem] theorem qKB:M.nl 171=[(19,0)]:=Eq.trans rfl rfl
@[go_sem] theorem qKC:M.nl 178=[(29,906),(29,1004)]:=Eq.trans rfl rfl
@[go_sem] theorem qKD:M.nl 180=[(8,20),(71,906),(70,0)]:=Eq.trans rfl rfl
@[go_sem] theorem qKE:M.nl 204=[(5,8)]:=Eq.trans rfl rfl
noncomputable def C0:Cf:=⟨E,M,fun _=>none⟩
@[go_sem] theorem qM8:C0.E=E:=rfl
@[go_sem] theorem qM9:C0.M=M:=rfl
theorem qbb:E.P.follows .mixedOrders=true:=by kernel_rfl
@[go_sem] theorem qKF (f):ev E.Γ f (.global 0)= .iptr (qyU .u32 qAH):=rfl
theorem tq3:Tq E 3 (some 1) (some false) (some [.int .i64 (0)]) false true false (some .i64) true false:= .of (by kernel_rfl)
theorem tq4:Tq E 4 (some 1) (some false) (some [.bool false]) false false true none true false:= .of (by kernel_rfl)
theorem tq5:Tq E 5 (some 1) (some false) (some [.int .u8 (0)]) false true false (some .u8) true false:= .of (by kernel_rfl)
theorem tq9:Tq E 9 (some 1) (some false) (some [.str []]) true false false none true false:= .of (by kernel_rfl)
theorem qsA:Tq E 22 (some 1) (some false) (some [.int .u64 (0)]) false true false (some .u64) true false:= .of (by kernel_rfl)
theorem qAI:Tq E 24 (some 6) (some true) (some [.str [],.int .u64 (0),.int .i64 (0),.int .i64 (0),.int .i64 (0),.str []]) false false false none true false:= .of (by kernel_rfl)
theorem qKG:Uq E 24 none none none false false true none:= .of (by kernel_rfl)
theorem qKH:Tq E 26 (some 2) (some true) (some [.int .i64 (0),.str []]) false false false none true false:= .of (by kernel_rfl)
theorem qKI:Tq E 27 (some 1) (some false) (some [.sc (.slice none 0 0)]) false false false none true false:= .of (by kernel_rfl)
theorem qKJ:Uq E 27 (some 8) (some 80) (some [.str [],.int .u64 (0),.int .i64 (0),.int .i64 (0),.int .i64 (0),.str [],.int .i64 (0),.int .i64 (0)]) false false false none:= .of (by kernel_rfl)
theorem qKK:Tq E 28 (some 1) (some false) (some [.sc (.slice none 0 0)]) false false false none true false:= .of (by kernel_rfl)
theorem qKL:Uq E 28 (some 9) (some 88) (some [.int .i64 (0),.str [],.int .u64 (0),.int .i64 (0),.int .i64 (0),.int .i64 (0),.str [],.int .i64 (0),.int .i64 (0)]) false false false none:= .of (by kernel_rfl)
theorem qKM:Tq E 29 (some 1) (some false) (some [.sc (.slice none 0 0)]) false false false none true false:= .of (by kernel_rfl)
theorem qKN:Uq E 29 (some 20) (some 192) (some [.int .u64 (0),.int .u64 (0),.str [],.int .u64 (0),.int .i64 (0),.int .i64 (0),.int .i64 (0),.str [],.int .i64 (0),.int .i64 (0),.str [],.str [],.int .i64 (0),.int .i64 (0),.int .i64 (0),.int .i64 (0),.int .i64 (0),.int .u64 (0),.int .u64 (0),.int .i64 (0)]) false false false none:= .of (by kernel_rfl)
theorem qKO:Tq E 30 (some 1) (some false) (some [.sc (.slice none 0 0)]) false false false none true false:= .of (by kernel_rfl)
theorem qKP:Uq E 30 (some 23) (some 240) (some [.int .i64 (0),.int .i64 (0),.int .i64 (0),.int .i64 (0),.int .i64 (0),.int .u64 (0),.str [],.int .u64 (0),.int .i64 (0),.int .i64 (0),.int .i64 (0),.str [],.int .i64 (0),.int .i64 (0),.int .i64 (0),.int .i64 (0),.int .u64 (0),.bool false,.bool false,.str [],.str [],.sc (.slice none 0 0),.sc (.slice none 0 0)]) false false false none:= .of (by kernel_rfl)
theorem qKQ:Tq E 31 (some 1) (some false) (some [.sc (.slice none 0 0)]) false false false none true false:= .of (by kernel_rfl)
theorem qKR:Uq E 31 (some 4) (some 48) (some [.str [],.str [],.int .i64 (0),.bool false]) false false false none:= .of (by kernel_rfl)
theorem qKS:Tq E 32 (some 1) (some false) (some [.sc (.slice none 0 0)]) false false false none true false:= .of (by kernel_rfl)
theorem qKT:Uq E 32 (some 29) (some 312) (some [.int .i64 (0),.int .i64 (0),.int .i64 (0),.int .i64 (0),.int .i64 (0),.int .i64 (0),.str [],.str [],.str [],.int .u64 (0),.int .i64 (0),.int .i64 (0),.int .i64 (0),.str [],.str [],.str [],.int .i64 (0),.bool false,.int .i64 (0),.int .i64 (0),.sc (.slice none 0 0),.str [],.int .u64 (0),.int .i64 (0),.int .i64 (0),.int .i64 (0),.str [],.int .i64 (0),.int .i64 (0)]) false false false none:= .of (by kernel_rfl)
theorem qKU:Tq E 33 (some 1) (some false) (some [.sc (.slice none 0 0)]) false false false none true false:= .of (by kernel_rfl)
theorem qKV:Uq E 33 (some 1) (some 8) (some [.int .u64 (0)]) false false false none:= .of (by kernel_rfl)
theorem qKW:Tq E 34 (some 1) (some false) (some [.sc (.slice none 0 0)]) false false false none true false:= .of (by kernel_rfl)
theorem qKX:Uq E 34 (some 8) (some 72) (some [.int .i64 (0),.int .i64 (0),.int .i64 (0),.str [],.str [],.bool false,.bool false,.int .i64 (0)]) false false false none:= .of (by kernel_rfl)
theorem qKY:Tq E 36 (some 22) (some true) (some [.str [],.int .u64 (0),.int .i64 (0),.int .i64 (0),.int .i64 (0),.str [],.int .i64 (0),.str [],.int .i64 (0),.str [],.bool false,.sc (.slice none 0 0),.sc (.slice none 0 0),.sc (.slice none 0 0),.sc (.slice none 0 0),.sc (.slice none 0 0),.sc (.slice none 0 0),.sc (.slice none 0 0),.int .i64 (0),.int .i64 (0),.sc (.slice none 0 0),.sc (.slice none 0 0)]) false false false none true false:= .of (by kernel_rfl)
theorem qKZ:Uq E 36 none none none false false true none:= .of (by kernel_rfl)
theorem qG4:Tq E 39 (some 1) (some false) (some [.int .i64 (0)]) false true false (some .i64) true false:= .of (by kernel_rfl)
theorem qK0:Tq E 40 (some 1) (some false) (some [.sc (.slice none 0 0)]) false false false none true false:= .of (by kernel_rfl)
theorem qK1:Uq E 40 (some 6) (some 64) (some [.str [],.int .u64 (0),.int .i64 (0),.int .i64 (0),.int .i64 (0),.str []]) false false false none:= .of (by kernel_rfl)
theorem qK2:Tq E 42 (some 11) (some true) (some [.int .i64 (0),.int .i64 (0),.int .i64 (0),.int .i64 (0),.int .u64 (0),.bool false,.bool false,.str [],.str [],.sc (.slice none 0 0),.sc (.slice none 0 0)]) false false false none true false:= .of (by kernel_rfl)
theorem qK3:Uq E 42 none none none false false true none:= .of (by kernel_rfl)
theorem qK4:Tq E 45 (some 1) (some false) (some [.sc (.slice none 0 0)]) false false false none true false:= .of (by kernel_rfl)
theorem qK5:Uq E 45 (some 20) (some 216) (some [.bool false,.str [],.int .u64 (0),.int .i64 (0),.int .i64 (0),.int .i64 (0),.str [],.int .i64 (0),.int .i64 (0),.int .i64 (0),.int .i64 (0),.int .u64 (0),.bool false,.bool false,.str [],.str [],.sc (.slice none 0 0),.sc (.slice none 0 0),.int .i64 (0),.int .i64 (0)]) false false false none:= .of (by kernel_rfl)
theorem qK6:Tq E 69 (some 23) (some true) (some [.int .i64 (0),.int .i64 (0),.int .i64 (0),.int .i64 (0),.int .i64 (0),.int .u64 (0),.str [],.int .u64 (0),.int .i64 (0),.int .i64 (0),.int .i64 (0),.str [],.int .i64 (0),.int .i64 (0),.int .i64 (0),.int .i64 (0),.int .u64 (0),.bool false,.bool false,.str [],.str [],.sc (.slice none 0 0),.sc (.slice none 0 0)]) false false false none true false:= .of (by kernel_rfl)
theorem qG5:Tq E 74 (some 8) (some true) (some [.str [],.int .u64 (0),.int .i64 (0),.int .i64 (0),.int .i64 (0),.str [],.int .i64 (0),.int .i64 (0)]) false false false none true false:= .of (by kernel_rfl)
theorem qK7:Uq E 74 none none none false false true none:= .of (by kernel_rfl)
theorem qK8:Tq E 78 (some 20) (some true) (some [.bool false,.str [],.int .u64 (0),.int .i64 (0),.int .i64 (0),.int .i64 (0),.str [],.int .i64 (0),.int .i64 (0),.int .i64 (0),.int .i64 (0),.int .u64 (0),.bool false,.bool false,.str [],.str [],.sc (.slice none 0 0),.sc (.slice none 0 0),.int .i64 (0),.int .i64 (0)]) false false false none true false:= .of (by kernel_rfl)
theorem qK9:Uq E 78 none none none false false true none:= .of (by kernel_rfl)
theorem qLa:Tq E 86 (some 9) (some true) (some [.int .i64 (0),.str [],.int .u64 (0),.int .i64 (0),.int .i64 (0),.int .i64 (0),.str [],.int .i64 (0),.int .i64 (0)]) false false false none true false:= .of (by kernel_rfl)
theorem qLb:Tq E 88 (some 4) (some true) (some [.str [],.str [],.int .i64 (0),.bool false]) false false false none true false:= .of (by kernel_rfl)
theorem qLc:Uq E 88 none none none false false true none:= .of (by kernel_rfl)
theorem qLd:Tq E 89 (some 1) (some false) (some [.sc (.slice none 0 0)]) false false false none true false:= .of (by kernel_rfl)
theorem qLe:Uq E 89 (some 1) (some 16) (some [.str []]) false false false none:= .of (by kernel_rfl)
theorem qLf:Tq E 91 (some 29) (some true) (some [.int .i64 (0),.int .i64 (0),.int .i64 (0),.int .i64 (0),.int .i64 (0),.int .i64 (0),.str [],.str [],.str [],.int .u64 (0),.int .i64 (0),.int .i64 (0),.int .i64 (0),.str [],.str [],.str [],.int .i64 (0),.bool false,.int .i64 (0),.int .i64 (0),.sc (.slice none 0 0),.str [],.int .u64 (0),.int .i64 (0),.int .i64 (0),.int .i64 (0),.str [],.int .i64 (0),.int .i64 (0)]) false false false none true false:= .of (by kernel_rfl)
theorem qLg:Uq E 91 none none none false false true none:= .of (by kernel_rfl)
theorem qLh:Tq E 93 (some 8) (some true) (some [.int .i64 (0),.int .i64 (0),.int .i64 (0),.str [],.str [],.bool false,.bool false,.int .i64 (0)]) false false false none true false:= .of (by kernel_rfl)
theorem qLi:Uq E 93 none none none false false true none:= .of (by kernel_rfl)
theorem qG6:Tq E 101 (some 20) (some true) (some [.int .u64 (0),.int .u64 (0),.str [],.int .u64 (0),.int .i64 (0),.int .i64 (0),.int .i64 (0),.str [],.int .i64 (0),.int .i64 (0),.str [],.str [],.int .i64 (0),.int .i64 (0),.int .i64 (0),.int .i64 (0),.int .i64 (0),.int .u64 (0),.int .u64 (0),.int .i64 (0)]) false false false none true false:= .of (by kernel_rfl)
theorem qG7:Tq E 152 (some 50) (some true) (some [.str [],.int .u64 (0),.int .i64 (0),.int .i64 (0),.int .i64 (0),.str [],.int .i64 (0),.str [],.int .i64 (0),.str [],.bool false,.sc (.slice none 0 0),.sc (.slice none 0 0),.sc (.slice none 0 0),.sc (.slice none 0 0),.sc (.slice none 0 0),.sc (.slice none 0 0),.sc (.slice none 0 0),.int .i64 (0),.int .i64 (0),.sc (.slice none 0 0),.sc (.slice none 0 0),.str [],.int .u64 (0),.int .i64 (0),.int .i64 (0),.int .i64 (0),.str [],.int .i64 (0),.int .i64 (0),.int .i64 (0),.int .i64 (0),.int .u64 (0),.bool false,.bool false,.str [],.str [],.sc (.slice none 0 0),.sc (.slice none 0 0),.int .i64 (0),.int .i64 (0),.int .i64 (0),.int .i64 (0),.int .u64 (0),.bool false,.bool false,.str [],.str [],.sc (.slice none 0 0),.sc (.slice none 0 0)]) false false false none true false:= .of (by kernel_rfl)
theorem qG8:Uq E 152 none none none false false true none:= .of (by kernel_rfl)
theorem qG9:Tq E 188 (some 23) (some true) (some [.str [],.int .u64 (0),.int .i64 (0),.int .i64 (0),.int .i64 (0),.str [],.int .i64 (0),.str [],.int .i64 (0),.str [],.bool false,.sc (.slice none 0 0),.sc (.slice none 0 0),.sc (.slice none 0 0),.sc (.slice none 0 0),.sc (.slice none 0 0),.sc (.slice none 0 0),.sc (.slice none 0 0),.int .i64 (0),.int .i64 (0),.sc (.slice none 0 0),.sc (.slice none 0 0),.sc (.slice none 0 0)]) false false false none true false:= .of (by kernel_rfl)
theorem qHa:Uq E 188 none none none false false true none:= .of (by kernel_rfl)
theorem qHb:Tq E 194 (some 1) (some false) (some [.sc (.slice none 0 0)]) false false false none true false:= .of (by kernel_rfl)
theorem qHc:Uq E 194 (some 1) (some 1) (some [.int .u8 (0)]) true false false none:= .of (by kernel_rfl)
theorem qHd:Uq E 202 (some 1) (some 8) (some [.int .i64 (0)]) false false false none:= .of (by kernel_rfl)
theorem qHe:Tq E 231 (some 1) (some false) (some [.int .u32 (0)]) false true false (some .u32) true false:= .of (by kernel_rfl)
theorem qHf:Tq E 239 (some 1) (some false) (some [.int .u64 (0)]) false true false (some .u64) true false:= .of (by kernel_rfl)
theorem qHg:Tq E 251 (some 1) (some false) (some [.sc (.slice none 0 0)]) false false false none true false:= .of (by kernel_rfl)
theorem qHh:Uq E 251 (some 1) (some 4) (some [.int .u32 (0)]) false false false none:= .of (by kernel_rfl)
theorem qHi:Tq E 257 (some 8) (some true) (some [.int .u32 (0),.int .u32 (0),.int .u32 (0),.int .u32 (0),.int .u32 (0),.int .u32 (0),.int .u32 (0),.int .u32 (0)]) false false false none true false:= .of (by kernel_rfl)
theorem qHj:Uq E 257 none none none false false true (some (8,1,false)):= .of (by kernel_rfl)
theorem qHk:Tq E 260 (some 64) (some true) (some [.int .u8 (0),.int .u8 (0),.int .u8 (0),.int .u8 (0),.int .u8 (0),.int .u8 (0),.int .u8 (0),.int .u8 (0),.int .u8 (0),.int .u8 (0),.int .u8 (0),.int .u8 (0),.int .u8 (0),.int .u8 (0),.int .u8 (0),.int .u8 (0),.int .u8 (0),.int .u8 (0),.int .u8 (0),.int .u8 (0),.int .u8 (0),.int .u8 (0),.int .u8 (0),.int .u8 (0),.int .u8 (0),.int .u8 (0),.int .u8 (0),.int .u8 (0),.int .u8 (0),.int .u8 (0),.int .u8 (0),.int .u8 (0),.int .u8 (0),.int .u8 (0),.int .u8 (0),.int .u8 (0),.int .u8 (0),.int .u8 (0),.int .u8 (0),.int .u8 (0),.int .u8 (0),.int .u8 (0),.int .u8 (0),.int .u8 (0),.int .u8 (0),.int .u8 (0),.int .u8 (0),.int .u8 (0),.int .u8 (0),.int .u8 (0),.int .u8 (0),.int .u8 (0),.int .u8 (0),.int .u8 (0),.int .u8 (0),.int .u8 (0),.int .u8 (0),.int .u8 (0),.int .u8 (0),.int .u8 (0),.int .u8 (0),.int .u8 (0),.int .u8 (0),.int .u8 (0)]) false false false none true false:= .of (by kernel_rfl)
theorem qHl:Uq E 260 none none none false false true (some (64,1,false)):= .of (by kernel_rfl)
theorem qHm:Tq E 261 (some 1) (some false) (some [.sc (.slice none 0 0)]) false false false none true false:= .of (by kernel_rfl)
theorem qHn:Uq E 261 (some 1) (some 24) (some [.sc (.slice none 0 0)]) false false false none:= .of (by kernel_rfl)
theorem qHo:Tq E 270 (some 64) (some true) (some [.int .u32 (0),.int .u32 (0),.int .u32 (0),.int .u32 (0),.int .u32 (0),.int .u32 (0),.int .u32 (0),.int .u32 (0),.int .u32 (0),.int .u32 (0),.int .u32 (0),.int .u32 (0),.int .u32 (0),.int .u32 (0),.int .u32 (0),.int .u32 (0),.int .u32 (0),.int .u32 (0),.int .u32 (0),.int .u32 (0),.int .u32 (0),.int .u32 (0),.int .u32 (0),.int .u32 (0),.int .u32 (0),.int .u32 (0),.int .u32 (0),.int .u32 (0),.int .u32 (0),.int .u32 (0),.int .u32 (0),.int .u32 (0),.int .u32 (0),.int .u32 (0),.int .u32 (0),.int .u32 (0),.int .u32 (0),.int .u32 (0),.int .u32 (0),.int .u32 (0),.int .u32 (0),.int .u32 (0),.int .u32 (0),.int .u32 (0),.int .u32 (0),.int .u32 (0),.int .u32 (0),.int .u32 (0),.int .u32 (0),.int .u32 (0),.int .u32 (0),.int .u32 (0),.int .u32 (0),.int .u32 (0),.int .u32 (0),.int .u32 (0),.int .u32 (0),.int .u32 (0),.int .u32 (0),.int .u32 (0),.int .u32 (0),.int .u32 (0),.int .u32 (0),.int .u32 (0)]) false false false none true false:= .of (by kernel_rfl)
theorem qHp:Uq E 270 none none none false false true (some (64,1,false)):= .of (by kernel_rfl)
theorem qLj:E.P.fldO 24 0=some (0,1,false)∧E.P.fldO 24 1=some (1,1,false)∧E.P.fldO 24 2=some (2,1,false)∧E.P.fldO 24 3=some (3,1,false)∧E.P.fldO 24 4=some (4,1,false)∧E.P.fldO 24 5=some (5,1,false):=by and_intros<;>kernel_rfl
theorem qLk:E.P.fldO 26 0=some (0,1,false)∧E.P.fldO 26 1=some (1,1,false):=by and_intros<;>kernel_rfl
theorem qLl:E.P.fldO 36 0=some (0,6,true)∧E.P.fldO 36 1=some (6,1,false)∧E.P.fldO 36 2=some (7,1,false)∧E.P.fldO 36 3=some (8,2,true)∧E.P.fldO 36 4=some (10,1,false)∧E.P.fldO 36 5=some (11,1,false)∧E.P.fldO 36 6=some (12,1,false)∧E.P.fldO 36 7=some (13,1,false)∧E.P.fldO 36 8=some (14,1,false)∧E.P.fldO 36 9=some (15,1,false)∧E.P.fldO 36 10=some (16,1,false)∧E.P.fldO 36 11=some (17,1,false)∧E.P.fldO 36 12=some (18,1,false)∧E.P.fldO 36 13=some (19,1,false)∧E.P.fldO 36 14=some (20,1,false)∧E.P.fldO 36 15=some (21,1,false):=by and_intros<;>kernel_rfl
theorem qLm:E.P.fldO 42 0=some (0,1,false)∧E.P.fldO 42 1=some (1,1,false)∧E.P.fldO 42 2=some (2,1,false)∧E.P.fldO 42 3=some (3,1,false)∧E.P.fldO 42 4=some (4,1,false)∧E.P.fldO 42 5=some (5,1,false)∧E.P.fldO 42 6=some (6,1,false)∧E.P.fldO 42 7=some (7,1,false)∧E.P.fldO 42 8=some (8,1,false)∧E.P.fldO 42 9=some (9,1,false)∧E.P.fldO 42 10=some (10,1,false):=by and_intros<;>kernel_rfl
theorem qLn:E.P.fldO 69 0=some (0,1,false)∧E.P.fldO 69 1=some (1,1,false)∧E.P.fldO 69 2=some (2,1,false)∧E.P.fldO 69 3=some (3,1,false)∧E.P.fldO 69 4=some (4,1,false)∧E.P.fldO 69 5=some (5,1,false)∧E.P.fldO 69 6=some (6,6,true)∧E.P.fldO 69 7=some (12,11,true):=by and_intros<;>kernel_rfl
theorem qLo:E.P.fldO 74 0=some (0,6,true):=by kernel_rfl
theorem qLp:E.P.fldO 78 0=some (0,1,false)∧E.P.fldO 78 1=some (1,6,true)∧E.P.fldO 78 2=some (7,11,true)∧E.P.fldO 78 3=some (18,1,false)∧E.P.fldO 78 4=some (19,1,false):=by and_intros<;>kernel_rfl
theorem qLq:E.P.fldO 86 1=some (1,8,true):=by kernel_rfl
theorem qLr:E.P.fldO 88 0=some (0,1,false)∧E.P.fldO 88 1=some (1,1,false)∧E.P.fldO 88 2=some (2,1,false)∧E.P.fldO 88 3=some (3,1,false):=by and_intros<;>kernel_rfl
theorem qLs:E.P.fldO 91 0=some (0,1,false)∧E.P.fldO 91 1=some (1,1,false)∧E.P.fldO 91 2=some (2,1,false)∧E.P.fldO 91 3=some (3,1,false)∧E.P.fldO 91 4=some (4,1,false)∧E.P.fldO 91 5=some (5,1,false)∧E.P.fldO 91 6=some (6,1,false)∧E.P.fldO 91 7=some (7,1,false)∧E.P.fldO 91 8=some (8,6,true)∧E.P.fldO 91 9=some (14,4,true)∧E.P.fldO 91 10=some (18,1,false)∧E.P.fldO 91 11=some (19,1,false)∧E.P.fldO 91 12=some (20,1,false)∧E.P.fldO 91 13=some (21,6,true)∧E.P.fldO 91 14=some (27,1,false)∧E.P.fldO 91 15=some (28,1,false):=by and_intros<;>kernel_rfl
theorem qLt:E.P.fldO 93 1=some (1,1,false)∧E.P.fldO 93 2=some (2,1,false)∧E.P.fldO 93 3=some (3,1,false)∧E.P.fldO 93 4=some (4,1,false)∧E.P.fldO 93 5=some (5,1,false)∧E.P.fldO 93 7=some (7,1,false):=by and_intros<;>kernel_rfl
theorem qHq:E.P.fldO 101 2=some (2,6,true)∧E.P.fldO 101 5=some (10,1,false)∧E.P.fldO 101 6=some (11,1,false):=by and_intros<;>kernel_rfl
theorem qHr:E.P.fldO 152 0=some (0,22,true)∧E.P.fldO 152 1=some (22,6,true)∧E.P.fldO 152 2=some (28,11,true)∧E.P.fldO 152 3=some (39,11,true):=by and_intros<;>kernel_rfl
theorem qHs:E.P.fldO 188 0=some (0,22,true)∧E.P.fldO 188 1=some (22,1,false):=by and_intros<;>kernel_rfl
theorem qLu:E.P.places 24 0=some (0,1)∧E.P.places 24 3=some (3,1):=by and_intros<;>kernel_rfl
theorem qLv:E.P.places 36 0=some (0,6)∧E.P.places 36 1=some (6,1)∧E.P.places 36 3=some (8,2)∧E.P.places 36 4=some (10,1)∧E.P.places 36 11=some (17,1)∧E.P.places 36 15=some (21,1):=by and_intros<;>kernel_rfl
theorem qLw:E.P.places 42 0=some (0,1)∧E.P.places 42 1=some (1,1)∧E.P.places 42 2=some (2,1)∧E.P.places 42 3=some (3,1)∧E.P.places 42 4=some (4,1)∧E.P.places 42 6=some (6,1)∧E.P.places 42 7=some (7,1)∧E.P.places 42 8=some (8,1)∧E.P.places 42 9=some (9,1)∧E.P.places 42 10=some (10,1):=by and_intros<;>kernel_rfl
theorem qLx:E.P.places 74 0=some (0,6)∧E.P.places 74 1=some (6,1)∧E.P.places 74 2=some (7,1):=by and_intros<;>kernel_rfl
theorem qLy:E.P.places 78 0=some (0,1)∧E.P.places 78 1=some (1,6)∧E.P.places 78 2=some (7,11)∧E.P.places 78 3=some (18,1)∧E.P.places 78 4=some (19,1):=by and_intros<;>kernel_rfl
theorem qLz:E.P.places 88 0=some (0,1)∧E.P.places 88 1=some (1,1)∧E.P.places 88 2=some (2,1)∧E.P.places 88 3=some (3,1):=by and_intros<;>kernel_rfl
theorem qLA:E.P.places 91 0=some (0,1)∧E.P.places 91 1=some (1,1)∧E.P.places 91 5=some (5,1)∧E.P.places 91 6=some (6,1)∧E.P.places 91 9=some (14,4)∧E.P.places 91 13=some (21,6)∧E.P.places 91 14=some (27,1)∧E.P.places 91 15=some (28,1):=by and_intros<;>kernel_rfl
theorem qLB:E.P.places 93 0=some (0,1)∧E.P.places 93 1=some (1,1)∧E.P.places 93 2=some (2,1)∧E.P.places 93 3=some (3,1)∧E.P.places 93 4=some (4,1)∧E.P.places 93 5=some (5,1)∧E.P.places 93 6=some (6,1)∧E.P.places 93 7=some (7,1):=by and_intros<;>kernel_rfl
theorem qHt:E.P.places 152 0=some (0,22)∧E.P.places 152 1=some (22,6)∧E.P.places 152 2=some (28,11)∧E.P.places 152 3=some (39,11):=by and_intros<;>kernel_rfl
theorem qHu:E.P.places 188 0=some (0,22):=by kernel_rfl
theorem qHv:E.P.places 257 0=some (0,1)∧E.P.places 257 1=some (1,1)∧E.P.places 257 2=some (2,1)∧E.P.places 257 3=some (3,1)∧E.P.places 257 4=some (4,1)∧E.P.places 257 5=some (5,1)∧E.P.places 257 6=some (6,1)∧E.P.places 257 7=some (7,1):=by and_intros<;>kernel_rfl
theorem fq5:Fq E M 5 72057594033729536 [] [] [[0,0,0,0,0,0,0,0,0,0,0,9,9,10,21,24,5,30,0,0,2,9],[0,0,0,0,0,0],[0,0,0,0,0,0,0,0,0,7,5]] [[0]]:= .of (by kernel_rfl)
theorem qIY:Fq E M 10 383123508400083696730193447178714151623171820446809856 [] [] [[0,0,0,0,0,0,0,0,0,0,0,9,9,10,21,24,5,30,0,0,2,9]] [[0]]:= .of (by kernel_rfl)
theorem qIZ:Fq E M 11 131040 [] [] [[0,0,0,0,0,0,0,0,0,0,0,9,9,10,21,24,5,30,0,0,2,9],[0,0,0,0,0,0,0,0,0,7,5]] [[0]]:= .of (by kernel_rfl)
theorem qF6:Fq E M 13 1152890718281269232 [] [1] [[0,0,0,0,0,0,0,0,0,0,0,9,9,10,21,24,5,30,0,0,2,9]] [[0,0,0,0,0,0,0,0,0,0,0,9,9,10,21,24,5,30,0,0,2,9]]:= .of (by kernel_rfl)
theorem qI0:Fq E M 18 41538335254187919160857634757672928 [] [] [[0,0,0,0,0,0,0,0,0,0,0,9,9,10,21,24,5,30,0,0,2,9],[0,0,0,0,0,0,0,0,0,0,0,9,9,10,21,24,5,30,0,0,2,9]] [[0]]:= .of (by kernel_rfl)
theorem qI1:Fq E M 19 1208925819614629174688704 [] [] [[21],[21]] [[0]]:= .of (by kernel_rfl)
theorem qI2:Fq E M 22 8184 [] [] [[0,0,0,0,0,0]] [[0]]:= .of (by kernel_rfl)
theorem qI3:Fq E M 29 4722366482869645213652 [] [] [] [[0]]:= .of (by kernel_rfl)
theorem qmv:Fq E M 30 38685626225416058890614784 [] [] [[0,0,0,0,0,0,0,0,0,0,0,9,9,10,21,24,5,30,0,0,2,9],[0,0,0,0,0,0],[0,0,0,0,0,0,0,0,0,7,5]] [[0,0,0,0,0,0,0,0,0,0,0,9,9,10,21,24,5,30,0,0,2,9],[21]]:= .of (by kernel_rfl)
theorem qkq:Fq E M 31 24495977542185658032684733417564232422615506979471212544 [] [] [[0,0,0,0,0,0,0,0,0,0,0,9,9,10,21,24,5,30,0,0,2,9],[0,0,0,0,0,0],[0,0,0,0,0,0,0,0,0,7,5]] [[0,0,0,0,0,0,0,0,0,0,0,9,9,10,21,24,5,30,0,0,2,9],[21]]:= .of (by kernel_rfl)
theorem qI4:Fq E M 32 131040 [] [] [[0,0,0,0,0,0,0,0,0,0,0,9,9,10,21,24,5,30,0,0,2,9]] [[7],[0]]:= .of (by kernel_rfl)
theorem qI5:Fq E M 33 2097008 [] [] [[0,0,0,0,0,0,0,0,0,0,0,9,9,10,21,24,5,30,0,0,2,9]] [[7],[0]]:= .of (by kernel_rfl)
theorem qI6:Fq E M 34 267911040 [] [] [[0,0,0,0,0,0,0,0,0,0,0,9,9,10,21,24,5,30,0,0,2,9],[0,0,0,0,0,0]] [[0,0,0,0,0,0,0,0,0,0,0,9,9,10,21,24,5,30,0,0,2,9]]:= .of (by kernel_rfl)
theorem qI7:Fq E M 35 66977664 [] [] [[0,0,0,0,0,0,0,0,0,0,0,9,9,10,21,24,5,30,0,0,2,9],[0,0,0,0,0,0]] [[0,0,0,0,0,0,0,0,0,0,0,9,9,10,21,24,5,30,0,0,2,9]]:= .of (by kernel_rfl)
theorem qI8:Fq E M 36 8388576 [] [] [[0,0,0,0,0,0,0,0,0,0,0,9,9,10,21,24,5,30,0,0,2,9],[0]] [[0,0,0,0,0,0,0,0,0,0,0,9,9,10,21,24,5,30,0,0,2,9]]:= .of (by kernel_rfl)
theorem qI9:Fq E M 37 2097120 [] [] [[0,0,0,0,0,0,0,0,0,0,0,9,9,10,21,24,5,30,0,0,2,9],[0]] [[0,0,0,0,0,0,0,0,0,0,0,9,9,10,21,24,5,30,0,0,2,9]]:= .of (by kernel_rfl)
theorem qJa:Fq E M 38 32736 [] [] [[0,0,0,0,0,0,0,0,0,0,0,9,9,10,21,24,5,30,0,0,2,9],[0]] [[0]]:= .of (by kernel_rfl)
theorem qJb:Fq E M 39 32736 [] [] [[0,0,0,0,0,0,0,0,0,0,0,9,9,10,21,24,5,30,0,0,2,9],[0]] [[0]]:= .of (by kernel_rfl)
theorem qJc:Fq E M 40 33536960 [] [] [[7],[7]] [[0]]:= .of (by kernel_rfl)
theorem qJd:Fq E M 41 67107760 [] [] [[24]] [[0]]:= .of (by kernel_rfl)
theorem qJe:Fq E M 45 4177408 [] [] [[0,0],[0,0,0,0,0,0],[0]] [[0,0,0,0,0,0,0,0],[0]]:= .of (by kernel_rfl)
theorem qJf:Fq E M 50 261040 [] [] [[9]] [[0]]:= .of (by kernel_rfl)
theorem qJg:Fq E M 51 129968 [] [] [[21]] [[0]]:= .of (by kernel_rfl)
theorem qJh:Fq E M 52 268434352 [] [] [[5]] [[0]]:= .of (by kernel_rfl)
theorem qJi:Fq E M 53 18446725929553100768 [] [] [[0,0,0,0,0,0,0,0,0,7,5]] [[0]]:= .of (by kernel_rfl)
theorem qF7:Fq E M 54 232 [] [1] [[9]] [[9]]:= .of (by kernel_rfl)
theorem qF8:Fq E M 55 232 [] [1] [[10]] [[10]]:= .of (by kernel_rfl)
theorem qF9:Fq E M 56 232 [] [1] [[21]] [[21]]:= .of (by kernel_rfl)
theorem qJj:Fq E M 57 16775392 [] [1] [[24]] [[24]]:= .of (by kernel_rfl)
theorem qGa:Fq E M 58 232 [] [] [[5]] [[5]]:= .of (by kernel_rfl)
theorem qGb:Fq E M 59 232 [] [1] [[30]] [[30]]:= .of (by kernel_rfl)
theorem qGc:Fq E M 60 232 [] [] [[2]] [[2]]:= .of (by kernel_rfl)
theorem qGd:Fq E M 61 232 [] [1] [[9]] [[9]]:= .of (by kernel_rfl)
theorem qGe:Fq E M 62 232 [] [1] [[2]] [[2]]:= .of (by kernel_rfl)
theorem qJk:Fq E M 64 133955344 [] [] [[0]] [[0]]:= .of (by kernel_rfl)
theorem qJl:Fq E M 65 56 [] [] [[0]] [[0]]:= .of (by kernel_rfl)
theorem qJm:Fq E M 67 134182896 [] [] [[0]] [[0]]:= .of (by kernel_rfl)
theorem qJn:Fq E M 74 33536960 [] [] [[9],[9]] [[0]]:= .of (by kernel_rfl)
theorem qJo:Fq E M 75 33536960 [] [] [[10],[10]] [[0]]:= .of (by kernel_rfl)
theorem qJp:Fq E M 76 33536960 [] [] [[21],[21]] [[0]]:= .of (by kernel_rfl)
theorem qJq:Fq E M 77 67091392 [] [] [[24],[24]] [[0]]:= .of (by kernel_rfl)
theorem qJr:Fq E M 78 33536960 [] [] [[5],[5]] [[0]]:= .of (by kernel_rfl)
theorem qJs:Fq E M 79 11417981541647597918827873148909761135493635584 [] [] [[30],[30]] [[0]]:= .of (by kernel_rfl)
theorem qJt:Fq E M 80 33536960 [] [] [[2],[2]] [[0]]:= .of (by kernel_rfl)
theorem qJu:Fq E M 81 33536960 [] [] [[9],[9]] [[0]]:= .of (by kernel_rfl)
theorem qJv:Fq E M 82 302231454903519854723040 [] [] [[0,0,0,0,0,0,0,0,0,7,5],[0,0,0,0,0,0,0,0,0,7,5]] [[0]]:= .of (by kernel_rfl)
theorem qHw:Fq E M 84 457792 [] [] [[30],[0]] [[0]]:= .of (by kernel_rfl)
theorem qJw:Fq E M 85 8589868800 [1] [1] [[30],[0],[0]] [[30]]:= .of (by kernel_rfl)
theorem qHx:Fq E M 87 4539628424388919296 [] [] [[0,0,0,0,0,0,0,0,0,0,0,9,9,10,21,24,5,30,0,0,2,9],[0],[0,0,0,0],[0],[0]] [[0,0,0,0,0,0,0,0,0,0,0,9,9,10,21,24,5,30,0,0,2,9]]:= .of (by kernel_rfl)
theorem qJx:Fq E M 96 120 [] [] [[0]] [[0]]:= .of (by kernel_rfl)
theorem qC9:Fq E M 100 4177408 [] [] [[0,0],[0,0,0,0,0,0],[0]] [[0,0,0,0,0,0,0,0],[0]]:= .of (by kernel_rfl)
theorem qDa:Fq E M 101 65376 [] [] [[0],[0]] [[0]]:= .of (by kernel_rfl)
theorem qAJ:Fq E M 107 130784 [] [] [[0]] [[0]]:= .of (by kernel_rfl)
theorem qDb:Fq E M 108 1073725424 [1] [] [[0]] [[0]]:= .of (by kernel_rfl)
theorem qpF:Fq E M 109 324518553658426726772160903249920 [] [1,1] [[0,0,0,0,0,0,0,0,0,0,0,9,9,10,21,24,5,30,0,0,2,9],[0],[0],[0],[0,0,0,0,0,0],[0],[0]] [[0,0,0,0,0,0,0,0,0,0,0,9,9,10,21,24,5,30,0,0,2,9],[21]]:= .of (by kernel_rfl)
theorem qf1:Fq E M 110 67574152064 [] [] [[0],[0]] [[0]]:= .of (by kernel_rfl)
theorem qwA:Fq E M 111 31728 [] [] [[0]] [[0]]:= .of (by kernel_rfl)
theorem qDc:Fq E M 112 4362862138883968 [] [] [[0,0,0,0,0,0,0,0,0,0,0,9,9,10,21,24,5,30,0,0,2,9],[0,0,0,0,0,0]] [[0,0,0,0,0,0,0,0,0,0,0,9,9,10,21,24,5,30,0,0,2,9]]:= .of (by kernel_rfl)
theorem qDd:Fq E M 113 2164663254016 [] [] [[0,0,0,0,0,0],[9],[0]] [[0,0,0,0,0,0]]:= .of (by kernel_rfl)
theorem qDe:Fq E M 114 1888 [] [] [[0,0,0,0,0,0,0,0,0,0,0,9,9,10,21,24,5,30,0,0,2,9],[0]] [[0]]:= .of (by kernel_rfl)
theorem qpG:Fq E M 115 4951760152529826285066649600 [] [] [[0,0,0,0,0,0,0,0,0,0,0,9,9,10,21,24,5,30,0,0,2,9],[0],[0],[0],[0,0,0,0,0,0],[0],[0]] [[0,0,0,0,0,0,0,0,0,0,0,9,9,10,21,24,5,30,0,0,2,9],[21]]:= .of (by kernel_rfl)
theorem qDf:Fq E M 116 33028992 [] [] [[5],[0]] [[0,0,0,0],[0]]:= .of (by kernel_rfl)
theorem qDg:Fq E M 117 4602608450394781696 [] [] [[5],[5]] [[5],[0]]:= .of (by kernel_rfl)
theorem qDh:Fq E M 118 4286574080 [] [] [[5],[0],[0]] [[5]]:= .of (by kernel_rfl)
theorem qDi:Fq E M 119 8160 [] [1] [[9],[0]] [[7]]:= .of (by kernel_rfl)
theorem qDj:Fq E M 120 523264 [] [1] [[9]] [[7]]:= .of (by kernel_rfl)
theorem qDk:Fq E M 121 1048288 [] [] [[9]] [[7]]:= .of (by kernel_rfl)
theorem qDl:Fq E M 122 72056490229234688 [] [] [[0,0,0,0,0,0],[9],[0,0,0,0,0,0,0,0]] [[9]]:= .of (by kernel_rfl)
theorem qDm:Fq E M 123 8854436029478528284672 [] [] [[0,0,0,0,0,0],[9],[0,0,0,0,0,0,0,0]] [[9]]:= .of (by kernel_rfl)
theorem qDn:Fq E M 124 480 [] [1] [[9],[0]] [[9]]:= .of (by kernel_rfl)
theorem qDo:Fq E M 125 1069531904 [] [] [[10],[0]] [[10]]:= .of (by kernel_rfl)
theorem qDp:Fq E M 126 535821184 [] [] [[9],[0]] [[9]]:= .of (by kernel_rfl)
theorem qDq:Fq E M 127 2139092736 [] [] [[10],[0]] [[10]]:= .of (by kernel_rfl)
theorem qDr:Fq E M 128 2080343040 [] [] [[0,0,0,0,0,0],[9],[0]] [[0,0,0,0,0,0]]:= .of (by kernel_rfl)
theorem qDs:Fq E M 129 120 [] [] [[0]] [[0]]:= .of (by kernel_rfl)
theorem qDt:Fq E M 134 67276634880 [] [] [[0,0],[0,0,0,0,0,0],[0]] [[0]]:= .of (by kernel_rfl)
theorem qDu:Fq E M 138 480 [] [] [[9],[0]] [[0]]:= .of (by kernel_rfl)
theorem qDv:Fq E M 146 262136 [] [] [[0,0,0,0,0,0,0,0,0,0,0,0,0,0,0,0,0,0,0,0]] [[0]]:= .of (by kernel_rfl)
theorem qwB:Fq E M 147 232 [] [1] [[24]] [[24]]:= .of (by kernel_rfl)
theorem qDw:Fq E M 148 4088 [] [] [[0,0,0,0,0,0,0,0,0,7,5]] [[0,0,0,0,0,0,0,0,0,7,5]]:= .of (by kernel_rfl)
theorem qAK:Fq E M 150 224 [] [] [[30],[0]] [[0]]:= .of (by kernel_rfl)
theorem qDx:Fq E M 151 128896 [] [] [[5],[0]] [[0,0,0,0],[0]]:= .of (by kernel_rfl)
theorem qDy:Fq E M 152 785856 [] [] [[30],[0]] [[0]]:= .of (by kernel_rfl)
theorem qDz:Fq E M 153 144115050636902368 [] [] [[0,0,0,0,0,0,0,0,0,0,0,0,0,0,0,0,0,0,0,0,0,7,5],[0,0,0,0,0,0,0,0,0,0,0,0,0,0,0,0,0,0,0,0,0,7,5]] [[0]]:= .of (by kernel_rfl)
theorem qAL:Fq E M 154 120 [] [1] [[0,0,0,0,0,0,0,0,0,0,0,9,9,10,21,24,5,30,0,0,2,9]] [[0]]:= .of (by kernel_rfl)
theorem qmw:Fq E M 155 590295810358704599040 [1] [] [[0],[0],[0,0,0,0],[0],[0]] []:= .of (by kernel_rfl)
theorem qDA:Fq E M 156 16743296 [] [] [[30],[0]] [[30]]:= .of (by kernel_rfl)
theorem qDB:Fq E M 158 224 [] [] [[0],[0]] [[0]]:= .of (by kernel_rfl)
theorem qDC:Fq E M 159 65520 [] [] [[2]] [[0]]:= .of (by kernel_rfl)
theorem qDD:Fq E M 163 17162550656 [] [] [[0,0],[0,0,0,0,0,0],[0]] [[0]]:= .of (by kernel_rfl)
theorem qDE:Fq E M 164 72634050390035251200 [] [] [[5],[0],[0],[0]] [[5],[0,0,0,0],[0]]:= .of (by kernel_rfl)
theorem qsB:Fq E M 165 274877857792 [1] [] [[0],[0,0,0,0,0,0],[0],[0],[0,0,0,0],[0],[0]] []:= .of (by kernel_rfl)
theorem qe2:Fq E M 166 4080 [] [] [[0]] [[0,0,0,0,0,0,0,0,0,0,0,9,9,10,21,24,5,30,0,0,2,9],[21]]:= .of (by kernel_rfl)
theorem qDF:Fq E M 167 1784 [] [] [[0]] [[0]]:= .of (by kernel_rfl)
theorem qwC:Fq E M 168 9982748476797305406488081063424 [] [] [[0],[0]] []:= .of (by kernel_rfl)
theorem qDG:Fq E M 169 262140 [1] [] [[0]] []:= .of (by kernel_rfl)
theorem qDH:Fq E M 170 2342736497358948794336 [1] [] [[0]] []:= .of (by kernel_rfl)
theorem qDI:Fq E M 171 8388604 [1] [] [[0]] []:= .of (by kernel_rfl)
theorem qDJ:Fq E M 172 17592183947184 [1] [] [[0]] []:= .of (by kernel_rfl)
theorem qDK:Fq E M 173 16777212 [1] [] [[0]] []:= .of (by kernel_rfl)
theorem qDL:Fq E M 174 274877906680 [1] [] [[0]] []:= .of (by kernel_rfl)
theorem qDM:Fq E M 175 32764 [1] [] [[0]] []:= .of (by kernel_rfl)
theorem qDN:Fq E M 176 0 [1] [] [[0]] []:= .of (by kernel_rfl)
theorem qDO:Fq E M 177 4193664 [] [] [[0],[0],[0]] [[0]]:= .of (by kernel_rfl)
theorem qAM:Fq E M 178 34359345152 [] [] [[0,0,0,0,0,0,0,0,0,0,0,9,9,10,21,24,5,30,0,0,2,9],[0,0,0,0,0,0],[0],[0],[0,0,0,0],[0],[0]] [[0,0,0,0,0,0,0,0,0,0,0,9,9,10,21,24,5,30,0,0,2,9],[21]]:= .of (by kernel_rfl)
theorem qDP:Fq E M 179 2269741575705706496 [] [] [[5],[0],[0],[0]] [[5],[0,0,0,0],[0]]:= .of (by kernel_rfl)
theorem qwD:Fq E M 180 5316911981901723415436355420689526784 [] [] [[0,0,0,0,0,0,0,0,0,0,0,9,9,10,21,24,5,30,0,0,2,9],[0]] [[0,0,0,0,0,0,0,0,0,0,0,9,9,10,21,24,5,30,0,0,2,9],[21]]:= .of (by kernel_rfl)
theorem qDQ:Fq E M 181 4194296 [] [] [[0,0,0,0]] [[0]]:= .of (by kernel_rfl)
theorem qDR:Fq E M 182 4503565267623680 [] [] [[5],[0,0,0,0]] [[5]]:= .of (by kernel_rfl)
theorem qDS:Fq E M 183 536866176 [] [] [[0],[0],[0]] [[0]]:= .of (by kernel_rfl)
theorem qDT:Fq E M 184 496 [] [] [[0,0,0,0,0,0,0,0]] [[0]]:= .of (by kernel_rfl)
theorem qDU:Fq E M 185 17171480064 [] [] [[0,0,0,0,0,0],[0,0,0,0,0,0,0,0],[0,0,0,0,0,0,0,0]] [[0]]:= .of (by kernel_rfl)
theorem qAN:Fq E M 186 39614080961984263615267404800 [1,0,1] [] [[9],[0],[9]] [[9]]:= .of (by kernel_rfl)
theorem qDV:Fq E M 187 274877906432 [] [] [[0,0,0,0,0,0],[0,0,0,0,0,0,0,0],[0,0,0,0,0,0,0,0]] [[0]]:= .of (by kernel_rfl)
theorem qDW:Fq E M 188 4397509111552 [1] [1] [[9],[0]] [[9]]:= .of (by kernel_rfl)
theorem qDX:Fq E M 189 496 [] [] [[0,0,0,0,0,0,0,0]] [[0]]:= .of (by kernel_rfl)
theorem qDY:Fq E M 190 2093248 [] [] [[2]] [[0]]:= .of (by kernel_rfl)
theorem qDZ:Fq E M 191 480 [] [] [[2],[2]] [[2]]:= .of (by kernel_rfl)
theorem qD0:Fq E M 192 33554416 [] [1] [[0,0,0,0,0,0]] [[2]]:= .of (by kernel_rfl)
theorem qD1:Fq E M 200 2199023255536 [] [] [[0,0,0,0,0,0]] [[0]]:= .of (by kernel_rfl)
theorem qD2:Fq E M 201 444288 [] [] [[0],[0]] [[0]]:= .of (by kernel_rfl)
theorem qD3:Fq E M 202 8160 [] [] [[0],[0,0,0,0,0,0]] [[0]]:= .of (by kernel_rfl)
theorem qAO:Fq E M 206 457792 [] [] [[9],[0]] [[0]]:= .of (by kernel_rfl)
theorem qwE:Fq E M 210 232 [] [] [[7]] [[7]]:= .of (by kernel_rfl)
theorem qD4:Fq E M 211 240 [] [] [[0,0,0,0,0,0,0,0,0,0,0,0,0,0,0,0,0,0,0,0,2,0,0,0,0,0,0,0,0]] [[0]]:= .of (by kernel_rfl)
theorem qD5:Fq E M 212 224 [] [] [[5],[0]] [[0]]:= .of (by kernel_rfl)
theorem qwF:Fq E M 213 268435392 [1] [] [[0],[0]] [[0,0,0,0,0,0,0,0,0,0,0,0,0,0,0,0,0,0,0,0,2,0,0,0,0,0,0,0,0]]:= .of (by kernel_rfl)
theorem qD6:Fq E M 217 1152921503532580608 [] [1] [[2]] [[2]]:= .of (by kernel_rfl)
theorem qD7:Fq E M 218 33554424 [] [] [[2]] [[0]]:= .of (by kernel_rfl)
theorem qD8:Fq E M 220 274877902840 [] [] [[0,0,0,0,0,0]] [[0]]:= .of (by kernel_rfl)
theorem qD9:Fq E M 221 4064 [] [] [[0],[0,0,0,0,0,0]] [[0]]:= .of (by kernel_rfl)
theorem qEa:Fq E M 222 24 [] [] [[5]] [[5]]:= .of (by kernel_rfl)
theorem qEb:Fq E M 223 70093865746176 [] [] [[5],[0,0,0,0]] [[5]]:= .of (by kernel_rfl)
theorem qsC:Fq E M 224 201326528 [] [] [[0],[0]] [[0]]:= .of (by kernel_rfl)
theorem qEc:Fq E M 225 56 [] [] [[0]] [[0]]:= .of (by kernel_rfl)
theorem qEd:Fq E M 226 480 [] [] [[2],[0]] [[0]]:= .of (by kernel_rfl)
theorem qsD:Fq E M 227 262128 [1] [] [[0],[0,0,0,0,0,0,0,0,0,0,0,0,0,0,0,0,0,0,0,0,2,0,0,0,0,0,0,0,0]] []:= .of (by kernel_rfl)
theorem qEe:Fq E M 228 16777088 [] [] [[0],[0],[0]] [[0]]:= .of (by kernel_rfl)
theorem qEf:Fq E M 229 9002800134238208 [] [] [[5],[5]] [[5],[0]]:= .of (by kernel_rfl)
theorem qEg:Fq E M 230 266321920 [] [] [[5],[0],[0]] [[5]]:= .of (by kernel_rfl)
theorem qEh:Fq E M 231 168 [] [] [[0]] [[0]]:= .of (by kernel_rfl)
theorem qEi:Fq E M 232 130496 [] [] [[2],[0]] [[0]]:= .of (by kernel_rfl)
theorem qEj:Fq E M 233 262016 [] [] [[0,0,0,0,0,0,0,0,0,0,0,9,9,10,21,24,5,30,0,0,2,9],[0],[0,0,0,0,0,0,0,0,0,0,0,0,0,0,0,0,0,0,0,0,2,0,0,0,0,0,0,0,0]] [[0,0,0,0,0,0,0,0,0,0,0,9,9,10,21,24,5,30,0,0,2,9]]:= .of (by kernel_rfl)
theorem qEk:Fq E M 234 785856 [] [] [[5],[0]] [[0]]:= .of (by kernel_rfl)
theorem qEl:Fq E M 235 137422143424 [] [] [[0],[0]] [[0]]:= .of (by kernel_rfl)
theorem qEm:Fq E M 238 137422143424 [] [] [[0],[0]] [[0]]:= .of (by kernel_rfl)
theorem qEn:Fq E M 239 4503569561550336 [] [] [[2]] [[2]]:= .of (by kernel_rfl)
theorem qEo:Fq E M 240 131008 [] [] [[2],[2]] [[2]]:= .of (by kernel_rfl)
theorem qAP:Fq E M 241 4294729472 [1] [1] [[2],[0],[0]] [[2]]:= .of (by kernel_rfl)
theorem qAQ:Fq E M 242 131040 [1] [1] [[2],[0]] [[2]]:= .of (by kernel_rfl)
theorem qEp:Fq E M 244 274806996960 [] [] [[0]] [[0]]:= .of (by kernel_rfl)
theorem qEq:Fq E M 245 56 [] [] [[0]] [[0]]:= .of (by kernel_rfl)
theorem qEr:Fq E M 246 3968 [] [] [[2],[2],[2]] [[0]]:= .of (by kernel_rfl)
theorem qEs:Fq E M 248 457792 [] [] [[5],[0]] [[0]]:= .of (by kernel_rfl)
theorem qEt:Fq E M 249 240 [] [] [[0,0,0,0]] [[0]]:= .of (by kernel_rfl)
theorem qEu:Fq E M 252 68702633792 [] [] [[0]] [[2]]:= .of (by kernel_rfl)
theorem qEv:Fq E M 253 2 [] [] [] [[2]]:= .of (by kernel_rfl)
theorem qEw:Fq E M 254 215679573337205118357336120696151728477114015716832964620587687215104 [] [] [[2],[2]] [[2]]:= .of (by kernel_rfl)
theorem qEx:Fq E M 255 266207216 [] [] [[0]] [[0]]:= .of (by kernel_rfl)
theorem qEy:Fq E M 256 8160 [] [] [[0],[0,0,0,0,0,0]] [[0,0,0,0,0,0]]:= .of (by kernel_rfl)
theorem qEz:Fq E M 257 39614080961984263615267404800 [1] [] [[5],[0],[5]] [[5]]:= .of (by kernel_rfl)
theorem qEA:Fq E M 258 457792 [] [] [[2],[0]] [[0]]:= .of (by kernel_rfl)
theorem qEB:Fq E M 259 2097144 [] [] [[0,0,0,0]] [[0]]:= .of (by kernel_rfl)
theorem qEC:Fq E M 260 16777088 [] [] [[0],[0],[0]] [[0]]:= .of (by kernel_rfl)
theorem qHy:Fq E M 262 68215103488 [] [] [[2]] [[2]]:= .of (by kernel_rfl)
theorem qED:Fq E M 263 1073676096 [] [] [[0]] [[2]]:= .of (by kernel_rfl)
theorem qEE:Fq E M 264 2 [] [] [] [[0,0,0,0,0,0,0,0]]:= .of (by kernel_rfl)
theorem qEF:Fq E M 265 2595197691317242642214125633929216 [] [] [[0,0,0,0,0,0,0,0],[0,0,0,0,0,0,0,0,0,0,0,0,0,0,0,0,0,0,0,0,0,0,0,0,0,0,0,0,0,0,0,0,0,0,0,0,0,0,0,0,0,0,0,0,0,0,0,0,0,0,0,0,0,0,0,0,0,0,0,0,0,0,0,0]] [[0,0,0,0,0,0,0,0]]:= .of (by kernel_rfl)
theorem qEG:Fq E M 266 8381312 [] [] [[2],[0]] [[2]]:= .of (by kernel_rfl)
theorem qEH:Fq E M 267 992 [] [] [[2],[2]] [[2]]:= .of (by kernel_rfl)
theorem qEI:Fq E M 268 504 [] [] [[0]] [[0]]:= .of (by kernel_rfl)
theorem qEJ:Fq E M 269 65504 [] [] [[2],[2]] [[0]]:= .of (by kernel_rfl)
theorem qEK:Fq E M 270 8160 [] [] [[0],[0]] [[0]]:= .of (by kernel_rfl)
theorem qEL:Fq E M 271 2 [] [] [] [[2]]:= .of (by kernel_rfl)
theorem qEM:Fq E M 272 64960 [] [] [[0],[0]] [[0]]:= .of (by kernel_rfl)
theorem qEN:Fq E M 273 274877902336 [] [] [[2],[2]] [[2]]:= .of (by kernel_rfl)
theorem qEO:Fq E M 274 67108848 [] [1] [[0,0,0,0,0,0]] [[2]]:= .of (by kernel_rfl)
theorem qEP:Fq E M 279 38685626227650541404552192 [] [] [[0,0,0,0,0,0,0,0,0,0,0,0,0,0,0,0,0,0,0,0,0,0,0,0,0,0,0,0,0,0,0,0,0,0,0,0,0,0,0,0,0,0,0,0,0,0,0,0,0,0,0,0,0,0,0,0,0,0,0,0,0,0,0,0]] [[0,0,0,0,0,0,0,0,0,0,0,0,0,0,0,0,0,0,0,0,0,0,0,0,0,0,0,0,0,0,0,0,0,0,0,0,0,0,0,0,0,0,0,0,0,0,0,0,0,0,0,0,0,0,0,0,0,0,0,0,0,0,0,0]]:= .of (by kernel_rfl)
theorem qEQ:Fq E M 280 480 [] [] [[0],[0]] [[0]]:= .of (by kernel_rfl)
theorem qER:Fq E M 281 16344 [] [1] [[2]] [[2]]:= .of (by kernel_rfl)
theorem qES:Fq E M 282 56 [] [] [[2]] [[0]]:= .of (by kernel_rfl)
theorem qET:Fq E M 283 8589704960 [] [] [[2],[2]] [[2]]:= .of (by kernel_rfl)
theorem qEU:Fq E M 284 507376 [] [1] [[2]] [[2]]:= .of (by kernel_rfl)
theorem qEV:Fq E M 285 261984 [] [1] [[2],[0]] [[2]]:= .of (by kernel_rfl)
theorem qEW:Fq E M 286 70351560080384 [] [1] [[2],[0],[0]] [[2]]:= .of (by kernel_rfl)
theorem qEX:Fq E M 288 131008 [] [] [[0],[0]] [[0]]:= .of (by kernel_rfl)
theorem qwG:Fq E M 289 232 [] [1] [[2]] [[2]]:= .of (by kernel_rfl)
theorem qEY:Fq E M 290 130048 [] [] [[2]] [[0]]:= .of (by kernel_rfl)
attribute [go_sem] tq3 tq4 tq5 tq9 qsA qAI qKG qKH qKI qKJ qKK qKL qKM qKN qKO qKP qKQ qKR qKS qKT qKU qKV qKW qKX qKY qKZ qG4 qK0 qK1 qK2 qK3 qK4 qK5 qK6 qG5 qK7 qK8 qK9 qLa qLb qLc qLd qLe qLf qLg qLh qLi qG6 qG7 qG8 qG9 qHa qHb qHc qHd qHe qHf qHg qHh qHi qHj qHk qHl qHm qHn qHo qHp qLj qLk qLl qLm qLn qLo qLp qLq qLr qLs qLt qHq qHr qHs qLu qLv qLw qLx qLy qLz qLA qLB qHt qHu qHv fq5 qIY qIZ qF6 qI0 qI1 qI2 qI3 qmv qkq qI4 qI5 qI6 qI7 qI8 qI9 qJa qJb qJc qJd qJe qJf qJg qJh qJi qF7 qF8 qF9 qJj qGa qGb qGc qGd qGe qJk qJl qJm qJn qJo qJp qJq qJr qJs qJt qJu qJv qHw qJw qHx qJx qC9 qDa qAJ qDb qpF qf1 qwA qDc qDd qDe qpG qDf qDg qDh qDi qDj qDk qDl qDm qDn qDo qDp qDq qDr qDs qDt qDu qDv qwB qDw qAK qDx qDy qDz qAL qmw qDA qDB qDC qDD qDE qsB qe2 qDF qwC qDG qDH qDI qDJ qDK qDL qDM qDN qDO qAM qDP qwD qDQ qDR qDS qDT qDU qAN qDV qDW qDX qDY qDZ qD0 qD1 qD2 qD3 qAO qwE qD4 qD5 qwF qD6 qD7 qD8 qD9 qEa qEb qsC qEc qEd qsD qEe qEf qEg qEh qEi qEj qEk qEl qEm qEn qEo qAP qAQ qEp qEq qEr qEs qEt qEu qEv qEw qEx qEy qEz qEA qEB qEC qHy qED qEE qEF qEG qEH qEI qEJ qEK qEL qEM qEN qEO qEP qEQ qER qES qET qEU qEV qEW qEX qwG qEY
end Go.Proofs.YtnpkhdjgedeppaaGreatDoor
