import Derived.Test.YtnpkhdjgedeppaaGreatDoorProg
import Derived.Test.YtnpkhdjgedeppaaGreatDoorFc
namespace Go.Proofs.YtnpkhdjgedeppaaGreatDoor
open Go.Am
set_option maxRecDepth 100000
def qNd:FuncId→List Nat
 | 85=>[1]
 | 108=>[1]
 | 155=>[1]
 | 165=>[1]
 | 169=>[1]
 | 170=>[1]
 | 171=>[1]
 | 172=>[1]
 | 173=>[1]
 | 174=>[1]
 | 175=>[1]
 | 176=>[1]
 | 186=>[1,0,1]
 | 188=>[1]
 | 213=>[1]
 | 227=>[1]
 | 241=>[1]
 | 242=>[1]
 | 257=>[1]
 | _=>[]
def qNe:FuncId→List Nat
 | 13=>[1]
 | 54=>[1]
 | 55=>[1]
 | 56=>[1]
 | 57=>[1]
 | 59=>[1]
 | 61=>[1]
 | 62=>[1]
 | 85=>[1]
 | 86=>[1]
 | 109=>[1,1]
 | 119=>[1]
 | 120=>[1]
 | 124=>[1]
 | 135=>[1,1]
 | 147=>[1]
 | 154=>[1]
 | 188=>[1]
 | 192=>[1]
 | 203=>[1,1]
 | 217=>[1]
 | 241=>[1]
 | 242=>[1]
 | 243=>[1,1]
 | 274=>[1]
 | 281=>[1]
 | 284=>[1]
 | 285=>[1]
 | 286=>[1]
 | 289=>[1]
 | _=>[]
def qNf:FuncId→Nat
 | 3=>1298074214633706907132349200203776
 | 4=>5192296858534827628530358881878016
 | 5=>72057594033729536
 | 6=>302231454903657025232896
 | 7=>36893488146882215936
 | 8=>3987679154364298561059369121588707328
 | 9=>144115188067465216
 | 10=>383123508400083696730193447178714151623171820446809856
 | 11=>131040
 | 12=>18889465931474285887328
 | 13=>1152890718281269232
 | 14=>618969982740194756415447040
 | 15=>5070602325281122753404129476608
 | 16=>2080512
 | 17=>259968
 | 18=>41538335254187919160857634757672928
 | 19=>1208925819614629174688704
 | 20=>8796092956416
 | 21=>562949684983680
 | 22=>8184
 | 23=>648878573016108406821640531337216
 | 24=>43555810658881167422789590669213559635968
 | 25=>9223230164958179328
 | 26=>1237937604315144935838838784
 | 27=>2080512
 | 28=>259968
 | 29=>4722366482869645213652
 | 30=>38685626225416058890614784
 | 31=>24495977542185658032684733417564232422615506979471212544
 | 32=>131040
 | 33=>2097008
 | 34=>267911040
 | 35=>66977664
 | 36=>8388576
 | 37=>2097120
 | 38=>32736
 | 39=>32736
 | 40=>33536960
 | 41=>67107760
 | 42=>1180591620717411303072
 | 43=>4397509632000
 | 44=>39608943026674368053948444672
 | 45=>4177408
 | 46=>4396968562624
 | 47=>30786191097792
 | 48=>2301339409585338368
 | 49=>302083880951067617259136
 | 50=>261040
 | 51=>129968
 | 52=>268434352
 | 53=>18446725929553100768
 | 54=>232
 | 55=>232
 | 56=>232
 | 57=>16775392
 | 58=>232
 | 59=>232
 | 60=>232
 | 61=>232
 | 62=>232
 | 63=>65528
 | 64=>133955344
 | 65=>56
 | 66=>480
 | 67=>134182896
 | 68=>2040
 | 69=>562881233944320
 | 70=>649037107279056074959281169891072
 | 71=>4080
 | 72=>3145664
 | 73=>18889465931409794268160
 | 74=>33536960
 | 75=>33536960
 | 76=>33536960
 | 77=>67091392
 | 78=>33536960
 | 79=>11417981541647597918827873148909761135493635584
 | 80=>33536960
 | 81=>33536960
 | 82=>302231454903519854723040
 | 83=>8176
 | 84=>457792
 | 85=>8589868800
 | 86=>16773120
 | 87=>4539628424388919296
 | 88=>65504
 | 89=>15872
 | 90=>2040
 | 91=>240
 | 92=>144112989052600288
 | 93=>2251799813684352
 | 94=>67108848
 | 95=>131040
 | 96=>120
 | 97=>8386048
 | 98=>7936
 | 99=>262016
 | 100=>4177408
 | 101=>65376
 | 102=>268433408
 | 103=>134215664
 | 104=>9006099717947264
 | 105=>67108608
 | 106=>68719410688
 | 107=>130784
 | 108=>1073725424
 | 109=>324518553658426726772160903249920
 | 110=>67574152064
 | 111=>31728
 | 112=>4362862138883968
 | 113=>2164663254016
 | 114=>1888
 | 115=>4951760152529826285066649600
 | 116=>33028992
 | 117=>4602608450394781696
 | 118=>4286574080
 | 119=>8160
 | 120=>523264
 | 121=>1048288
 | 122=>72056490229234688
 | 123=>8854436029478528284672
 | 124=>480
 | 125=>1069531904
 | 126=>535821184
 | 127=>2139092736
 | 128=>2080343040
 | 129=>120
 | 130=>8160
 | 131=>112
 | 132=>43680
 | 133=>1047808
 | 134=>67276634880
 | 135=>1984
 | 136=>1984
 | 137=>896
 | 138=>480
 | 139=>240
 | 140=>480
 | 141=>1008
 | 142=>896
 | 143=>261568
 | 144=>523712
 | 145=>1073739520
 | 146=>262136
 | 147=>232
 | 148=>4088
 | 149=>4194048
 | 150=>224
 | 151=>128896
 | 152=>785856
 | 153=>144115050636902368
 | 154=>120
 | 155=>590295810358704599040
 | 156=>16743296
 | 157=>67106304
 | 158=>224
 | 159=>65520
 | 160=>268173120
 | 161=>536870144
 | 162=>16224
 | 163=>17162550656
 | 164=>72634050390035251200
 | 165=>274877857792
 | 166=>4080
 | 167=>1784
 | 168=>9982748476797305406488081063424
 | 169=>262140
 | 170=>2342736497358948794336
 | 171=>8388604
 | 172=>17592183947184
 | 173=>16777212
 | 174=>274877906680
 | 175=>32764
 | 177=>4193664
 | 178=>34359345152
 | 179=>2269741575705706496
 | 180=>5316911981901723415436355420689526784
 | 181=>4194296
 | 182=>4503565267623680
 | 183=>536866176
 | 184=>496
 | 185=>17171480064
 | 186=>39614080961984263615267404800
 | 187=>274877906432
 | 188=>4397509111552
 | 189=>496
 | 190=>2093248
 | 191=>480
 | 192=>33554416
 | 193=>8176
 | 194=>496
 | 195=>268435184
 | 196=>16368
 | 197=>32752
 | 198=>16775136
 | 199=>9006924360055808
 | 200=>2199023255536
 | 201=>444288
 | 202=>8160
 | 203=>4503565267499008
 | 204=>1065336832
 | 205=>4032
 | 206=>457792
 | 207=>457792
 | 208=>480
 | 209=>65504
 | 210=>232
 | 211=>240
 | 212=>224
 | 213=>268435392
 | 214=>65408
 | 215=>1048032
 | 216=>2016
 | 217=>1152921503532580608
 | 218=>33554424
 | 219=>4190080
 | 220=>274877902840
 | 221=>4064
 | 222=>24
 | 223=>70093865746176
 | 224=>201326528
 | 225=>56
 | 226=>480
 | 227=>262128
 | 228=>16777088
 | 229=>9002800134238208
 | 230=>266321920
 | 231=>168
 | 232=>130496
 | 233=>262016
 | 234=>785856
 | 235=>137422143424
 | 237=>1008
 | 238=>137422143424
 | 239=>4503569561550336
 | 240=>131008
 | 241=>4294729472
 | 242=>131040
 | 243=>32512
 | 244=>274806996960
 | 245=>56
 | 246=>3968
 | 247=>457792
 | 248=>457792
 | 249=>240
 | 250=>2251799813668864
 | 251=>261984
 | 252=>68702633792
 | 253=>2
 | 254=>215679573337205118357336120696151728477114015716832964620587687215104
 | 255=>266207216
 | 256=>8160
 | 257=>39614080961984263615267404800
 | 258=>457792
 | 259=>2097144
 | 260=>16777088
 | 261=>16368
 | 262=>68215103488
 | 263=>1073676096
 | 264=>2
 | 265=>2595197691317242642214125633929216
 | 266=>8381312
 | 267=>992
 | 268=>504
 | 269=>65504
 | 270=>8160
 | 271=>2
 | 272=>64960
 | 273=>274877902336
 | 274=>67108848
 | 276=>1008
 | 277=>268434928
 | 278=>134152096
 | 279=>38685626227650541404552192
 | 280=>480
 | 281=>16344
 | 282=>56
 | 283=>8589704960
 | 284=>507376
 | 285=>261984
 | 286=>70351560080384
 | 287=>16368
 | 288=>131008
 | 289=>232
 | 290=>130048
 | 291=>268434928
 | _=>0
def qCp:List Int:=[1116352408,1899447441,3049323471,3921009573,961987163,1508970993,2453635748,2870763221,3624381080,310598401,607225278,1426881987,1925078388,2162078206,2614888103,3248222580,3835390401,4022224774,264347078,604807628,770255983,1249150122,1555081692,1996064986,2554220882,2821834349,2952996808,3210313671,3336571891,3584528711,113926993,338241895,666307205,773529912,1294757372,1396182291,1695183700,1986661051,2177026350,2456956037,2730485921,2820302411,3259730800,3345764771,3516065817,3600352804,4094571909,275423344,430227734,506948616,659060556,883997877,958139571,1322822218,1537002063,1747873779,1955562222,2024104815,2227730452,2361852424,2428436474,2756734187,3204031479,3329325298]
def qCq:qJq:=[(0,"carcanet/digest.constants",.u32,qCp)]
noncomputable def E:Env:=⟨Tryz.prog,qAE qCq⟩
def nlM:FuncId→List (Nat×Nat)
 | 14=>[(18,2001)]
 | 15=>[(64,2001)]
 | 20=>[(33,0)]
 | 21=>[(3,29)]
 | 24=>[(64,906),(64,1004),(70,906),(70,1004)]
 | 30=>[(33,906),(33,1004)]
 | 31=>[(19,906),(19,1004)]
 | 48=>[(5,20),(55,906),(55,1004)]
 | 49=>[(5,20),(73,906),(73,1004)]
 | 85=>[(13,1),(26,1)]
 | 92=>[(33,906),(33,1004),(49,906),(49,1004)]
 | 94=>[(24,906),(24,1004)]
 | 102=>[(17,906),(17,1004)]
 | 115=>[(77,2001)]
 | 120=>[(3,6)]
 | 121=>[(3,6)]
 | 126=>[(5,8)]
 | 127=>[(5,9)]
 | 156=>[(5,29)]
 | 161=>[(5,1)]
 | 165=>[(32,906),(32,1004)]
 | 168=>[(77,906),(76,0)]
 | 170=>[(67,0)]
 | 171=>[(19,0)]
 | 178=>[(29,906),(29,1004)]
 | 180=>[(8,20),(71,906),(70,0)]
 | 204=>[(5,8)]
 | _=>[]
def qJG:List (FuncId×Nat):=[(166,20000),(110,40000),(69,60000),(149,80000),(70,100000),(71,120000),(105,140000),(91,160000),(90,180001),(94,200000),(92,220000),(93,240000),(103,260000),(104,280000),(236,300001)]
noncomputable def M:Mds:=⟨qNd,qNe,qNf,nlM,[],qJG,0,none⟩
@[go_sem] theorem qNg:M.cur=[]:=Eq.trans rfl rfl
@[go_sem] theorem qLD:M.inls=[(166,20000),(110,40000),(69,60000),(149,80000),(70,100000),(71,120000),(105,140000),(91,160000),(90,180001),(94,200000),(92,220000),(93,240000),(103,260000),(104,280000),(236,300001)]:=Eq.trans rfl rfl
@[go_sem] theorem qLE:M.base=0:=Eq.trans rfl rfl
@[go_sem] theorem qPW:M.gh=none:=Eq.trans rfl rfl
@[go_sem] theorem qPX:M.nl 14=[(18,2001)]:=Eq.trans rfl rfl
@[go_sem] theorem qPY:M.nl 15=[(64,2001)]:=Eq.trans rfl rfl
@[go_sem] theorem qPZ:M.nl 20=[(33,0)]:=Eq.trans rfl rfl
@[go_sem] theorem qP0:M.nl 21=[(3,29)]:=Eq.trans rfl rfl
@[go_sem] theorem qP1:M.nl 24=[(64,906),(64,1004),(70,906),(70,1004)]:=Eq.trans rfl rfl
@[go_sem] theorem qP2:M.nl 30=[(33,906),(33,1004)]:=Eq.trans rfl rfl
@[go_sem] theorem qP3:M.nl 31=[(19,906),(19,1004)]:=Eq.trans rfl rfl
@[go_sem] theorem qP4:M.nl 48=[(5,20),(55,906),(55,1004)]:=Eq.trans rfl rfl
@[go_sem] theorem qP5:M.nl 49=[(5,20),(73,906),(73,1004)]:=Eq.trans rfl rfl
@[go_sem] theorem qP6:M.nl 85=[(13,1),(26,1)]:=Eq.trans rfl rfl
@[go_sem] theorem qP7:M.nl 92=[(33,906),(33,1004),(49,906),(49,1004)]:=Eq.trans rfl rfl
@[go_sem] theorem qP8:M.nl 94=[(24,906),(24,1004)]:=Eq.trans rfl rfl
@[go_sem] theorem qNh:M.nl 102=[(17,906),(17,1004)]:=Eq.trans rfl rfl
@[go_sem] theorem qNi:M.nl 115=[(77,2001)]:=Eq.trans rfl rfl
@[go_sem] theorem qNj:M.nl 120=[(3,6)]:=Eq.trans rfl rfl
@[go_sem] theorem qNk:M.nl 121=[(3,6)]:=Eq.trans rfl rfl
@[go_sem] theorem qNl:M.nl 126=[(5,8)]:=Eq.trans rfl rfl
@[go_sem] theorem qNm:M.nl 127=[(5,9)]:=Eq.trans rfl rfl
@[go_sem] theorem qNn:M.nl 156=[(5,29)]:=Eq.trans rfl rfl
@[go_sem] theorem qNo:M.nl 161=[(5,1)]:=Eq.trans rfl rfl
@[go_sem] theorem qNp:M.nl 165=[(32,906),(32,1004)]:=Eq.trans rfl rfl
@[go_sem] theorem qNq:M.nl 168=[(77,906),(76,0)]:=Eq.trans rfl rfl
@[go_sem] theorem qNr:M.nl 170=[(67,0)]:=Eq.trans rfl rfl
@[go_sem] theorem qNs:M.nl 171=[(19,0)]:=Eq.trans rfl rfl
@[go_sem] theorem qNt:M.nl 178=[(29,906),(29,1004)]:=Eq.trans rfl rfl
@[go_sem] theorem qNu:M.nl 180=[(8,20),(71,906),(70,0)]:=Eq.trans rfl rfl
@[go_sem] theorem qNv:M.nl 204=[(5,8)]:=Eq.trans rfl rfl
noncomputable def C0:Cf:=⟨E,M,fun _=>none⟩
@[go_sem] theorem qP9:C0.E=E:=rfl
@[go_sem] theorem qQa:C0.M=M:=rfl
theorem qa4:E.P.follows .mixedOrders=true:=by kernel_rfl
@[go_sem] theorem qNw (f):ev E.Γ f (.global 0)= .iptr (qAD .u32 qCp):=rfl
theorem tq3:Tq E 3 (some 1) (some false) (some [.int .i64 (0)]) false true false (some .i64) true false:= .of (by kernel_rfl)
theorem tq4:Tq E 4 (some 1) (some false) (some [.bool false]) false false true none true false:= .of (by kernel_rfl)
theorem tq5:Tq E 5 (some 1) (some false) (some [.int .u8 (0)]) false true false (some .u8) true false:= .of (by kernel_rfl)
theorem tq9:Tq E 9 (some 1) (some false) (some [.str []]) true false false none true false:= .of (by kernel_rfl)
theorem qqB:Tq E 22 (some 1) (some false) (some [.int .u64 (0)]) false true false (some .u64) true false:= .of (by kernel_rfl)
theorem qCr:Tq E 24 (some 6) (some true) (some [.str [],.int .u64 (0),.int .i64 (0),.int .i64 (0),.int .i64 (0),.str []]) false false false none true false:= .of (by kernel_rfl)
theorem qNx:Uq E 24 none none none false false true none:= .of (by kernel_rfl)
theorem qNy:Tq E 26 (some 2) (some true) (some [.int .i64 (0),.str []]) false false false none true false:= .of (by kernel_rfl)
theorem qNz:Uq E 26 none none none false false true none:= .of (by kernel_rfl)
theorem qNA:Tq E 27 (some 1) (some false) (some [.sc (.slice none 0 0)]) false false false none true false:= .of (by kernel_rfl)
theorem qNB:Uq E 27 (some 8) (some 80) (some [.str [],.int .u64 (0),.int .i64 (0),.int .i64 (0),.int .i64 (0),.str [],.int .i64 (0),.int .i64 (0)]) false false false none:= .of (by kernel_rfl)
theorem qNC:Tq E 28 (some 1) (some false) (some [.sc (.slice none 0 0)]) false false false none true false:= .of (by kernel_rfl)
theorem qND:Uq E 28 (some 9) (some 88) (some [.int .i64 (0),.str [],.int .u64 (0),.int .i64 (0),.int .i64 (0),.int .i64 (0),.str [],.int .i64 (0),.int .i64 (0)]) false false false none:= .of (by kernel_rfl)
theorem qNE:Tq E 29 (some 1) (some false) (some [.sc (.slice none 0 0)]) false false false none true false:= .of (by kernel_rfl)
theorem qNF:Uq E 29 (some 20) (some 192) (some [.int .u64 (0),.int .u64 (0),.str [],.int .u64 (0),.int .i64 (0),.int .i64 (0),.int .i64 (0),.str [],.int .i64 (0),.int .i64 (0),.str [],.str [],.int .i64 (0),.int .i64 (0),.int .i64 (0),.int .i64 (0),.int .i64 (0),.int .u64 (0),.int .u64 (0),.int .i64 (0)]) false false false none:= .of (by kernel_rfl)
theorem qNG:Tq E 30 (some 1) (some false) (some [.sc (.slice none 0 0)]) false false false none true false:= .of (by kernel_rfl)
theorem qNH:Uq E 30 (some 23) (some 240) (some [.int .i64 (0),.int .i64 (0),.int .i64 (0),.int .i64 (0),.int .i64 (0),.int .u64 (0),.str [],.int .u64 (0),.int .i64 (0),.int .i64 (0),.int .i64 (0),.str [],.int .i64 (0),.int .i64 (0),.int .i64 (0),.int .i64 (0),.int .u64 (0),.bool false,.bool false,.str [],.str [],.sc (.slice none 0 0),.sc (.slice none 0 0)]) false false false none:= .of (by kernel_rfl)
theorem qNI:Tq E 31 (some 1) (some false) (some [.sc (.slice none 0 0)]) false false false none true false:= .of (by kernel_rfl)
theorem qNJ:Uq E 31 (some 4) (some 48) (some [.str [],.str [],.int .i64 (0),.bool false]) false false false none:= .of (by kernel_rfl)
theorem qNK:Tq E 32 (some 1) (some false) (some [.sc (.slice none 0 0)]) false false false none true false:= .of (by kernel_rfl)
theorem qNL:Uq E 32 (some 29) (some 312) (some [.int .i64 (0),.int .i64 (0),.int .i64 (0),.int .i64 (0),.int .i64 (0),.int .i64 (0),.str [],.str [],.str [],.int .u64 (0),.int .i64 (0),.int .i64 (0),.int .i64 (0),.str [],.str [],.str [],.int .i64 (0),.bool false,.int .i64 (0),.int .i64 (0),.sc (.slice none 0 0),.str [],.int .u64 (0),.int .i64 (0),.int .i64 (0),.int .i64 (0),.str [],.int .i64 (0),.int .i64 (0)]) false false false none:= .of (by kernel_rfl)
theorem qNM:Tq E 33 (some 1) (some false) (some [.sc (.slice none 0 0)]) false false false none true false:= .of (by kernel_rfl)
theorem qNN:Uq E 33 (some 1) (some 8) (some [.int .u64 (0)]) false false false none:= .of (by kernel_rfl)
theorem qNO:Tq E 34 (some 1) (some false) (some [.sc (.slice none 0 0)]) false false false none true false:= .of (by kernel_rfl)
theorem qNP:Uq E 34 (some 8) (some 72) (some [.int .i64 (0),.int .i64 (0),.int .i64 (0),.str [],.str [],.bool false,.bool false,.int .i64 (0)]) false false false none:= .of (by kernel_rfl)
theorem qNQ:Tq E 36 (some 22) (some true) (some [.str [],.int .u64 (0),.int .i64 (0),.int .i64 (0),.int .i64 (0),.str [],.int .i64 (0),.str [],.int .i64 (0),.str [],.bool false,.sc (.slice none 0 0),.sc (.slice none 0 0),.sc (.slice none 0 0),.sc (.slice none 0 0),.sc (.slice none 0 0),.sc (.slice none 0 0),.sc (.slice none 0 0),.int .i64 (0),.int .i64 (0),.sc (.slice none 0 0),.sc (.slice none 0 0)]) false false false none true false:= .of (by kernel_rfl)
theorem qNR:Uq E 36 none none none false false true none:= .of (by kernel_rfl)
theorem qJH:Tq E 39 (some 1) (some false) (some [.int .i64 (0)]) false true false (some .i64) true false:= .of (by kernel_rfl)
theorem qNS:Tq E 40 (some 1) (some false) (some [.sc (.slice none 0 0)]) false false false none true false:= .of (by kernel_rfl)
theorem qNT:Uq E 40 (some 6) (some 64) (some [.str [],.int .u64 (0),.int .i64 (0),.int .i64 (0),.int .i64 (0),.str []]) false false false none:= .of (by kernel_rfl)
theorem qNU:Tq E 42 (some 11) (some true) (some [.int .i64 (0),.int .i64 (0),.int .i64 (0),.int .i64 (0),.int .u64 (0),.bool false,.bool false,.str [],.str [],.sc (.slice none 0 0),.sc (.slice none 0 0)]) false false false none true false:= .of (by kernel_rfl)
theorem qNV:Uq E 42 none none none false false true none:= .of (by kernel_rfl)
theorem qNW:Tq E 45 (some 1) (some false) (some [.sc (.slice none 0 0)]) false false false none true false:= .of (by kernel_rfl)
theorem qNX:Uq E 45 (some 20) (some 216) (some [.bool false,.str [],.int .u64 (0),.int .i64 (0),.int .i64 (0),.int .i64 (0),.str [],.int .i64 (0),.int .i64 (0),.int .i64 (0),.int .i64 (0),.int .u64 (0),.bool false,.bool false,.str [],.str [],.sc (.slice none 0 0),.sc (.slice none 0 0),.int .i64 (0),.int .i64 (0)]) false false false none:= .of (by kernel_rfl)
theorem qNY:Tq E 69 (some 23) (some true) (some [.int .i64 (0),.int .i64 (0),.int .i64 (0),.int .i64 (0),.int .i64 (0),.int .u64 (0),.str [],.int .u64 (0),.int .i64 (0),.int .i64 (0),.int .i64 (0),.str [],.int .i64 (0),.int .i64 (0),.int .i64 (0),.int .i64 (0),.int .u64 (0),.bool false,.bool false,.str [],.str [],.sc (.slice none 0 0),.sc (.slice none 0 0)]) false false false none true false:= .of (by kernel_rfl)
theorem qNZ:Uq E 69 none none none false false true none:= .of (by kernel_rfl)
theorem qJI:Tq E 74 (some 8) (some true) (some [.str [],.int .u64 (0),.int .i64 (0),.int .i64 (0),.int .i64 (0),.str [],.int .i64 (0),.int .i64 (0)]) false false false none true false:= .of (by kernel_rfl)
theorem qN0:Uq E 74 none none none false false true none:= .of (by kernel_rfl)
theorem qN1:Tq E 78 (some 20) (some true) (some [.bool false,.str [],.int .u64 (0),.int .i64 (0),.int .i64 (0),.int .i64 (0),.str [],.int .i64 (0),.int .i64 (0),.int .i64 (0),.int .i64 (0),.int .u64 (0),.bool false,.bool false,.str [],.str [],.sc (.slice none 0 0),.sc (.slice none 0 0),.int .i64 (0),.int .i64 (0)]) false false false none true false:= .of (by kernel_rfl)
theorem qN2:Uq E 78 none none none false false true none:= .of (by kernel_rfl)
theorem qN3:Tq E 86 (some 9) (some true) (some [.int .i64 (0),.str [],.int .u64 (0),.int .i64 (0),.int .i64 (0),.int .i64 (0),.str [],.int .i64 (0),.int .i64 (0)]) false false false none true false:= .of (by kernel_rfl)
theorem qN4:Tq E 88 (some 4) (some true) (some [.str [],.str [],.int .i64 (0),.bool false]) false false false none true false:= .of (by kernel_rfl)
theorem qN5:Uq E 88 none none none false false true none:= .of (by kernel_rfl)
theorem qN6:Tq E 89 (some 1) (some false) (some [.sc (.slice none 0 0)]) false false false none true false:= .of (by kernel_rfl)
theorem qN7:Uq E 89 (some 1) (some 16) (some [.str []]) false false false none:= .of (by kernel_rfl)
theorem qN8:Tq E 91 (some 29) (some true) (some [.int .i64 (0),.int .i64 (0),.int .i64 (0),.int .i64 (0),.int .i64 (0),.int .i64 (0),.str [],.str [],.str [],.int .u64 (0),.int .i64 (0),.int .i64 (0),.int .i64 (0),.str [],.str [],.str [],.int .i64 (0),.bool false,.int .i64 (0),.int .i64 (0),.sc (.slice none 0 0),.str [],.int .u64 (0),.int .i64 (0),.int .i64 (0),.int .i64 (0),.str [],.int .i64 (0),.int .i64 (0)]) false false false none true false:= .of (by kernel_rfl)
theorem qN9:Uq E 91 none none none false false true none:= .of (by kernel_rfl)
theorem qOa:Tq E 93 (some 8) (some true) (some [.int .i64 (0),.int .i64 (0),.int .i64 (0),.str [],.str [],.bool false,.bool false,.int .i64 (0)]) false false false none true false:= .of (by kernel_rfl)
theorem qOb:Uq E 93 none none none false false true none:= .of (by kernel_rfl)
theorem qJJ:Tq E 101 (some 20) (some true) (some [.int .u64 (0),.int .u64 (0),.str [],.int .u64 (0),.int .i64 (0),.int .i64 (0),.int .i64 (0),.str [],.int .i64 (0),.int .i64 (0),.str [],.str [],.int .i64 (0),.int .i64 (0),.int .i64 (0),.int .i64 (0),.int .i64 (0),.int .u64 (0),.int .u64 (0),.int .i64 (0)]) false false false none true false:= .of (by kernel_rfl)
theorem qJK:Tq E 111 (some 1) (some false) (some [.sc (.pointer none)]) false false false none true false:= .of (by kernel_rfl)
theorem qJL:Tq E 129 (some 1) (some false) (some [.sc (.pointer none)]) false false false none true false:= .of (by kernel_rfl)
theorem qJM:Tq E 130 (some 1) (some false) (some [.sc .nilFunc]) false false false none true false:= .of (by kernel_rfl)
theorem qJN:Tq E 132 (some 25) (some true) (some [.str [],.int .u64 (0),.int .i64 (0),.int .i64 (0),.int .i64 (0),.str [],.int .i64 (0),.str [],.int .i64 (0),.str [],.bool false,.sc (.slice none 0 0),.sc (.slice none 0 0),.sc (.slice none 0 0),.sc (.slice none 0 0),.sc (.slice none 0 0),.sc (.slice none 0 0),.sc (.slice none 0 0),.int .i64 (0),.int .i64 (0),.sc (.slice none 0 0),.sc (.slice none 0 0),.sc (.pointer none),.sc (.slice none 0 0),.sc .nilFunc]) false false false none true false:= .of (by kernel_rfl)
theorem qJO:Uq E 132 none none none false false true none:= .of (by kernel_rfl)
theorem qJP:Tq E 168 (some 62) (some true) (some [.str [],.int .u64 (0),.int .i64 (0),.int .i64 (0),.int .i64 (0),.str [],.int .i64 (0),.str [],.int .i64 (0),.str [],.bool false,.sc (.slice none 0 0),.sc (.slice none 0 0),.sc (.slice none 0 0),.sc (.slice none 0 0),.sc (.slice none 0 0),.sc (.slice none 0 0),.sc (.slice none 0 0),.int .i64 (0),.int .i64 (0),.sc (.slice none 0 0),.sc (.slice none 0 0),.int .i64 (0),.int .i64 (0),.int .i64 (0),.int .i64 (0),.int .i64 (0),.int .u64 (0),.str [],.int .u64 (0),.int .i64 (0),.int .i64 (0),.int .i64 (0),.str [],.int .i64 (0),.int .i64 (0),.int .i64 (0),.int .i64 (0),.int .u64 (0),.bool false,.bool false,.str [],.str [],.sc (.slice none 0 0),.sc (.slice none 0 0),.str [],.int .u64 (0),.int .i64 (0),.int .i64 (0),.int .i64 (0),.str [],.int .i64 (0),.int .i64 (0),.int .i64 (0),.int .i64 (0),.int .u64 (0),.bool false,.bool false,.str [],.str [],.sc (.slice none 0 0),.sc (.slice none 0 0)]) false false false none true false:= .of (by kernel_rfl)
theorem qJQ:Uq E 168 none none none false false true none:= .of (by kernel_rfl)
theorem qJR:Tq E 188 (some 23) (some true) (some [.str [],.int .u64 (0),.int .i64 (0),.int .i64 (0),.int .i64 (0),.str [],.int .i64 (0),.str [],.int .i64 (0),.str [],.bool false,.sc (.slice none 0 0),.sc (.slice none 0 0),.sc (.slice none 0 0),.sc (.slice none 0 0),.sc (.slice none 0 0),.sc (.slice none 0 0),.sc (.slice none 0 0),.int .i64 (0),.int .i64 (0),.sc (.slice none 0 0),.sc (.slice none 0 0),.sc (.slice none 0 0)]) false false false none true false:= .of (by kernel_rfl)
theorem qJS:Uq E 188 none none none false false true none:= .of (by kernel_rfl)
theorem qJT:Tq E 191 (some 2) (some true) (some [.str [],.int .u64 (0)]) false false false none true false:= .of (by kernel_rfl)
theorem qJU:Uq E 191 none none none false false true none:= .of (by kernel_rfl)
theorem qJV:Tq E 194 (some 1) (some false) (some [.sc (.slice none 0 0)]) false false false none true false:= .of (by kernel_rfl)
theorem qJW:Uq E 194 (some 1) (some 1) (some [.int .u8 (0)]) true false false none:= .of (by kernel_rfl)
theorem qJX:Uq E 202 (some 1) (some 8) (some [.int .i64 (0)]) false false false none:= .of (by kernel_rfl)
theorem qJY:Tq E 227 (some 2) (some true) (some [.int .u64 (0),.int .u64 (0)]) false false false none true false:= .of (by kernel_rfl)
theorem qJZ:Uq E 227 none none none false false true (some (2,1,false)):= .of (by kernel_rfl)
theorem qJ0:Tq E 231 (some 1) (some false) (some [.int .u32 (0)]) false true false (some .u32) true false:= .of (by kernel_rfl)
theorem qJ1:Tq E 239 (some 1) (some false) (some [.int .u64 (0)]) false true false (some .u64) true false:= .of (by kernel_rfl)
theorem qJ2:Tq E 251 (some 1) (some false) (some [.sc (.slice none 0 0)]) false false false none true false:= .of (by kernel_rfl)
theorem qJ3:Uq E 251 (some 1) (some 4) (some [.int .u32 (0)]) false false false none:= .of (by kernel_rfl)
theorem qJ4:Tq E 257 (some 8) (some true) (some [.int .u32 (0),.int .u32 (0),.int .u32 (0),.int .u32 (0),.int .u32 (0),.int .u32 (0),.int .u32 (0),.int .u32 (0)]) false false false none true false:= .of (by kernel_rfl)
theorem qJ5:Uq E 257 none none none false false true (some (8,1,false)):= .of (by kernel_rfl)
theorem qJ6:Tq E 260 (some 64) (some true) (some [.int .u8 (0),.int .u8 (0),.int .u8 (0),.int .u8 (0),.int .u8 (0),.int .u8 (0),.int .u8 (0),.int .u8 (0),.int .u8 (0),.int .u8 (0),.int .u8 (0),.int .u8 (0),.int .u8 (0),.int .u8 (0),.int .u8 (0),.int .u8 (0),.int .u8 (0),.int .u8 (0),.int .u8 (0),.int .u8 (0),.int .u8 (0),.int .u8 (0),.int .u8 (0),.int .u8 (0),.int .u8 (0),.int .u8 (0),.int .u8 (0),.int .u8 (0),.int .u8 (0),.int .u8 (0),.int .u8 (0),.int .u8 (0),.int .u8 (0),.int .u8 (0),.int .u8 (0),.int .u8 (0),.int .u8 (0),.int .u8 (0),.int .u8 (0),.int .u8 (0),.int .u8 (0),.int .u8 (0),.int .u8 (0),.int .u8 (0),.int .u8 (0),.int .u8 (0),.int .u8 (0),.int .u8 (0),.int .u8 (0),.int .u8 (0),.int .u8 (0),.int .u8 (0),.int .u8 (0),.int .u8 (0),.int .u8 (0),.int .u8 (0),.int .u8 (0),.int .u8 (0),.int .u8 (0),.int .u8 (0),.int .u8 (0),.int .u8 (0),.int .u8 (0),.int .u8 (0)]) false false false none true false:= .of (by kernel_rfl)
theorem qJ7:Uq E 260 none none none false false true (some (64,1,false)):= .of (by kernel_rfl)
theorem qJ8:Tq E 261 (some 1) (some false) (some [.sc (.slice none 0 0)]) false false false none true false:= .of (by kernel_rfl)
theorem qJ9:Uq E 261 (some 1) (some 24) (some [.sc (.slice none 0 0)]) false false false none:= .of (by kernel_rfl)
theorem qKa:Tq E 270 (some 64) (some true) (some [.int .u32 (0),.int .u32 (0),.int .u32 (0),.int .u32 (0),.int .u32 (0),.int .u32 (0),.int .u32 (0),.int .u32 (0),.int .u32 (0),.int .u32 (0),.int .u32 (0),.int .u32 (0),.int .u32 (0),.int .u32 (0),.int .u32 (0),.int .u32 (0),.int .u32 (0),.int .u32 (0),.int .u32 (0),.int .u32 (0),.int .u32 (0),.int .u32 (0),.int .u32 (0),.int .u32 (0),.int .u32 (0),.int .u32 (0),.int .u32 (0),.int .u32 (0),.int .u32 (0),.int .u32 (0),.int .u32 (0),.int .u32 (0),.int .u32 (0),.int .u32 (0),.int .u32 (0),.int .u32 (0),.int .u32 (0),.int .u32 (0),.int .u32 (0),.int .u32 (0),.int .u32 (0),.int .u32 (0),.int .u32 (0),.int .u32 (0),.int .u32 (0),.int .u32 (0),.int .u32 (0),.int .u32 (0),.int .u32 (0),.int .u32 (0),.int .u32 (0),.int .u32 (0),.int .u32 (0),.int .u32 (0),.int .u32 (0),.int .u32 (0),.int .u32 (0),.int .u32 (0),.int .u32 (0),.int .u32 (0),.int .u32 (0),.int .u32 (0),.int .u32 (0),.int .u32 (0)]) false false false none true false:= .of (by kernel_rfl)
theorem qKb:Uq E 270 none none none false false true (some (64,1,false)):= .of (by kernel_rfl)
theorem qOc:E.P.fldO 24 0=some (0,1,false)∧E.P.fldO 24 1=some (1,1,false)∧E.P.fldO 24 2=some (2,1,false)∧E.P.fldO 24 3=some (3,1,false)∧E.P.fldO 24 4=some (4,1,false)∧E.P.fldO 24 5=some (5,1,false):=by and_intros<;>kernel_rfl
theorem qOd:E.P.fldO 26 0=some (0,1,false)∧E.P.fldO 26 1=some (1,1,false):=by and_intros<;>kernel_rfl
theorem qOe:E.P.fldO 36 0=some (0,6,true)∧E.P.fldO 36 1=some (6,1,false)∧E.P.fldO 36 2=some (7,1,false)∧E.P.fldO 36 3=some (8,2,true)∧E.P.fldO 36 4=some (10,1,false)∧E.P.fldO 36 5=some (11,1,false)∧E.P.fldO 36 6=some (12,1,false)∧E.P.fldO 36 7=some (13,1,false)∧E.P.fldO 36 8=some (14,1,false)∧E.P.fldO 36 9=some (15,1,false)∧E.P.fldO 36 10=some (16,1,false)∧E.P.fldO 36 11=some (17,1,false)∧E.P.fldO 36 12=some (18,1,false)∧E.P.fldO 36 13=some (19,1,false)∧E.P.fldO 36 14=some (20,1,false)∧E.P.fldO 36 15=some (21,1,false):=by and_intros<;>kernel_rfl
theorem qOf:E.P.fldO 42 0=some (0,1,false)∧E.P.fldO 42 1=some (1,1,false)∧E.P.fldO 42 2=some (2,1,false)∧E.P.fldO 42 3=some (3,1,false)∧E.P.fldO 42 4=some (4,1,false)∧E.P.fldO 42 5=some (5,1,false)∧E.P.fldO 42 6=some (6,1,false)∧E.P.fldO 42 7=some (7,1,false)∧E.P.fldO 42 8=some (8,1,false)∧E.P.fldO 42 9=some (9,1,false)∧E.P.fldO 42 10=some (10,1,false):=by and_intros<;>kernel_rfl
theorem qOg:E.P.fldO 69 0=some (0,1,false)∧E.P.fldO 69 1=some (1,1,false)∧E.P.fldO 69 2=some (2,1,false)∧E.P.fldO 69 3=some (3,1,false)∧E.P.fldO 69 4=some (4,1,false)∧E.P.fldO 69 5=some (5,1,false)∧E.P.fldO 69 6=some (6,6,true)∧E.P.fldO 69 7=some (12,11,true):=by and_intros<;>kernel_rfl
theorem qOh:E.P.fldO 74 0=some (0,6,true):=by kernel_rfl
theorem qOi:E.P.fldO 78 0=some (0,1,false)∧E.P.fldO 78 1=some (1,6,true)∧E.P.fldO 78 2=some (7,11,true)∧E.P.fldO 78 3=some (18,1,false)∧E.P.fldO 78 4=some (19,1,false):=by and_intros<;>kernel_rfl
theorem qOj:E.P.fldO 86 1=some (1,8,true):=by kernel_rfl
theorem qOk:E.P.fldO 88 0=some (0,1,false)∧E.P.fldO 88 1=some (1,1,false)∧E.P.fldO 88 2=some (2,1,false)∧E.P.fldO 88 3=some (3,1,false):=by and_intros<;>kernel_rfl
theorem qOl:E.P.fldO 91 0=some (0,1,false)∧E.P.fldO 91 1=some (1,1,false)∧E.P.fldO 91 2=some (2,1,false)∧E.P.fldO 91 3=some (3,1,false)∧E.P.fldO 91 4=some (4,1,false)∧E.P.fldO 91 5=some (5,1,false)∧E.P.fldO 91 6=some (6,1,false)∧E.P.fldO 91 7=some (7,1,false)∧E.P.fldO 91 8=some (8,6,true)∧E.P.fldO 91 9=some (14,4,true)∧E.P.fldO 91 10=some (18,1,false)∧E.P.fldO 91 11=some (19,1,false)∧E.P.fldO 91 12=some (20,1,false)∧E.P.fldO 91 13=some (21,6,true)∧E.P.fldO 91 14=some (27,1,false)∧E.P.fldO 91 15=some (28,1,false):=by and_intros<;>kernel_rfl
theorem qOm:E.P.fldO 93 1=some (1,1,false)∧E.P.fldO 93 2=some (2,1,false)∧E.P.fldO 93 3=some (3,1,false)∧E.P.fldO 93 4=some (4,1,false)∧E.P.fldO 93 5=some (5,1,false)∧E.P.fldO 93 7=some (7,1,false):=by and_intros<;>kernel_rfl
theorem qKc:E.P.fldO 101 2=some (2,6,true)∧E.P.fldO 101 5=some (10,1,false)∧E.P.fldO 101 6=some (11,1,false):=by and_intros<;>kernel_rfl
theorem qKd:E.P.fldO 132 0=some (0,22,true)∧E.P.fldO 132 1=some (22,1,false)∧E.P.fldO 132 2=some (23,1,false)∧E.P.fldO 132 3=some (24,1,false):=by and_intros<;>kernel_rfl
theorem qKe:E.P.fldO 168 0=some (0,22,true)∧E.P.fldO 168 1=some (22,23,true)∧E.P.fldO 168 2=some (45,6,true)∧E.P.fldO 168 3=some (51,11,true):=by and_intros<;>kernel_rfl
theorem qKf:E.P.fldO 188 0=some (0,22,true)∧E.P.fldO 188 1=some (22,1,false):=by and_intros<;>kernel_rfl
theorem qOn:E.P.places 24 0=some (0,1)∧E.P.places 24 3=some (3,1):=by and_intros<;>kernel_rfl
theorem qOo:E.P.places 26 1=some (1,1):=by kernel_rfl
theorem qOp:E.P.places 36 0=some (0,6)∧E.P.places 36 1=some (6,1)∧E.P.places 36 3=some (8,2)∧E.P.places 36 4=some (10,1)∧E.P.places 36 11=some (17,1)∧E.P.places 36 15=some (21,1):=by and_intros<;>kernel_rfl
theorem qOq:E.P.places 42 0=some (0,1)∧E.P.places 42 1=some (1,1)∧E.P.places 42 2=some (2,1)∧E.P.places 42 3=some (3,1)∧E.P.places 42 4=some (4,1)∧E.P.places 42 6=some (6,1)∧E.P.places 42 7=some (7,1)∧E.P.places 42 8=some (8,1)∧E.P.places 42 9=some (9,1)∧E.P.places 42 10=some (10,1):=by and_intros<;>kernel_rfl
theorem qOr:E.P.places 69 1=some (1,1)∧E.P.places 69 7=some (12,11):=by and_intros<;>kernel_rfl
theorem qOs:E.P.places 74 0=some (0,6)∧E.P.places 74 1=some (6,1)∧E.P.places 74 2=some (7,1):=by and_intros<;>kernel_rfl
theorem qOt:E.P.places 78 0=some (0,1)∧E.P.places 78 1=some (1,6)∧E.P.places 78 2=some (7,11)∧E.P.places 78 3=some (18,1)∧E.P.places 78 4=some (19,1):=by and_intros<;>kernel_rfl
theorem qOu:E.P.places 88 0=some (0,1)∧E.P.places 88 1=some (1,1)∧E.P.places 88 2=some (2,1)∧E.P.places 88 3=some (3,1):=by and_intros<;>kernel_rfl
theorem qOv:E.P.places 91 0=some (0,1)∧E.P.places 91 1=some (1,1)∧E.P.places 91 5=some (5,1)∧E.P.places 91 6=some (6,1)∧E.P.places 91 9=some (14,4)∧E.P.places 91 13=some (21,6)∧E.P.places 91 14=some (27,1)∧E.P.places 91 15=some (28,1):=by and_intros<;>kernel_rfl
theorem qOw:E.P.places 93 0=some (0,1)∧E.P.places 93 1=some (1,1)∧E.P.places 93 2=some (2,1)∧E.P.places 93 3=some (3,1)∧E.P.places 93 4=some (4,1)∧E.P.places 93 5=some (5,1)∧E.P.places 93 6=some (6,1)∧E.P.places 93 7=some (7,1):=by and_intros<;>kernel_rfl
theorem qKg:E.P.places 132 0=some (0,22):=by kernel_rfl
theorem qKh:E.P.places 168 0=some (0,22)∧E.P.places 168 1=some (22,23)∧E.P.places 168 2=some (45,6)∧E.P.places 168 3=some (51,11):=by and_intros<;>kernel_rfl
theorem qKi:E.P.places 188 0=some (0,22):=by kernel_rfl
theorem qKj:E.P.places 191 0=some (0,1)∧E.P.places 191 1=some (1,1):=by and_intros<;>kernel_rfl
theorem qKk:E.P.places 227 0=some (0,1)∧E.P.places 227 1=some (1,1):=by and_intros<;>kernel_rfl
theorem qKl:E.P.places 257 0=some (0,1)∧E.P.places 257 1=some (1,1)∧E.P.places 257 2=some (2,1)∧E.P.places 257 3=some (3,1)∧E.P.places 257 4=some (4,1)∧E.P.places 257 5=some (5,1)∧E.P.places 257 6=some (6,1)∧E.P.places 257 7=some (7,1):=by and_intros<;>kernel_rfl
theorem fq7:Fq E M 7 36893488146882215936 [] [] [[0,0,0,0,0,0,0,0,0,0,0,9,9,10,21,24,5,30,0,0,2,9],[0,0,0,0,0,0,0,0,0,0,0,0,0,0,0,0,0,0,0,0,0,7,5],[0,0,0,0,0,0],[0,0,0,0,0,0,0,0,0,7,5]] [[0]]:= .of (by kernel_rfl)
theorem fq9:Fq E M 9 144115188067465216 [] [] [[0,0,0,0,0,0,0,0,0,0,0,9,9,10,21,24,5,30,0,0,2,9],[0,0,0,0,0,0,0,0,0,0,0,0,0,0,0,0,0,0,0,0,0,7,5],[7]] [[0]]:= .of (by kernel_rfl)
theorem qLF:Fq E M 10 383123508400083696730193447178714151623171820446809856 [] [] [[0,0,0,0,0,0,0,0,0,0,0,9,9,10,21,24,5,30,0,0,2,9]] [[0]]:= .of (by kernel_rfl)
theorem qLG:Fq E M 11 131040 [] [] [[0,0,0,0,0,0,0,0,0,0,0,9,9,10,21,24,5,30,0,0,2,9],[0,0,0,0,0,0,0,0,0,7,5]] [[0]]:= .of (by kernel_rfl)
theorem qIC:Fq E M 13 1152890718281269232 [] [1] [[0,0,0,0,0,0,0,0,0,0,0,9,9,10,21,24,5,30,0,0,2,9]] [[0,0,0,0,0,0,0,0,0,0,0,9,9,10,21,24,5,30,0,0,2,9]]:= .of (by kernel_rfl)
theorem qLH:Fq E M 18 41538335254187919160857634757672928 [] [] [[0,0,0,0,0,0,0,0,0,0,0,9,9,10,21,24,5,30,0,0,2,9],[0,0,0,0,0,0,0,0,0,0,0,9,9,10,21,24,5,30,0,0,2,9]] [[0]]:= .of (by kernel_rfl)
theorem qLI:Fq E M 19 1208925819614629174688704 [] [] [[21],[21]] [[0]]:= .of (by kernel_rfl)
theorem qLJ:Fq E M 22 8184 [] [] [[0,0,0,0,0,0]] [[0]]:= .of (by kernel_rfl)
theorem qLK:Fq E M 23 648878573016108406821640531337216 [] [] [[0,0,0,0,0,0,0,0,0,0,0,9,9,10,21,24,5,30,0,0,2,9],[0],[0,0,0,0,0,0],[0,0,0,0,0,0]] [[0,0,0,0,0,0,0,0,0,0,0,9,9,10,21,24,5,30,0,0,2,9],[21]]:= .of (by kernel_rfl)
theorem qrg:Fq E M 24 43555810658881167422789590669213559635968 [] [] [[0,0,0,0,0,0,0,0,0,0,0,9,9,10,21,24,5,30,0,0,2,9],[0],[0,0,0,0,0,0],[0,0,0,0,0,0]] [[0,0,0,0,0,0,0,0,0,0,0,9,9,10,21,24,5,30,0,0,2,9],[21]]:= .of (by kernel_rfl)
theorem qLL:Fq E M 25 9223230164958179328 [] [] [[0,0,0,0,0,0,0,0,0,0,0,9,9,10,21,24,5,30,0,0,2,9],[0],[0,0,0,0,0,0,0,0,0,7,5]] [[0,0,0,0,0,0,0,0,0,0,0,9,9,10,21,24,5,30,0,0,2,9],[21]]:= .of (by kernel_rfl)
theorem qxS:Fq E M 26 1237937604315144935838838784 [] [] [[0,0,0,0,0,0,0,0,0,0,0,9,9,10,21,24,5,30,0,0,2,9],[0],[0,0,0,0,0,0,0,0,0,7,5]] [[0,0,0,0,0,0,0,0,0,0,0,9,9,10,21,24,5,30,0,0,2,9],[21]]:= .of (by kernel_rfl)
theorem qLM:Fq E M 27 2080512 [] [] [[0,0,0,0,0,0,0,0,0,0,0,9,9,10,21,24,5,30,0,0,2,9],[0]] [[0,0,0,0,0,0,0,0,0,0,0,9,9,10,21,24,5,30,0,0,2,9],[21]]:= .of (by kernel_rfl)
theorem qKm:Fq E M 28 259968 [] [] [[0,0,0,0,0,0,0,0,0,0,0,9,9,10,21,24,5,30,0,0,2,9],[0]] [[0,0,0,0,0,0,0,0,0,0,0,9,9,10,21,24,5,30,0,0,2,9],[21]]:= .of (by kernel_rfl)
theorem qLN:Fq E M 34 267911040 [] [] [[0,0,0,0,0,0,0,0,0,0,0,9,9,10,21,24,5,30,0,0,2,9],[0,0,0,0,0,0]] [[0,0,0,0,0,0,0,0,0,0,0,9,9,10,21,24,5,30,0,0,2,9]]:= .of (by kernel_rfl)
theorem qLO:Fq E M 35 66977664 [] [] [[0,0,0,0,0,0,0,0,0,0,0,9,9,10,21,24,5,30,0,0,2,9],[0,0,0,0,0,0]] [[0,0,0,0,0,0,0,0,0,0,0,9,9,10,21,24,5,30,0,0,2,9]]:= .of (by kernel_rfl)
theorem qLP:Fq E M 36 8388576 [] [] [[0,0,0,0,0,0,0,0,0,0,0,9,9,10,21,24,5,30,0,0,2,9],[0]] [[0,0,0,0,0,0,0,0,0,0,0,9,9,10,21,24,5,30,0,0,2,9]]:= .of (by kernel_rfl)
theorem qLQ:Fq E M 37 2097120 [] [] [[0,0,0,0,0,0,0,0,0,0,0,9,9,10,21,24,5,30,0,0,2,9],[0]] [[0,0,0,0,0,0,0,0,0,0,0,9,9,10,21,24,5,30,0,0,2,9]]:= .of (by kernel_rfl)
theorem qLR:Fq E M 40 33536960 [] [] [[7],[7]] [[0]]:= .of (by kernel_rfl)
theorem qLS:Fq E M 41 67107760 [] [] [[24]] [[0]]:= .of (by kernel_rfl)
theorem qLT:Fq E M 42 1180591620717411303072 [] [] [] [[0]]:= .of (by kernel_rfl)
theorem quV:Fq E M 43 4397509632000 [] [] [[0,0,0,0,0,0,0,0,0,0,0,9,9,10,21,24,5,30,0,0,2,9],[0,0,0,0,0,0,0,0,0,0,0,0,0,0,0,0,0,0,0,0,0,7,5],[0,0,0,0,0,0],[0,0,0,0,0,0,0,0,0,7,5]] [[0,0,0,0,0,0,0,0,0,0,0,9,9,10,21,24,5,30,0,0,2,9],[21]]:= .of (by kernel_rfl)
theorem qrh:Fq E M 44 39608943026674368053948444672 [] [] [[0,0,0,0,0,0,0,0,0,0,0,9,9,10,21,24,5,30,0,0,2,9],[0,0,0,0,0,0,0,0,0,0,0,0,0,0,0,0,0,0,0,0,0,7,5],[0,0,0,0,0,0],[0,0,0,0,0,0,0,0,0,7,5]] [[0,0,0,0,0,0,0,0,0,0,0,9,9,10,21,24,5,30,0,0,2,9],[21]]:= .of (by kernel_rfl)
theorem qLU:Fq E M 45 4177408 [] [] [[0,0],[0,0,0,0,0,0],[0]] [[0,0,0,0,0,0,0,0],[0]]:= .of (by kernel_rfl)
theorem qzu:Fq E M 46 4396968562624 [] [] [[0,0,0,0,0,0,0,0,0,0,0,9,9,10,21,24,5,30,0,0,2,9],[0,0,0,0,0,0,0,0,0,0,0,0,0,0,0,0,0,0,0,0,0,7,5]] [[0,0,0,0,0,0,0,0,0,0,0,9,9,10,21,24,5,30,0,0,2,9],[21]]:= .of (by kernel_rfl)
theorem qxT:Fq E M 47 30786191097792 [] [] [[0,0,0,0,0,0,0,0,0,0,0,9,9,10,21,24,5,30,0,0,2,9],[0,0,0,0,0,0,0,0,0,0,0,0,0,0,0,0,0,0,0,0,0,7,5]] [[0,0,0,0,0,0,0,0,0,0,0,9,9,10,21,24,5,30,0,0,2,9],[21]]:= .of (by kernel_rfl)
theorem qLV:Fq E M 48 2301339409585338368 [] [] [[0,0,0,0,0,0,0,0,0,0,0,9,9,10,21,24,5,30,0,0,2,9],[7]] [[21]]:= .of (by kernel_rfl)
theorem qLW:Fq E M 49 302083880951067617259136 [] [] [[0,0,0,0,0,0,0,0,0,0,0,9,9,10,21,24,5,30,0,0,2,9],[7]] [[21]]:= .of (by kernel_rfl)
theorem qLX:Fq E M 50 261040 [] [] [[9]] [[0]]:= .of (by kernel_rfl)
theorem qLY:Fq E M 51 129968 [] [] [[21]] [[0]]:= .of (by kernel_rfl)
theorem qLZ:Fq E M 52 268434352 [] [] [[5]] [[0]]:= .of (by kernel_rfl)
theorem qL0:Fq E M 53 18446725929553100768 [] [] [[0,0,0,0,0,0,0,0,0,7,5]] [[0]]:= .of (by kernel_rfl)
theorem qID:Fq E M 54 232 [] [1] [[9]] [[9]]:= .of (by kernel_rfl)
theorem qIE:Fq E M 55 232 [] [1] [[10]] [[10]]:= .of (by kernel_rfl)
theorem qIF:Fq E M 56 232 [] [1] [[21]] [[21]]:= .of (by kernel_rfl)
theorem qL1:Fq E M 57 16775392 [] [1] [[24]] [[24]]:= .of (by kernel_rfl)
theorem qIG:Fq E M 58 232 [] [] [[5]] [[5]]:= .of (by kernel_rfl)
theorem qIH:Fq E M 59 232 [] [1] [[30]] [[30]]:= .of (by kernel_rfl)
theorem qII:Fq E M 60 232 [] [] [[2]] [[2]]:= .of (by kernel_rfl)
theorem qIJ:Fq E M 61 232 [] [1] [[9]] [[9]]:= .of (by kernel_rfl)
theorem qIK:Fq E M 62 232 [] [1] [[2]] [[2]]:= .of (by kernel_rfl)
theorem qL2:Fq E M 63 65528 [] [] [[0,0,0,0,0,0,0,0,0,0,0,0,0,0,0,0,0,0,0,0,2,0,0,0,0,0,0,0,0]] [[0]]:= .of (by kernel_rfl)
theorem qL3:Fq E M 64 133955344 [] [] [[0]] [[0]]:= .of (by kernel_rfl)
theorem qL4:Fq E M 65 56 [] [] [[0]] [[0]]:= .of (by kernel_rfl)
theorem qL5:Fq E M 67 134182896 [] [] [[0]] [[0]]:= .of (by kernel_rfl)
theorem qL6:Fq E M 68 2040 [] [] [[0,0,0,0,0,0,0,0,0,0,0,0,0,0,0,0,0,0,0,0,2,0,0,0,0,0,0,0,0]] [[0]]:= .of (by kernel_rfl)
theorem qIL:Fq E M 69 562881233944320 [] [] [[0,0,0,0,0,0,0,0,0,0,0,9,9,10,21,24,5,30,0,0,2,9],[0]] [[0],[0]]:= .of (by kernel_rfl)
theorem qIM:Fq E M 70 649037107279056074959281169891072 [] [] [[0]] []:= .of (by kernel_rfl)
theorem qgu:Fq E M 71 4080 [] [] [[0]] [[0,0,0,0,0,0,0,0,0,0,0,9,9,10,21,24,5,30,0,0,2,9],[21]]:= .of (by kernel_rfl)
theorem qIN:Fq E M 72 3145664 [] [] [[0,0,0,0,0,0,0,0,0,0,0,9,9,10,21,24,5,30,0,0,2,9],[0]] [[0]]:= .of (by kernel_rfl)
theorem qIO:Fq E M 73 18889465931409794268160 [] [] [[0,0,0,0,0,0,0,0,0,0,0,9,9,10,21,24,5,30,0,0,2,9],[0]] [[0,0,0,0,0,0,0,0,0,0,0,9,9,10,21,24,5,30,0,0,2,9],[21]]:= .of (by kernel_rfl)
theorem qL7:Fq E M 74 33536960 [] [] [[9],[9]] [[0]]:= .of (by kernel_rfl)
theorem qL8:Fq E M 75 33536960 [] [] [[10],[10]] [[0]]:= .of (by kernel_rfl)
theorem qL9:Fq E M 76 33536960 [] [] [[21],[21]] [[0]]:= .of (by kernel_rfl)
theorem qMa:Fq E M 77 67091392 [] [] [[24],[24]] [[0]]:= .of (by kernel_rfl)
theorem qMb:Fq E M 78 33536960 [] [] [[5],[5]] [[0]]:= .of (by kernel_rfl)
theorem qMc:Fq E M 79 11417981541647597918827873148909761135493635584 [] [] [[30],[30]] [[0]]:= .of (by kernel_rfl)
theorem qMd:Fq E M 80 33536960 [] [] [[2],[2]] [[0]]:= .of (by kernel_rfl)
theorem qMe:Fq E M 81 33536960 [] [] [[9],[9]] [[0]]:= .of (by kernel_rfl)
theorem qMf:Fq E M 82 302231454903519854723040 [] [] [[0,0,0,0,0,0,0,0,0,7,5],[0,0,0,0,0,0,0,0,0,7,5]] [[0]]:= .of (by kernel_rfl)
theorem qKn:Fq E M 84 457792 [] [] [[30],[0]] [[0]]:= .of (by kernel_rfl)
theorem qMg:Fq E M 85 8589868800 [1] [1] [[30],[0],[0]] [[30]]:= .of (by kernel_rfl)
theorem qMh:Fq E M 86 16773120 [] [1] [[0,0,0,0,0,0,0,0,0,0,0,9,9,10,21,24,5,30,0,0,2,9],[0],[0,0,0,0],[0],[0]] [[0,0,0,0,0,0,0,0,0,0,0,9,9,10,21,24,5,30,0,0,2,9]]:= .of (by kernel_rfl)
theorem qKo:Fq E M 87 4539628424388919296 [] [] [[0,0,0,0,0,0,0,0,0,0,0,9,9,10,21,24,5,30,0,0,2,9],[0],[0,0,0,0],[0],[0]] [[0,0,0,0,0,0,0,0,0,0,0,9,9,10,21,24,5,30,0,0,2,9]]:= .of (by kernel_rfl)
theorem qMi:Fq E M 88 65504 [] [] [[0,0,0,0,0,0],[0,0,0,0,0,0]] [[0]]:= .of (by kernel_rfl)
theorem qMj:Fq E M 89 15872 [] [] [[0,0,0,0,0,0],[9],[0],[0,0,0,0,0,0]] [[0]]:= .of (by kernel_rfl)
theorem qMk:Fq E M 90 2040 [] [] [[0]] [[0]]:= .of (by kernel_rfl)
theorem qMl:Fq E M 91 240 [] [] [[0],[0]] []:= .of (by kernel_rfl)
theorem qKp:Fq E M 92 144112989052600288 [] [] [[0],[0,0,0,0,0,0]] []:= .of (by kernel_rfl)
theorem qIP:Fq E M 93 2251799813684352 [] [] [[0],[0,0,0,0,0,0],[0,0,0,0,0,0]] [[0]]:= .of (by kernel_rfl)
theorem qMm:Fq E M 94 67108848 [] [] [[0],[0,0,0,0,0,0]] []:= .of (by kernel_rfl)
theorem qMn:Fq E M 95 131040 [] [] [[0,0,0,0,0,0],[0,0,0,0,0,0]] [[0]]:= .of (by kernel_rfl)
theorem qMo:Fq E M 96 120 [] [] [[0]] [[0]]:= .of (by kernel_rfl)
theorem qIQ:Fq E M 97 8386048 [] [] [[0,0,0,0,0,0],[9],[0],[0,0,0,0,0,0]] [[0]]:= .of (by kernel_rfl)
theorem qMp:Fq E M 98 7936 [] [] [[0,0,0,0,0,0,0,0,0,0,0,9,9,10,21,24,5,30,0,0,2,9],[0],[0]] [[0,0,0,0,0,0,0,0,0,0,0,9,9,10,21,24,5,30,0,0,2,9],[21]]:= .of (by kernel_rfl)
theorem qMq:Fq E M 99 262016 [] [] [[0,0,0,0,0,0,0,0,0,0,0,9,9,10,21,24,5,30,0,0,2,9],[0],[0,0,0,0,0,0,0,0,0,0,0,0,0,0,0,0,0,0,0,0,2,0,0,0,0,0,0,0,0]] [[0,0,0,0,0,0,0,0,0,0,0,9,9,10,21,24,5,30,0,0,2,9]]:= .of (by kernel_rfl)
theorem qFc:Fq E M 100 4177408 [] [] [[0,0],[0,0,0,0,0,0],[0]] [[0,0,0,0,0,0,0,0],[0]]:= .of (by kernel_rfl)
theorem qFd:Fq E M 101 65376 [] [] [[0],[0]] [[0]]:= .of (by kernel_rfl)
theorem qFe:Fq E M 102 268433408 [] [] [[0,0,0,0,0,0,0,0,0,0,0,9,9,10,21,24,5,30,0,0,2,9],[0],[0,0,0,0,0,0,0,0,0,0,0,0,0,0,0,0,0,0,0,0,2,0,0,0,0,0,0,0,0],[0,0,0,0,0,0]] [[0,0,0,0,0,0,0,0,0,0,0,9,9,10,21,24,5,30,0,0,2,9],[21]]:= .of (by kernel_rfl)
theorem qCs:Fq E M 103 134215664 [] [] [[0],[0]] []:= .of (by kernel_rfl)
theorem qxU:Fq E M 104 9006099717947264 [] [] [[0],[0,0,0,0,0,0,0,0,0,7,5]] [[0,0,0,0],[0]]:= .of (by kernel_rfl)
theorem qFf:Fq E M 105 67108608 [] [] [[0],[0,0,0,0],[0],[0]] []:= .of (by kernel_rfl)
theorem qCt:Fq E M 106 68719410688 [] [] [[0,0,0,0,0,0,0,0,0,0,0,9,9,10,21,24,5,30,0,0,2,9],[0],[0]] [[0,0,0,0,0,0,0,0,0,0,0,9,9,10,21,24,5,30,0,0,2,9],[21]]:= .of (by kernel_rfl)
theorem qCu:Fq E M 107 130784 [] [] [[0]] [[0]]:= .of (by kernel_rfl)
theorem qqC:Fq E M 109 324518553658426726772160903249920 [] [1,1] [[0,0,0,0,0,0,0,0,0,0,0,9,9,10,21,24,5,30,0,0,2,9],[0],[0],[0],[0,0,0,0,0,0],[0],[0]] [[0,0,0,0,0,0,0,0,0,0,0,9,9,10,21,24,5,30,0,0,2,9],[21]]:= .of (by kernel_rfl)
theorem qxV:Fq E M 111 31728 [] [] [[0]] [[0]]:= .of (by kernel_rfl)
theorem qFg:Fq E M 113 2164663254016 [] [] [[0,0,0,0,0,0],[9],[0]] [[0,0,0,0,0,0]]:= .of (by kernel_rfl)
theorem qqD:Fq E M 115 4951760152529826285066649600 [] [] [[0,0,0,0,0,0,0,0,0,0,0,9,9,10,21,24,5,30,0,0,2,9],[0],[0],[0],[0,0,0,0,0,0],[0],[0]] [[0,0,0,0,0,0,0,0,0,0,0,9,9,10,21,24,5,30,0,0,2,9],[21]]:= .of (by kernel_rfl)
theorem qFh:Fq E M 116 33028992 [] [] [[5],[0]] [[0,0,0,0],[0]]:= .of (by kernel_rfl)
theorem qFi:Fq E M 117 4602608450394781696 [] [] [[5],[5]] [[5],[0]]:= .of (by kernel_rfl)
theorem qFj:Fq E M 121 1048288 [] [] [[9]] [[7]]:= .of (by kernel_rfl)
theorem qFk:Fq E M 122 72056490229234688 [] [] [[0,0,0,0,0,0],[9],[0,0,0,0,0,0,0,0]] [[9]]:= .of (by kernel_rfl)
theorem qFl:Fq E M 123 8854436029478528284672 [] [] [[0,0,0,0,0,0],[9],[0,0,0,0,0,0,0,0]] [[9]]:= .of (by kernel_rfl)
theorem qFm:Fq E M 124 480 [] [1] [[9],[0]] [[9]]:= .of (by kernel_rfl)
theorem qFn:Fq E M 125 1069531904 [] [] [[10],[0]] [[10]]:= .of (by kernel_rfl)
theorem qFo:Fq E M 126 535821184 [] [] [[9],[0]] [[9]]:= .of (by kernel_rfl)
theorem qFp:Fq E M 127 2139092736 [] [] [[10],[0]] [[10]]:= .of (by kernel_rfl)
theorem qFq:Fq E M 128 2080343040 [] [] [[0,0,0,0,0,0],[9],[0]] [[0,0,0,0,0,0]]:= .of (by kernel_rfl)
theorem qFr:Fq E M 129 120 [] [] [[0]] [[0]]:= .of (by kernel_rfl)
theorem qFs:Fq E M 130 8160 [] [] [[0],[0,0,0,0,0,0]] [[0,0,0,0,0,0]]:= .of (by kernel_rfl)
theorem qFt:Fq E M 131 112 [] [] [[0,0,0,0,0,0,0,0,0,0,0,9,9,10,21,24,5,30,0,0,2,9,0,0,0,0,0,0,0,0,0,0,0,0,0,0,0,0,0,0,0,0,0,7,5,0,0,0,0,0,0,0,0,0,0,0,0,0,0,0,7,5]] [[0,0,0,0,0,0,0,0,0,0,0,9,9,10,21,24,5,30,0,0,2,9],[21]]:= .of (by kernel_rfl)
theorem qlm:Fq E M 132 43680 [] [] [[0]] [[0]]:= .of (by kernel_rfl)
theorem qCv:Fq E M 133 1047808 [] [] [[0,0,0,0,0,0,0,0,0,0,0,9,9,10,21,24,5,30,0,0,2,9],[0],[0]] [[0,0,0,0,0,0,0,0,0,0,0,9,9,10,21,24,5,30,0,0,2,9],[21]]:= .of (by kernel_rfl)
theorem qFu:Fq E M 134 67276634880 [] [] [[0,0],[0,0,0,0,0,0],[0]] [[0]]:= .of (by kernel_rfl)
theorem qFv:Fq E M 135 1984 [] [1,1] [[0,0,0,0,0,0,0,0,0,0,0,9,9,10,21,24,5,30,0,0,2,9],[0]] [[0,0,0,0,0,0,0,0,0,0,0,9,9,10,21,24,5,30,0,0,2,9],[21]]:= .of (by kernel_rfl)
theorem qFw:Fq E M 136 1984 [] [] [[0,0,0,0,0,0,0,0,0,0,0,9,9,10,21,24,5,30,0,0,2,9],[0]] [[0,0,0,0,0,0,0,0,0,0,0,9,9,10,21,24,5,30,0,0,2,9],[21]]:= .of (by kernel_rfl)
theorem qFx:Fq E M 137 896 [] [] [[0,0],[7],[0]] [[9]]:= .of (by kernel_rfl)
theorem qCw:Fq E M 138 480 [] [] [[9],[0]] [[0]]:= .of (by kernel_rfl)
theorem qFy:Fq E M 139 240 [] [] [[0,0,0,0,0,0,0,0]] [[0]]:= .of (by kernel_rfl)
theorem qFz:Fq E M 140 480 [] [] [[21],[0]] [[0]]:= .of (by kernel_rfl)
theorem qFA:Fq E M 141 1008 [] [] [[0,0,0,0,0,0,0,0,0,0,0,0,0,0,0,0,7,5,0,0]] [[0]]:= .of (by kernel_rfl)
theorem qFB:Fq E M 142 896 [] [] [[24],[0],[0]] [[0]]:= .of (by kernel_rfl)
theorem qFC:Fq E M 143 261568 [] [] [[9],[0,0,0,0,0,0]] [[0]]:= .of (by kernel_rfl)
theorem qFD:Fq E M 144 523712 [] [] [[21],[0]] [[0]]:= .of (by kernel_rfl)
theorem qFE:Fq E M 145 1073739520 [] [] [[24],[0],[0]] [[0]]:= .of (by kernel_rfl)
theorem qFF:Fq E M 146 262136 [] [] [[0,0,0,0,0,0,0,0,0,0,0,0,0,0,0,0,0,0,0,0]] [[0]]:= .of (by kernel_rfl)
theorem qxW:Fq E M 147 232 [] [1] [[24]] [[24]]:= .of (by kernel_rfl)
theorem qFG:Fq E M 148 4088 [] [] [[0,0,0,0,0,0,0,0,0,7,5]] [[0,0,0,0,0,0,0,0,0,7,5]]:= .of (by kernel_rfl)
theorem qxX:Fq E M 149 4194048 [] [] [[0,0,0,0,0,0],[0,0,0,0,0,0,0,0,0,7,5],[0]] []:= .of (by kernel_rfl)
theorem qCx:Fq E M 150 224 [] [] [[30],[0]] [[0]]:= .of (by kernel_rfl)
theorem qFH:Fq E M 151 128896 [] [] [[5],[0]] [[0,0,0,0],[0]]:= .of (by kernel_rfl)
theorem qFI:Fq E M 152 785856 [] [] [[30],[0]] [[0]]:= .of (by kernel_rfl)
theorem qFJ:Fq E M 153 144115050636902368 [] [] [[0,0,0,0,0,0,0,0,0,0,0,0,0,0,0,0,0,0,0,0,0,7,5],[0,0,0,0,0,0,0,0,0,0,0,0,0,0,0,0,0,0,0,0,0,7,5]] [[0]]:= .of (by kernel_rfl)
theorem qxY:Fq E M 154 120 [] [1] [[0,0,0,0,0,0,0,0,0,0,0,9,9,10,21,24,5,30,0,0,2,9]] [[0]]:= .of (by kernel_rfl)
theorem qnD:Fq E M 155 590295810358704599040 [1] [] [[0],[0],[0,0,0,0],[0],[0]] []:= .of (by kernel_rfl)
theorem qFK:Fq E M 156 16743296 [] [] [[30],[0]] [[30]]:= .of (by kernel_rfl)
theorem qxZ:Fq E M 157 67106304 [] [] [[0,0,0,0,0,0],[9],[0],[0,0,0,0,0,0]] [[0]]:= .of (by kernel_rfl)
theorem qFL:Fq E M 158 224 [] [] [[0],[0]] [[0]]:= .of (by kernel_rfl)
theorem qFM:Fq E M 159 65520 [] [] [[2]] [[0]]:= .of (by kernel_rfl)
theorem qFN:Fq E M 160 268173120 [] [] [[2],[2]] [[0]]:= .of (by kernel_rfl)
theorem qFO:Fq E M 161 536870144 [] [] [[0],[0]] [[2]]:= .of (by kernel_rfl)
theorem qFP:Fq E M 162 16224 [] [] [[0,0,0,0,0,0],[9]] [[0]]:= .of (by kernel_rfl)
theorem qFQ:Fq E M 163 17162550656 [] [] [[0,0],[0,0,0,0,0,0],[0]] [[0]]:= .of (by kernel_rfl)
theorem qFR:Fq E M 164 72634050390035251200 [] [] [[5],[0],[0],[0]] [[5],[0,0,0,0],[0]]:= .of (by kernel_rfl)
theorem qtI:Fq E M 165 274877857792 [1] [] [[0],[0,0,0,0,0,0],[0],[0],[0,0,0,0],[0],[0]] []:= .of (by kernel_rfl)
theorem qcN:Fq E M 166 4080 [] [] [[0]] [[0,0,0,0,0,0,0,0,0,0,0,9,9,10,21,24,5,30,0,0,2,9],[21]]:= .of (by kernel_rfl)
theorem qFS:Fq E M 167 1784 [] [] [[0]] [[0]]:= .of (by kernel_rfl)
theorem qx0:Fq E M 168 9982748476797305406488081063424 [] [] [[0],[0]] []:= .of (by kernel_rfl)
theorem qCy:Fq E M 178 34359345152 [] [] [[0,0,0,0,0,0,0,0,0,0,0,9,9,10,21,24,5,30,0,0,2,9],[0,0,0,0,0,0],[0],[0],[0,0,0,0],[0],[0]] [[0,0,0,0,0,0,0,0,0,0,0,9,9,10,21,24,5,30,0,0,2,9],[21]]:= .of (by kernel_rfl)
theorem qFT:Fq E M 179 2269741575705706496 [] [] [[5],[0],[0],[0]] [[5],[0,0,0,0],[0]]:= .of (by kernel_rfl)
theorem qx1:Fq E M 180 5316911981901723415436355420689526784 [] [] [[0,0,0,0,0,0,0,0,0,0,0,9,9,10,21,24,5,30,0,0,2,9],[0]] [[0,0,0,0,0,0,0,0,0,0,0,9,9,10,21,24,5,30,0,0,2,9],[21]]:= .of (by kernel_rfl)
theorem qFU:Fq E M 181 4194296 [] [] [[0,0,0,0]] [[0]]:= .of (by kernel_rfl)
theorem qFV:Fq E M 182 4503565267623680 [] [] [[5],[0,0,0,0]] [[5]]:= .of (by kernel_rfl)
theorem qFW:Fq E M 184 496 [] [] [[0,0,0,0,0,0,0,0]] [[0]]:= .of (by kernel_rfl)
theorem qFX:Fq E M 185 17171480064 [] [] [[0,0,0,0,0,0],[0,0,0,0,0,0,0,0],[0,0,0,0,0,0,0,0]] [[0]]:= .of (by kernel_rfl)
theorem qCz:Fq E M 186 39614080961984263615267404800 [1,0,1] [] [[9],[0],[9]] [[9]]:= .of (by kernel_rfl)
theorem qFY:Fq E M 187 274877906432 [] [] [[0,0,0,0,0,0],[0,0,0,0,0,0,0,0],[0,0,0,0,0,0,0,0]] [[0]]:= .of (by kernel_rfl)
theorem qFZ:Fq E M 188 4397509111552 [1] [1] [[9],[0]] [[9]]:= .of (by kernel_rfl)
theorem qF0:Fq E M 189 496 [] [] [[0,0,0,0,0,0,0,0]] [[0]]:= .of (by kernel_rfl)
theorem qF1:Fq E M 190 2093248 [] [] [[2]] [[0]]:= .of (by kernel_rfl)
theorem qF2:Fq E M 191 480 [] [] [[2],[2]] [[2]]:= .of (by kernel_rfl)
theorem qF3:Fq E M 192 33554416 [] [1] [[0,0,0,0,0,0]] [[2]]:= .of (by kernel_rfl)
theorem qF4:Fq E M 193 8176 [] [] [[0,0,0,0,0,0,0,0,0,0,0,9,9,10,21,24,5,30,0,0,2,9,0,0,0,0,0,0,0,0,0,0,0,0,0,0,0,0,0,0,0,0,0,7,5,0,0,0,0,0,0,0,0,0,0,0,0,0,0,0,7,5]] [[0,0,0,0,0,0,0,0,0,0,0,9,9,10,21,24,5,30,0,0,2,9],[21]]:= .of (by kernel_rfl)
theorem qF5:Fq E M 194 496 [] [] [[0,0,0,0,0,0,0,0,0,0,0,9,9,10,21,24,5,30,0,0,2,9,0,0,0,0,0,0,0,0,0,0,0,0,0,0,0,0,0,0,0,0,0,7,5,0,0,0,0,0,0,0,0,0,0,0,0,0,0,0,7,5]] [[0,0,0,0,0,0,0,0,0,0,0,9,9,10,21,24,5,30,0,0,2,9],[21]]:= .of (by kernel_rfl)
theorem qCA:Fq E M 195 268435184 [] [] [[0,0,0,0,0,0,0,0,0,0,0,9,9,10,21,24,5,30,0,0,2,9,0,0,0,0,0,0,0,0,0,0,0,0,0,0,0,0,0,0,0,0,0,7,5,0,0,0,0,0,0,0,0,0,0,0,0,0,0,0,7,5]] [[0,0,0,0,0,0,0,0,0,0,0,9,9,10,21,24,5,30,0,0,2,9],[21]]:= .of (by kernel_rfl)
theorem qF6:Fq E M 196 16368 [] [] [[0,0,0,0,0,0,0,0,0,0,0,9,9,10,21,24,5,30,0,0,2,9,0,0,0,0,0,0,0,0,0,0,0,0,0,0,0,0,0,0,0,0,0,7,5,0,0,0,0,0,0,0,0,0,0,0,0,0,0,0,7,5]] [[0,0,0,0,0,0,0,0,0,0,0,9,9,10,21,24,5,30,0,0,2,9],[21]]:= .of (by kernel_rfl)
theorem qF7:Fq E M 197 32752 [] [] [[0,0,0,0,0,0,0,0,0,0,0,9,9,10,21,24,5,30,0,0,2,9,0,0,0,0,0,0,0,0,0,0,0,0,0,0,0,0,0,0,0,0,0,7,5,0,0,0,0,0,0,0,0,0,0,0,0,0,0,0,7,5]] [[0,0,0,0,0,0,0,0,0,0,0,9,9,10,21,24,5,30,0,0,2,9],[21]]:= .of (by kernel_rfl)
theorem qCB:Fq E M 198 16775136 [] [] [[0,0,0,0,0,0,0,0,0,0,0,9,9,10,21,24,5,30,0,0,2,9,0,0,0,0,0,0,0,0,0,0,0,0,0,0,0,0,0,0,0,0,0,7,5,0,0,0,0,0,0,0,0,0,0,0,0,0,0,0,7,5]] [[0,0,0,0,0,0,0,0,0,0,0,9,9,10,21,24,5,30,0,0,2,9],[21]]:= .of (by kernel_rfl)
theorem qtJ:Fq E M 199 9006924360055808 [] [] [[0,0,0,0,0,0,0,0,0,0,0,9,9,10,21,24,5,30,0,0,2,9],[0],[0]] [[0,0,0,0,0,0,0,0,0,0,0,9,9,10,21,24,5,30,0,0,2,9],[21]]:= .of (by kernel_rfl)
theorem qF8:Fq E M 200 2199023255536 [] [] [[0,0,0,0,0,0]] [[0]]:= .of (by kernel_rfl)
theorem qF9:Fq E M 201 444288 [] [] [[0],[0]] [[0]]:= .of (by kernel_rfl)
theorem qGa:Fq E M 202 8160 [] [] [[0],[0,0,0,0,0,0]] [[0]]:= .of (by kernel_rfl)
theorem qCC:Fq E M 203 4503565267499008 [] [1,1] [[0,0,0,0,0,0,0,0,0,0,0,9,9,10,21,24,5,30,0,0,2,9],[0],[0]] [[0,0,0,0,0,0,0,0,0,0,0,9,9,10,21,24,5,30,0,0,2,9],[21]]:= .of (by kernel_rfl)
theorem qGb:Fq E M 204 1065336832 [] [] [[7],[0]] [[9]]:= .of (by kernel_rfl)
theorem qGc:Fq E M 205 4032 [] [] [[0,0,0,0,0,0]] [[0,0,0,0,0,0,0,0],[0]]:= .of (by kernel_rfl)
theorem qx2:Fq E M 206 457792 [] [] [[9],[0]] [[0]]:= .of (by kernel_rfl)
theorem qGd:Fq E M 207 457792 [] [] [[21],[0]] [[0]]:= .of (by kernel_rfl)
theorem qGe:Fq E M 208 480 [] [] [[24],[0]] [[0]]:= .of (by kernel_rfl)
theorem qGf:Fq E M 209 65504 [] [] [[0,0,0,0,0,0,0,0,0,0,0,0,0,0,0,0,0,0,0,0,0,7,5]] [[0]]:= .of (by kernel_rfl)
theorem qx3:Fq E M 210 232 [] [] [[7]] [[7]]:= .of (by kernel_rfl)
theorem qGg:Fq E M 211 240 [] [] [[0,0,0,0,0,0,0,0,0,0,0,0,0,0,0,0,0,0,0,0,2,0,0,0,0,0,0,0,0]] [[0]]:= .of (by kernel_rfl)
theorem qGh:Fq E M 212 224 [] [] [[5],[0]] [[0]]:= .of (by kernel_rfl)
theorem qx4:Fq E M 213 268435392 [1] [] [[0],[0]] [[0,0,0,0,0,0,0,0,0,0,0,0,0,0,0,0,0,0,0,0,2,0,0,0,0,0,0,0,0]]:= .of (by kernel_rfl)
theorem qGi:Fq E M 214 65408 [] [] [[0],[0]] [[0,0]]:= .of (by kernel_rfl)
theorem qGj:Fq E M 215 1048032 [] [] [[0,0],[0,0]] [[0]]:= .of (by kernel_rfl)
theorem qGk:Fq E M 216 2016 [] [] [[0,0,0,0,0,0],[9]] [[0]]:= .of (by kernel_rfl)
theorem qGl:Fq E M 217 1152921503532580608 [] [1] [[2]] [[2]]:= .of (by kernel_rfl)
theorem qGm:Fq E M 218 33554424 [] [] [[2]] [[0]]:= .of (by kernel_rfl)
theorem qGn:Fq E M 219 4190080 [] [] [[0,0,0,0,0,0],[9]] [[0]]:= .of (by kernel_rfl)
theorem qGo:Fq E M 220 274877902840 [] [] [[0,0,0,0,0,0]] [[0]]:= .of (by kernel_rfl)
theorem qGp:Fq E M 221 4064 [] [] [[0],[0,0,0,0,0,0]] [[0]]:= .of (by kernel_rfl)
theorem qGq:Fq E M 222 24 [] [] [[5]] [[5]]:= .of (by kernel_rfl)
theorem qGr:Fq E M 223 70093865746176 [] [] [[5],[0,0,0,0]] [[5]]:= .of (by kernel_rfl)
theorem qtK:Fq E M 224 201326528 [] [] [[0],[0]] [[0]]:= .of (by kernel_rfl)
theorem qGs:Fq E M 225 56 [] [] [[0]] [[0]]:= .of (by kernel_rfl)
theorem qGt:Fq E M 226 480 [] [] [[2],[0]] [[0]]:= .of (by kernel_rfl)
theorem qtL:Fq E M 227 262128 [1] [] [[0],[0,0,0,0,0,0,0,0,0,0,0,0,0,0,0,0,0,0,0,0,2,0,0,0,0,0,0,0,0]] []:= .of (by kernel_rfl)
theorem qGu:Fq E M 229 9002800134238208 [] [] [[5],[5]] [[5],[0]]:= .of (by kernel_rfl)
theorem qGv:Fq E M 231 168 [] [] [[0]] [[0]]:= .of (by kernel_rfl)
theorem qGw:Fq E M 232 130496 [] [] [[2],[0]] [[0]]:= .of (by kernel_rfl)
theorem qGx:Fq E M 233 262016 [] [] [[0,0,0,0,0,0,0,0,0,0,0,9,9,10,21,24,5,30,0,0,2,9],[0],[0,0,0,0,0,0,0,0,0,0,0,0,0,0,0,0,0,0,0,0,2,0,0,0,0,0,0,0,0]] [[0,0,0,0,0,0,0,0,0,0,0,9,9,10,21,24,5,30,0,0,2,9]]:= .of (by kernel_rfl)
theorem qGy:Fq E M 234 785856 [] [] [[5],[0]] [[0]]:= .of (by kernel_rfl)
theorem qGz:Fq E M 235 137422143424 [] [] [[0],[0]] [[0]]:= .of (by kernel_rfl)
theorem qGA:Fq E M 238 137422143424 [] [] [[0],[0]] [[0]]:= .of (by kernel_rfl)
theorem qGB:Fq E M 239 4503569561550336 [] [] [[2]] [[2]]:= .of (by kernel_rfl)
theorem qGC:Fq E M 240 131008 [] [] [[2],[2]] [[2]]:= .of (by kernel_rfl)
theorem qCD:Fq E M 241 4294729472 [1] [1] [[2],[0],[0]] [[2]]:= .of (by kernel_rfl)
theorem qCE:Fq E M 242 131040 [1] [1] [[2],[0]] [[2]]:= .of (by kernel_rfl)
theorem qGD:Fq E M 243 32512 [] [1,1] [[0,0,0,0,0,0,0,0,0,0,0,9,9,10,21,24,5,30,0,0,2,9],[0],[0]] [[0,0,0,0,0,0,0,0,0,0,0,9,9,10,21,24,5,30,0,0,2,9],[21]]:= .of (by kernel_rfl)
theorem qGE:Fq E M 244 274806996960 [] [] [[0]] [[0]]:= .of (by kernel_rfl)
theorem qGF:Fq E M 245 56 [] [] [[0]] [[0]]:= .of (by kernel_rfl)
theorem qGG:Fq E M 246 3968 [] [] [[2],[2],[2]] [[0]]:= .of (by kernel_rfl)
theorem qGH:Fq E M 247 457792 [] [] [[24],[0]] [[0]]:= .of (by kernel_rfl)
theorem qGI:Fq E M 248 457792 [] [] [[5],[0]] [[0]]:= .of (by kernel_rfl)
theorem qGJ:Fq E M 249 240 [] [] [[0,0,0,0]] [[0]]:= .of (by kernel_rfl)
theorem qGK:Fq E M 250 2251799813668864 [] [] [[0],[0]] [[0],[0]]:= .of (by kernel_rfl)
theorem qCF:Fq E M 251 261984 [] [] [[0,0,0,0,0,0],[9]] [[0]]:= .of (by kernel_rfl)
theorem qGL:Fq E M 252 68702633792 [] [] [[0]] [[2]]:= .of (by kernel_rfl)
theorem qGM:Fq E M 253 2 [] [] [] [[2]]:= .of (by kernel_rfl)
theorem qGN:Fq E M 254 215679573337205118357336120696151728477114015716832964620587687215104 [] [] [[2],[2]] [[2]]:= .of (by kernel_rfl)
theorem qGO:Fq E M 255 266207216 [] [] [[0]] [[0]]:= .of (by kernel_rfl)
theorem qGP:Fq E M 256 8160 [] [] [[0],[0,0,0,0,0,0]] [[0,0,0,0,0,0]]:= .of (by kernel_rfl)
theorem qGQ:Fq E M 257 39614080961984263615267404800 [1] [] [[5],[0],[5]] [[5]]:= .of (by kernel_rfl)
theorem qGR:Fq E M 258 457792 [] [] [[2],[0]] [[0]]:= .of (by kernel_rfl)
theorem qGS:Fq E M 259 2097144 [] [] [[0,0,0,0]] [[0]]:= .of (by kernel_rfl)
theorem qKq:Fq E M 262 68215103488 [] [] [[2]] [[2]]:= .of (by kernel_rfl)
theorem qGT:Fq E M 263 1073676096 [] [] [[0]] [[2]]:= .of (by kernel_rfl)
theorem qGU:Fq E M 264 2 [] [] [] [[0,0,0,0,0,0,0,0]]:= .of (by kernel_rfl)
theorem qGV:Fq E M 265 2595197691317242642214125633929216 [] [] [[0,0,0,0,0,0,0,0],[0,0,0,0,0,0,0,0,0,0,0,0,0,0,0,0,0,0,0,0,0,0,0,0,0,0,0,0,0,0,0,0,0,0,0,0,0,0,0,0,0,0,0,0,0,0,0,0,0,0,0,0,0,0,0,0,0,0,0,0,0,0,0,0]] [[0,0,0,0,0,0,0,0]]:= .of (by kernel_rfl)
theorem qGW:Fq E M 266 8381312 [] [] [[2],[0]] [[2]]:= .of (by kernel_rfl)
theorem qGX:Fq E M 267 992 [] [] [[2],[2]] [[2]]:= .of (by kernel_rfl)
theorem qGY:Fq E M 268 504 [] [] [[0]] [[0]]:= .of (by kernel_rfl)
theorem qGZ:Fq E M 269 65504 [] [] [[2],[2]] [[0]]:= .of (by kernel_rfl)
theorem qG0:Fq E M 270 8160 [] [] [[0],[0]] [[0]]:= .of (by kernel_rfl)
theorem qG1:Fq E M 271 2 [] [] [] [[2]]:= .of (by kernel_rfl)
theorem qG2:Fq E M 272 64960 [] [] [[0],[0]] [[0]]:= .of (by kernel_rfl)
theorem qG3:Fq E M 273 274877902336 [] [] [[2],[2]] [[2]]:= .of (by kernel_rfl)
theorem qG4:Fq E M 274 67108848 [] [1] [[0,0,0,0,0,0]] [[2]]:= .of (by kernel_rfl)
theorem qG5:Fq E M 279 38685626227650541404552192 [] [] [[0,0,0,0,0,0,0,0,0,0,0,0,0,0,0,0,0,0,0,0,0,0,0,0,0,0,0,0,0,0,0,0,0,0,0,0,0,0,0,0,0,0,0,0,0,0,0,0,0,0,0,0,0,0,0,0,0,0,0,0,0,0,0,0]] [[0,0,0,0,0,0,0,0,0,0,0,0,0,0,0,0,0,0,0,0,0,0,0,0,0,0,0,0,0,0,0,0,0,0,0,0,0,0,0,0,0,0,0,0,0,0,0,0,0,0,0,0,0,0,0,0,0,0,0,0,0,0,0,0]]:= .of (by kernel_rfl)
theorem qG6:Fq E M 280 480 [] [] [[0],[0]] [[0]]:= .of (by kernel_rfl)
theorem qG7:Fq E M 281 16344 [] [1] [[2]] [[2]]:= .of (by kernel_rfl)
theorem qG8:Fq E M 282 56 [] [] [[2]] [[0]]:= .of (by kernel_rfl)
theorem qG9:Fq E M 283 8589704960 [] [] [[2],[2]] [[2]]:= .of (by kernel_rfl)
theorem qHa:Fq E M 284 507376 [] [1] [[2]] [[2]]:= .of (by kernel_rfl)
theorem qHb:Fq E M 285 261984 [] [1] [[2],[0]] [[2]]:= .of (by kernel_rfl)
theorem qHc:Fq E M 286 70351560080384 [] [1] [[2],[0],[0]] [[2]]:= .of (by kernel_rfl)
theorem qHd:Fq E M 288 131008 [] [] [[0],[0]] [[0]]:= .of (by kernel_rfl)
theorem qx5:Fq E M 289 232 [] [1] [[2]] [[2]]:= .of (by kernel_rfl)
theorem qHe:Fq E M 290 130048 [] [] [[2]] [[0]]:= .of (by kernel_rfl)
attribute [go_sem] tq3 tq4 tq5 tq9 qqB qCr qNx qNy qNz qNA qNB qNC qND qNE qNF qNG qNH qNI qNJ qNK qNL qNM qNN qNO qNP qNQ qNR qJH qNS qNT qNU qNV qNW qNX qNY qNZ qJI qN0 qN1 qN2 qN3 qN4 qN5 qN6 qN7 qN8 qN9 qOa qOb qJJ qJK qJL qJM qJN qJO qJP qJQ qJR qJS qJT qJU qJV qJW qJX qJY qJZ qJ0 qJ1 qJ2 qJ3 qJ4 qJ5 qJ6 qJ7 qJ8 qJ9 qKa qKb qOc qOd qOe qOf qOg qOh qOi qOj qOk qOl qOm qKc qKd qKe qKf qOn qOo qOp qOq qOr qOs qOt qOu qOv qOw qKg qKh qKi qKj qKk qKl fq7 fq9 qLF qLG qIC qLH qLI qLJ qLK qrg qLL qxS qLM qKm qLN qLO qLP qLQ qLR qLS qLT quV qrh qLU qzu qxT qLV qLW qLX qLY qLZ qL0 qID qIE qIF qL1 qIG qIH qII qIJ qIK qL2 qL3 qL4 qL5 qL6 qIL qIM qgu qIN qIO qL7 qL8 qL9 qMa qMb qMc qMd qMe qMf qKn qMg qMh qKo qMi qMj qMk qMl qKp qIP qMm qMn qMo qIQ qMp qMq qFc qFd qFe qCs qxU qFf qCt qCu qqC qxV qFg qqD qFh qFi qFj qFk qFl qFm qFn qFo qFp qFq qFr qFs qFt qlm qCv qFu qFv qFw qFx qCw qFy qFz qFA qFB qFC qFD qFE qFF qxW qFG qxX qCx qFH qFI qFJ qxY qnD qFK qxZ qFL qFM qFN qFO qFP qFQ qFR qtI qcN qFS qx0 qCy qFT qx1 qFU qFV qFW qFX qCz qFY qFZ qF0 qF1 qF2 qF3 qF4 qF5 qCA qF6 qF7 qCB qtJ qF8 qF9 qGa qCC qGb qGc qx2 qGd qGe qGf qx3 qGg qGh qx4 qGi qGj qGk qGl qGm qGn qGo qGp qGq qGr qtK qGs qGt qtL qGu qGv qGw qGx qGy qGz qGA qGB qGC qCD qCE qGD qGE qGF qGG qGH qGI qGJ qGK qCF qGL qGM qGN qGO qGP qGQ qGR qGS qKq qGT qGU qGV qGW qGX qGY qGZ qG0 qG1 qG2 qG3 qG4 qG5 qG6 qG7 qG8 qG9 qHa qHb qHc qHd qx5 qHe
end Go.Proofs.YtnpkhdjgedeppaaGreatDoor
