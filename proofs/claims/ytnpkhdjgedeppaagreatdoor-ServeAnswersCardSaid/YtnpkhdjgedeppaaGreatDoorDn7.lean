import Derived.Test.YtnpkhdjgedeppaaGreatDoorDn6
namespace Go.Am
set_option linter.unusedSectionVars false
set_option linter.unusedVariables false
set_option linter.unusedSimpArgs false
theorem qdO (x:UInt8):x.toNat<256:=x.toNat_lt
theorem qcm (x:UInt32):x.toNat<4294967296:=x.toNat_lt
def W8.shl (x:UInt8) (n:Nat):UInt8:=UInt8.ofNat (x.toNat * 2 ^ n)
def W8.shr (x:UInt8) (n:Nat):UInt8:=UInt8.ofNat (x.toNat / 2 ^ n)
def w8 (x:UInt8):AVal:= .int .u8 (x.toNat:Int)
theorem qG1 (x:UInt8):w8 x= .int .u8 (x.toNat:Int):=rfl
theorem qdP (m:Nat):IntKind.u8.wrap (m:Int)=((UInt8.ofNat m).toNat:Int):=by
 rw [IntKind.wrap_u8,UInt8.toNat_ofNat'];omega
theorem qG2 (P:Program) (t:TypeId) (x y:UInt8):qbG P .or t (.int .u8 (x.toNat:Int)) (.int .u8 (y.toNat:Int))=some (.int .u8 ((x ||| y).toNat:Int)):=by
 have h1:=qdO x;have h2:=qdO y
 have hl:=(x ||| y).toNat_lt
 rw [UInt8.toNat_or]at hl
 show some (AVal.int .u8 (IntKind.u8.wrap (((BitVec.ofInt 8 (x.toNat:Int)) ||| (BitVec.ofInt 8 (y.toNat:Int))).toNat:Int)))=_
 rw [BitVec.ofInt_natCast,BitVec.ofInt_natCast,BitVec.toNat_or,BitVec.toNat_ofNat,BitVec.toNat_ofNat,UInt8.toNat_or]
 rw [Nat.mod_eq_of_lt h1,Nat.mod_eq_of_lt h2,IntKind.wrap_u8];congr 2;omega
theorem qxS (P:Program) (t:TypeId) (x y:UInt8):qbG P .xor t (.int .u8 (x.toNat:Int)) (.int .u8 (y.toNat:Int))=some (.int .u8 ((x ^^^ y).toNat:Int)):=by
 have h1:=qdO x;have h2:=qdO y
 have hl:=(x ^^^ y).toNat_lt
 rw [UInt8.toNat_xor]at hl
 show some (AVal.int .u8 (IntKind.u8.wrap (((BitVec.ofInt 8 (x.toNat:Int)) ^^^ (BitVec.ofInt 8 (y.toNat:Int))).toNat:Int)))=_
 rw [BitVec.ofInt_natCast,BitVec.ofInt_natCast,BitVec.toNat_xor,BitVec.toNat_ofNat,BitVec.toNat_ofNat,UInt8.toNat_xor]
 rw [Nat.mod_eq_of_lt h1,Nat.mod_eq_of_lt h2,IntKind.wrap_u8];congr 2;omega
theorem qAo (P:Program) (t:TypeId) (x:UInt8) (m:Nat):qbG P .xor t (.int .u8 (x.toNat:Int)) (.int .u8 (no_index (OfNat.ofNat m:Int)))=some (.int .u8 ((x ^^^ UInt8.ofNat (OfNat.ofNat m)).toNat:Int)):=by
 have e:∀b:Int,b=((OfNat.ofNat m:Nat):Int)→qbG P .xor t (.int .u8 (x.toNat:Int)) (.int .u8 b)=qbG P .xor t (.int .u8 (x.toNat:Int)) (.int .u8 ((UInt8.ofNat (OfNat.ofNat m)).toNat:Int)):=fun b hb=>by
  subst hb
  show some (AVal.int .u8 (IntKind.u8.wrap (((BitVec.ofInt 8 (x.toNat:Int)) ^^^ (BitVec.ofInt 8 ((OfNat.ofNat m:Nat):Int))).toNat:Int)))=some (AVal.int .u8 (IntKind.u8.wrap (((BitVec.ofInt 8 (x.toNat:Int)) ^^^ (BitVec.ofInt 8 (((UInt8.ofNat (OfNat.ofNat m)).toNat:Nat):Int))).toNat:Int)))
  have e2:BitVec.ofInt 8 ((OfNat.ofNat m:Nat):Int)=BitVec.ofInt 8 (((UInt8.ofNat (OfNat.ofNat m)).toNat:Nat):Int):=by
   rw [BitVec.ofInt_natCast,BitVec.ofInt_natCast,UInt8.toNat_ofNat'];apply BitVec.eq_of_toNat_eq;simp
  rw [e2]
 exact (e _ rfl).trans (qxS P t x _)
theorem qsr (x:UInt32):IntKind.u8.wrap (x.toNat:Int)=((x.toUInt8).toNat:Int):=by
 have h1:=qcm x
 rw [IntKind.wrap_u8];simp;try omega
def W32.shl (x:UInt32) (n:Nat):UInt32:=UInt32.ofNat (x.toNat * 2 ^ n)
def W32.shr (x:UInt32) (n:Nat):UInt32:=UInt32.ofNat (x.toNat / 2 ^ n)
def w32 (x:UInt32):AVal:= .int .u32 (x.toNat:Int)
theorem qCY (x:UInt32):w32 x= .int .u32 (x.toNat:Int):=rfl
theorem qwj (x y:UInt32):IntKind.u32.wrap ((x.toNat+y.toNat:Nat):Int)=((x+y).toNat:Int):=by
 rw [IntKind.wrap_u32,UInt32.toNat_add];omega
theorem qnm (x:UInt32) (m:Nat):IntKind.u32.wrap ((x.toNat:Int) * (no_index (OfNat.ofNat m:Int)))=((x * UInt32.ofNat (OfNat.ofNat m)).toNat:Int):=by
 rw [IntKind.wrap_u32,UInt32.toNat_mul,UInt32.toNat_ofNat'];show ((x.toNat:Int) * ((OfNat.ofNat m:Nat):Int)) % 4294967296=_;rw [←Int.natCast_mul,Nat.mul_mod,Nat.mod_mod,←Nat.mul_mod];omega
theorem qss (x:UInt32) (m:Nat):IntKind.u32.wrap ((x.toNat * (no_index (OfNat.ofNat m:Nat)):Nat):Int)=((x * UInt32.ofNat (OfNat.ofNat m)).toNat:Int):=qnm x m
theorem qAp (P:Program) (t:TypeId) (x y:UInt32):qbG P .and t (.int .u32 (x.toNat:Int)) (.int .u32 (y.toNat:Int))=some (.int .u32 ((x &&&y).toNat:Int)):=by
 have h1:=qcm x;have h2:=qcm y
 have hl:=(x &&&y).toNat_lt
 rw [UInt32.toNat_and]at hl
 show some (AVal.int .u32 (IntKind.u32.wrap (((BitVec.ofInt 32 (x.toNat:Int)) &&&(BitVec.ofInt 32 (y.toNat:Int))).toNat:Int)))=_
 rw [BitVec.ofInt_natCast,BitVec.ofInt_natCast,BitVec.toNat_and,BitVec.toNat_ofNat,BitVec.toNat_ofNat,UInt32.toNat_and]
 rw [Nat.mod_eq_of_lt h1,Nat.mod_eq_of_lt h2,IntKind.wrap_u32];congr 2;omega
theorem qCZ (P:Program) (t:TypeId) (x y:UInt32):qbG P .or t (.int .u32 (x.toNat:Int)) (.int .u32 (y.toNat:Int))=some (.int .u32 ((x ||| y).toNat:Int)):=by
 have h1:=qcm x;have h2:=qcm y
 have hl:=(x ||| y).toNat_lt
 rw [UInt32.toNat_or]at hl
 show some (AVal.int .u32 (IntKind.u32.wrap (((BitVec.ofInt 32 (x.toNat:Int)) ||| (BitVec.ofInt 32 (y.toNat:Int))).toNat:Int)))=_
 rw [BitVec.ofInt_natCast,BitVec.ofInt_natCast,BitVec.toNat_or,BitVec.toNat_ofNat,BitVec.toNat_ofNat,UInt32.toNat_or]
 rw [Nat.mod_eq_of_lt h1,Nat.mod_eq_of_lt h2,IntKind.wrap_u32];congr 2;omega
theorem qAq (P:Program) (t:TypeId) (x y:UInt32):qbG P .xor t (.int .u32 (x.toNat:Int)) (.int .u32 (y.toNat:Int))=some (.int .u32 ((x ^^^ y).toNat:Int)):=by
 have h1:=qcm x;have h2:=qcm y
 have hl:=(x ^^^ y).toNat_lt
 rw [UInt32.toNat_xor]at hl
 show some (AVal.int .u32 (IntKind.u32.wrap (((BitVec.ofInt 32 (x.toNat:Int)) ^^^ (BitVec.ofInt 32 (y.toNat:Int))).toNat:Int)))=_
 rw [BitVec.ofInt_natCast,BitVec.ofInt_natCast,BitVec.toNat_xor,BitVec.toNat_ofNat,BitVec.toNat_ofNat,UInt32.toNat_xor]
 rw [Nat.mod_eq_of_lt h1,Nat.mod_eq_of_lt h2,IntKind.wrap_u32];congr 2;omega
theorem qnn (P:Program) (t:TypeId) (x:UInt32) (k:IntKind) (m:Nat):qbG P .shl t (.int .u32 (x.toNat:Int)) (.int k (m:Int))=some (.int .u32 ((W32.shl x m).toNat:Int)):=by
 have e:¬((m:Int)<0):=by omega
 simp only [qbG,qbu,if_true,qhy,if_neg e,Int.toNat_natCast,IntKind.bits]
 rw [IntKind.wrap_u32,W32.shl,UInt32.toNat_ofNat']
 congr 2
 by_cases hm:m≤32
 ·rw [Nat.min_eq_left hm,show ((2:Int) ^ m)=((2 ^ m:Nat):Int) by simp,←Int.natCast_mul];omega
 ·rw [Nat.min_eq_right (by omega)]
  have e1:(2:Nat) ^ m=4294967296 * 2 ^ (m - 32):=by rw [show (4294967296:Nat)=2 ^ 32 by decide,←Nat.pow_add];congr 1;omega
  rw [e1]
  have e2:x.toNat * (4294967296 * 2 ^ (m - 32)) % 2 ^ 32=0:=by rw [show (2:Nat) ^ 32=4294967296 by decide,Nat.mul_left_comm];exact Nat.mul_mod_right ..
  rw [e2,show ((2:Int) ^ 32)=4294967296 by decide];omega
theorem qno (P:Program) (t:TypeId) (x:UInt32) (k:IntKind) (m:Nat):qbG P .shr t (.int .u32 (x.toNat:Int)) (.int k (m:Int))=some (.int .u32 ((W32.shr x m).toNat:Int)):=by
 have e:¬((m:Int)<0):=by omega
 have hx:=qcm x
 have hd:x.toNat / 2 ^ m<4294967296:=Nat.lt_of_le_of_lt (Nat.div_le_self ..) hx
 simp only [qbG,qbu,if_true,qhy,if_neg e,Int.toNat_natCast,IntKind.bits]
 rw [W32.shr,UInt32.toNat_ofNat',Nat.mod_eq_of_lt hd]
 congr 2
 by_cases hm:m≤32
 ·rw [Nat.min_eq_left hm,show ((2:Int) ^ m)=((2 ^ m:Nat):Int) by simp,←Int.ofNat_fdiv]
 ·rw [Nat.min_eq_right (by omega)]
  have e1:4294967296≤(2:Nat) ^ m:=by rw [show (4294967296:Nat)=2 ^ 32 by decide];exact Nat.pow_le_pow_right (by omega) (by omega)
  rw [Nat.div_eq_of_lt (by omega),show ((2:Int) ^ 32)=((4294967296:Nat):Int) by decide,←Int.ofNat_fdiv,Nat.div_eq_of_lt hx]
theorem qwk (P:Program) (t:TypeId) (x:UInt32) (k:IntKind) (m:Nat):qbG P .shl t (.int .u32 (x.toNat:Int)) (.int k (no_index (OfNat.ofNat m:Int)))=some (.int .u32 ((W32.shl x (OfNat.ofNat m)).toNat:Int)):=qnn P t x k (OfNat.ofNat m)
theorem qwl (P:Program) (t:TypeId) (x:UInt32) (k:IntKind) (m:Nat):qbG P .shr t (.int .u32 (x.toNat:Int)) (.int k (no_index (OfNat.ofNat m:Int)))=some (.int .u32 ((W32.shr x (OfNat.ofNat m)).toNat:Int)):=qno P t x k (OfNat.ofNat m)
theorem qAr (x:UInt32):unV .xor (.int .u32 (x.toNat:Int))=some (.int .u32 ((~~~x).toNat:Int)):=by
 have h1:=qcm x
 have e:(IntKind.u32.max:Int)=((4294967295:Nat):Int):=by decide
 have e2:(IntKind.u32).signed=false:=rfl
 show some (AVal.int .u32 (IntKind.u32.wrap (((BitVec.ofInt 32 IntKind.u32.max) ^^^ (BitVec.ofInt 32 (x.toNat:Int))).toNat:Int)))=_
 rw [e,BitVec.ofInt_natCast,BitVec.ofInt_natCast,BitVec.toNat_xor,BitVec.toNat_ofNat,BitVec.toNat_ofNat]
 rw [Nat.mod_eq_of_lt h1,show (4294967295:Nat) % 2 ^ 32=2 ^ 32 - 1 by decide,Nat.xor_comm,←BitVec.toNat_allOnes,show x.toNat=x.toBitVec.toNat from rfl,←BitVec.toNat_xor,BitVec.xor_allOnes]
 have h3:=(~~~x).toNat_lt
 have h4:(~~~x.toBitVec).toNat=(~~~x).toNat:=by simp
 rw [h4,IntKind.wrap_u32];congr 2;omega
theorem qst (x:UInt8):IntKind.u32.wrap (x.toNat:Int)=((x.toUInt32).toNat:Int):=by
 have h1:=qdO x
 rw [IntKind.wrap_u32];simp;try omega
theorem qC0 (x:UInt32):IntKind.u32.wrap (x.toNat:Int)=(x.toNat:Int):=by
 have h1:=qcm x
 rw [IntKind.wrap_u32];omega
theorem qsu (x:UInt32) (m:Nat):IntKind.u32.wrap ((x.toNat / m:Nat):Int)=((x.toNat / m:Nat):Int):=by
 have h1:=qcm x
 have h2:=Nat.div_le_self x.toNat m
 generalize x.toNat / m=q at *
 rw [IntKind.wrap_u32];omega
def W64.shl (x:UInt64) (n:Nat):UInt64:=UInt64.ofNat (x.toNat * 2 ^ n)
def W64.shr (x:UInt64) (n:Nat):UInt64:=UInt64.ofNat (x.toNat / 2 ^ n)
def w64 (x:UInt64):AVal:= .int .u64 (x.toNat:Int)
theorem qC1 (x:UInt64):w64 x= .int .u64 (x.toNat:Int):=rfl
theorem qwm (x y:UInt64):IntKind.u64.wrap ((x.toNat+y.toNat:Nat):Int)=((x+y).toNat:Int):=by
 rw [IntKind.wrap_u64,UInt64.toNat_add];omega
theorem qnp (x:UInt64) (m:Nat):IntKind.u64.wrap ((x.toNat:Int) * (no_index (OfNat.ofNat m:Int)))=((x * UInt64.ofNat (OfNat.ofNat m)).toNat:Int):=by
 rw [IntKind.wrap_u64,UInt64.toNat_mul,UInt64.toNat_ofNat'];show ((x.toNat:Int) * ((OfNat.ofNat m:Nat):Int)) % 18446744073709551616=_;rw [←Int.natCast_mul,Nat.mul_mod,Nat.mod_mod,←Nat.mul_mod];omega
theorem qsv (x:UInt64) (m:Nat):IntKind.u64.wrap ((x.toNat * (no_index (OfNat.ofNat m:Nat)):Nat):Int)=((x * UInt64.ofNat (OfNat.ofNat m)).toNat:Int):=qnp x m
theorem qsw (x:UInt8):IntKind.u64.wrap (x.toNat:Int)=((x.toUInt64).toNat:Int):=by
 have h1:=qdO x
 rw [IntKind.wrap_u64];simp;try omega
theorem qpD (x:UInt32):IntKind.u64.wrap (x.toNat:Int)=((x.toUInt64).toNat:Int):=by
 have h1:=qcm x
 rw [IntKind.wrap_u64];simp;try omega
theorem qwn (a m:Nat):Int.tdiv (a:Int) (no_index (OfNat.ofNat m:Int))=((a / (OfNat.ofNat m):Nat):Int):=rfl
theorem qwo (a m:Nat):Int.tmod (a:Int) (no_index (OfNat.ofNat m:Int))=((a % (OfNat.ofNat m):Nat):Int):=rfl
theorem qwp (a m:Nat):Int.tdiv (a:Int) (m:Int)=((a / m:Nat):Int):=rfl
theorem qwq (a m:Nat):Int.tmod (a:Int) (m:Int)=((a % m:Nat):Int):=rfl
theorem qAs (a m:Nat):(no_index (OfNat.ofNat m:Int)) * (a:Int)=(((OfNat.ofNat m) * a:Nat):Int):=rfl
theorem qAt (a m:Nat):(a:Int) * (no_index (OfNat.ofNat m:Int))=((a * (OfNat.ofNat m):Nat):Int):=rfl
theorem add_lit (a m:Nat):(no_index (OfNat.ofNat m:Int))+(a:Int)=(((OfNat.ofNat m)+a:Nat):Int):=rfl
theorem qAu (a m:Nat):(a:Int)+(no_index (OfNat.ofNat m:Int))=((a+(OfNat.ofNat m):Nat):Int):=rfl
theorem qwr (a b:Nat):((a:Int) * (b:Int))=((a * b:Nat):Int):=rfl
theorem qsx (P:Program) (t:TypeId) (k k':IntKind) (a m:Nat) (h:m≤k.bits):qbG P .shr t (.int k (a:Int)) (.int k' (m:Int))=some (.int k ((a / 2 ^ m:Nat):Int)):=by
 have e:¬((m:Int)<0):=by omega
 simp only [qbG,qbu,if_true,qhy,if_neg e,Int.toNat_natCast,Nat.min_eq_left h]
 rw [show ((2:Int) ^ m)=((2 ^ m:Nat):Int) by simp,←Int.ofNat_fdiv]
theorem qAv (P:Program) (t:TypeId) (k k':IntKind) (a m:Nat) (h:OfNat.ofNat m≤k.bits):qbG P .shr t (.int k (a:Int)) (.int k' (no_index (OfNat.ofNat m:Int)))=some (.int k ((a / 2 ^ (OfNat.ofNat m):Nat):Int)):=qsx P t k k' a (OfNat.ofNat m) h
theorem qAw:IntKind.u8.bits=8:=rfl
theorem qws:IntKind.u32.bits=32:=rfl
theorem qwt:IntKind.u64.bits=64:=rfl
theorem qwu:IntKind.i64.bits=64:=rfl
theorem qmq (b:UInt8):qab b=[.int .u8 (b.toNat:Int)]:=rfl
theorem qAx {α:Type} (f:α→AVal) (l:List α) (j:Nat) (x:α) (h:j<l.length):qbf (l.map f) j [f x]=(l.set j x).map f:=by
 rw [qgk]
 simp only [List.length_singleton]
 rw [List.set_eq_take_append_cons_drop,if_pos h]
 simp [List.map_take,List.map_drop]
theorem qnq {α:Type} (f:α→AVal) (l:List α) (j:Nat) (h:j<l.length):mkV false (((l.map f).drop j).take 1)=f l[j]:=by
 rw [←List.map_drop,←List.map_take,List.drop_eq_getElem_cons h];rfl
theorem qwv (x:UInt32) (m:Nat):IntKind.u8.wrap ((x.toNat / m:Nat):Int)=((UInt32.ofNat (x.toNat / m)).toUInt8.toNat:Int):=by
 have h1:=qcm x
 have h2:=Nat.div_le_self x.toNat m
 rw [IntKind.wrap_u8,UInt32.toNat_toUInt8,UInt32.toNat_ofNat'];generalize x.toNat / m=q at *;omega
theorem qmr (l:List UInt8) (j:Nat) (x:UInt8):(l.map qab).set j [.int .u8 (x.toNat:Int)]=(l.set j x).map qab:=by rw [List.map_set];rfl
theorem qms (l:List UInt8) (x:UInt8):l.map qab++[[.int .u8 (x.toNat:Int)]]=(l++[x]).map qab:=by rw [List.map_append];rfl
theorem qC2 (l:List UInt8) (j:Nat) (h:j<l.length):mkV false (((l.drop j).take 1).map w8)= .int .u8 ((l[j].toNat:Nat):Int):=by rw [List.map_take,List.map_drop];exact qnq w8 l j h
theorem qkm (l:List UInt8):(l.map w8).all AVal.num=true:=by induction l<;>simp_all [w8,AVal.num]
def r32 (x:UInt32):List AVal:=[.int .u32 (x.toNat:Int)]
theorem qC3 (x:UInt32):r32 x=[.int .u32 (x.toNat:Int)]:=rfl
theorem qC4 (l:List UInt32) (j:Nat) (x:UInt32) (h:j<l.length):qbf (l.map w32) j [.int .u32 (x.toNat:Int)]=(l.set j x).map w32:=qAx w32 l j x h
theorem qAy (l:List UInt32) (j:Nat) (h:j<l.length):mkV false (((l.drop j).take 1).map w32)= .int .u32 ((l[j].toNat:Nat):Int):=by rw [List.map_take,List.map_drop];exact qnq w32 l j h
theorem qAz (l:List UInt32):(l.map w32).all AVal.one=true:=by induction l<;>simp_all [w32,AVal.one]
theorem qgR (l:List UInt32):(l.map w32).all AVal.num=true:=by induction l<;>simp_all [w32,AVal.num]
theorem qww (l:List UInt32):qbZ (l.map w32)=true:=by induction l<;>simp_all [w32,qbZ,AVal.flat]
def r64 (x:UInt64):List AVal:=[.int .u64 (x.toNat:Int)]
theorem qC5 (x:UInt64):r64 x=[.int .u64 (x.toNat:Int)]:=rfl
theorem qmt:∀(cs:List AVal),cs.all AVal.num=true→qbN cs=true
 | [],_=>rfl
 | v::vs,h=>by
  simp only [List.all_cons,Bool.and_eq_true]at h
  simp only [qbN,Bool.and_eq_true]
  refine ⟨?_,qmt vs h.2⟩
  cases v<;>simp [AVal.num]at h<;>rfl
theorem qkn {H:qac} {id k:Nat} {cs:List AVal} (h:cs.all AVal.num=true):qaU H id k cs=cs:=(qeH H cs id k (qmt cs h)).1
theorem qko {H:qac} {id k:Nat} {cs:List AVal} (h:cs.all AVal.num=true):qa9 H id k cs=[]:=(qeH H cs id k (qmt cs h)).2
theorem qiO {own:Bool}:∀{ks:List Nat} {cs:List AVal},cs.all AVal.num=true→qoz own ks cs=cs
 | [],_,_=>by unfold qoz;rfl
 | _::_,[],_=>rfl
 | k::ks,v::vs,h=>by
  simp only [List.all_cons,Bool.and_eq_true]at h
  simp only [qoz,qiO h.2]
  congr 1
  cases v<;>simp [AVal.num]at h<;>(cases k<;>rfl)
theorem qmu {H:qac} {n:Nat}:∀{cs:List AVal},cs.all AVal.num=true→pkL (pkE H n) cs=some (cs,[])
 | [],_=>rfl
 | v::vs,h=>by
  simp only [List.all_cons,Bool.and_eq_true]at h
  simp only [pkL,qmu h.2]
  cases n<;>cases v<;>simp [AVal.num]at h<;>simp [pkE,gu,AVal.clo,AVal.plain]
theorem qkp {fn:Func} {code:Code} {ex:List Nat} {ds:List AVal} (h1:qb7 fn.ntmps code=true) (h2:decide (ds.length≤fn.ntmps)=true) (h3:qa9 qac.nil 0 0 ds=[]) (h4:(ex.all fun k=>quD (ds.getD k .junk))=true):qek fn code ex ds=true:=by
 simp only [qek,h1,h2,h3,h4,List.map_nil,Bool.and_true,Bool.true_and];rfl
theorem qwx (H:qac) (id k:Nat) (l:List UInt8):qaU H id k (l.map w8)=l.map w8:=qkn (qkm l)
theorem qwy (H:qac) (id k:Nat) (l:List UInt8):qa9 H id k (l.map w8)=[]:=qko (qkm l)
theorem qAA (own:Bool) (ks:List Nat) (l:List UInt8):qoz own ks (l.map w8)=l.map w8:=qiO (qkm l)
theorem qC6 {β:Type} (H:qac) (n:Nat) (l:List UInt8) (K:List AVal×List Nat→Option β):@kB _ _ (pkL (pkE H n) (l.map w8)) ⟨K⟩=K (l.map w8,[]):=by rw [qmu (qkm l)];rfl
theorem qsy (H:qac) (id k:Nat) (l:List UInt32):qaU H id k (l.map w32)=l.map w32:=qkn (qgR l)
theorem qsz (H:qac) (id k:Nat) (l:List UInt32):qa9 H id k (l.map w32)=[]:=qko (qgR l)
theorem qwz (own:Bool) (ks:List Nat) (l:List UInt32):qoz own ks (l.map w32)=l.map w32:=qiO (qgR l)
theorem qAB {β:Type} (H:qac) (n:Nat) (l:List UInt32) (K:List AVal×List Nat→Option β):@kB _ _ (pkL (pkE H n) (l.map w32)) ⟨K⟩=K (l.map w32,[]):=by rw [qmu (qgR l)];rfl
theorem qd5 {α β:Type} {C:Cf} {lo:Nat} {b:Code} {Q:Exit→St→Option Res} (I:α→β→(Nat→AVal)→qac→Prop) (μ:α→β→Nat) (R:α→β→Option Res)
  (step:∀a c f H,I a c f H→(∀a' c' f' H',I a' c' f' H'→μ a' c'<μ a c→@qdN f' H' ⟨(C,lo,b,Q)⟩=R a' c')→dw C lo b (qiK (fun s=>@qdN s.fr s.H ⟨(C,lo,b,Q)⟩) Q) ⟨f,H⟩=R a c) :
  ∀a c f H,I a c f H→@qdN f H ⟨(C,lo,b,Q)⟩=R a c:=fun a c f H h=>
 qaj (fun p f H=>I p.1 p.2 f H) (fun p=>μ p.1 p.2) (fun p=>R p.1 p.2) (fun p f H hI ih=>step p.1 p.2 f H hI fun a' c' f' H' hI' hlt=>ih (a',c') f' H' hI' hlt) (a,c) f H h
attribute [go_sem high] qC4 qsr qnm qss qst qC0 qnp qsv qsw qpD
attribute [go_sem] qG1 qG2 qxS qAo qCY qwj qAp qCZ qAq qnn qwk qno qwl qAr qsu qC1 qwm qwv qmr qms qC2 qkm qC3 qAy qAz qgR qww qC5 qwx qwy qAA qC6 qsy qsz qwz qAB qAs qAt qwr qAu add_lit qmq qwn qwo qwp qwq qAw qws qwt qwu
attribute [go_sem] Nat.mul_one Nat.one_mul Nat.zero_mul Nat.mul_zero
attribute [go_sem low] qsx qAv
end Go.Am
