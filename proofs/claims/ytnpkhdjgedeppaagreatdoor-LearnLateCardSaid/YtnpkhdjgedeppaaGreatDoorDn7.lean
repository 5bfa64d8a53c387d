import Derived.Test.YtnpkhdjgedeppaaGreatDoorDn6
namespace Go.Am
set_option linter.unusedSectionVars false
set_option linter.unusedVariables false
set_option linter.unusedSimpArgs false
theorem qd3 (x:UInt8):x.toNat<256:=x.toNat_lt
theorem qcq (x:UInt32):x.toNat<4294967296:=x.toNat_lt
def W8.shl (x:UInt8) (n:Nat):UInt8:=UInt8.ofNat (x.toNat * 2 ^ n)
def W8.shr (x:UInt8) (n:Nat):UInt8:=UInt8.ofNat (x.toNat / 2 ^ n)
def w8 (x:UInt8):AVal:= .int .u8 (x.toNat:Int)
theorem qJE (x:UInt8):w8 x= .int .u8 (x.toNat:Int):=rfl
theorem qd4 (m:Nat):IntKind.u8.wrap (m:Int)=((UInt8.ofNat m).toNat:Int):=by
 rw [IntKind.wrap_u8,UInt8.toNat_ofNat'];omega
theorem qJF (P:Program) (t:TypeId) (x y:UInt8):qbF P .or t (.int .u8 (x.toNat:Int)) (.int .u8 (y.toNat:Int))=some (.int .u8 ((x ||| y).toNat:Int)):=by
 have h1:=qd3 x;have h2:=qd3 y
 have hl:=(x ||| y).toNat_lt
 rw [UInt8.toNat_or]at hl
 show some (AVal.int .u8 (IntKind.u8.wrap (((BitVec.ofInt 8 (x.toNat:Int)) ||| (BitVec.ofInt 8 (y.toNat:Int))).toNat:Int)))=_
 rw [BitVec.ofInt_natCast,BitVec.ofInt_natCast,BitVec.toNat_or,BitVec.toNat_ofNat,BitVec.toNat_ofNat,UInt8.toNat_or]
 rw [Nat.mod_eq_of_lt h1,Nat.mod_eq_of_lt h2,IntKind.wrap_u8];congr 2;omega
theorem qzt (P:Program) (t:TypeId) (x y:UInt8):qbF P .xor t (.int .u8 (x.toNat:Int)) (.int .u8 (y.toNat:Int))=some (.int .u8 ((x ^^^ y).toNat:Int)):=by
 have h1:=qd3 x;have h2:=qd3 y
 have hl:=(x ^^^ y).toNat_lt
 rw [UInt8.toNat_xor]at hl
 show some (AVal.int .u8 (IntKind.u8.wrap (((BitVec.ofInt 8 (x.toNat:Int)) ^^^ (BitVec.ofInt 8 (y.toNat:Int))).toNat:Int)))=_
 rw [BitVec.ofInt_natCast,BitVec.ofInt_natCast,BitVec.toNat_xor,BitVec.toNat_ofNat,BitVec.toNat_ofNat,UInt8.toNat_xor]
 rw [Nat.mod_eq_of_lt h1,Nat.mod_eq_of_lt h2,IntKind.wrap_u8];congr 2;omega
theorem qB6 (P:Program) (t:TypeId) (x:UInt8) (m:Nat):qbF P .xor t (.int .u8 (x.toNat:Int)) (.int .u8 (no_index (OfNat.ofNat m:Int)))=some (.int .u8 ((x ^^^ UInt8.ofNat (OfNat.ofNat m)).toNat:Int)):=by
 have e:∀b:Int,b=((OfNat.ofNat m:Nat):Int)→qbF P .xor t (.int .u8 (x.toNat:Int)) (.int .u8 b)=qbF P .xor t (.int .u8 (x.toNat:Int)) (.int .u8 ((UInt8.ofNat (OfNat.ofNat m)).toNat:Int)):=fun b hb=>by
  subst hb
  show some (AVal.int .u8 (IntKind.u8.wrap (((BitVec.ofInt 8 (x.toNat:Int)) ^^^ (BitVec.ofInt 8 ((OfNat.ofNat m:Nat):Int))).toNat:Int)))=some (AVal.int .u8 (IntKind.u8.wrap (((BitVec.ofInt 8 (x.toNat:Int)) ^^^ (BitVec.ofInt 8 (((UInt8.ofNat (OfNat.ofNat m)).toNat:Nat):Int))).toNat:Int)))
  have e2:BitVec.ofInt 8 ((OfNat.ofNat m:Nat):Int)=BitVec.ofInt 8 (((UInt8.ofNat (OfNat.ofNat m)).toNat:Nat):Int):=by
   rw [BitVec.ofInt_natCast,BitVec.ofInt_natCast,UInt8.toNat_ofNat'];apply BitVec.eq_of_toNat_eq;simp
  rw [e2]
 exact (e _ rfl).trans (qzt P t x _)
theorem qtz (x:UInt32):IntKind.u8.wrap (x.toNat:Int)=((x.toUInt8).toNat:Int):=by
 have h1:=qcq x
 rw [IntKind.wrap_u8];simp;try omega
def W32.shl (x:UInt32) (n:Nat):UInt32:=UInt32.ofNat (x.toNat * 2 ^ n)
def W32.shr (x:UInt32) (n:Nat):UInt32:=UInt32.ofNat (x.toNat / 2 ^ n)
def w32 (x:UInt32):AVal:= .int .u32 (x.toNat:Int)
theorem qE1 (x:UInt32):w32 x= .int .u32 (x.toNat:Int):=rfl
theorem qxB (x y:UInt32):IntKind.u32.wrap ((x.toNat+y.toNat:Nat):Int)=((x+y).toNat:Int):=by
 rw [IntKind.wrap_u32,UInt32.toNat_add];omega
theorem qoo (x:UInt32) (m:Nat):IntKind.u32.wrap ((x.toNat:Int) * (no_index (OfNat.ofNat m:Int)))=((x * UInt32.ofNat (OfNat.ofNat m)).toNat:Int):=by
 rw [IntKind.wrap_u32,UInt32.toNat_mul,UInt32.toNat_ofNat'];show ((x.toNat:Int) * ((OfNat.ofNat m:Nat):Int)) % 4294967296=_;rw [←Int.natCast_mul,Nat.mul_mod,Nat.mod_mod,←Nat.mul_mod];omega
theorem qtA (x:UInt32) (m:Nat):IntKind.u32.wrap ((x.toNat * (no_index (OfNat.ofNat m:Nat)):Nat):Int)=((x * UInt32.ofNat (OfNat.ofNat m)).toNat:Int):=qoo x m
theorem qB7 (P:Program) (t:TypeId) (x y:UInt32):qbF P .and t (.int .u32 (x.toNat:Int)) (.int .u32 (y.toNat:Int))=some (.int .u32 ((x &&&y).toNat:Int)):=by
 have h1:=qcq x;have h2:=qcq y
 have hl:=(x &&&y).toNat_lt
 rw [UInt32.toNat_and]at hl
 show some (AVal.int .u32 (IntKind.u32.wrap (((BitVec.ofInt 32 (x.toNat:Int)) &&&(BitVec.ofInt 32 (y.toNat:Int))).toNat:Int)))=_
 rw [BitVec.ofInt_natCast,BitVec.ofInt_natCast,BitVec.toNat_and,BitVec.toNat_ofNat,BitVec.toNat_ofNat,UInt32.toNat_and]
 rw [Nat.mod_eq_of_lt h1,Nat.mod_eq_of_lt h2,IntKind.wrap_u32];congr 2;omega
theorem qE2 (P:Program) (t:TypeId) (x y:UInt32):qbF P .or t (.int .u32 (x.toNat:Int)) (.int .u32 (y.toNat:Int))=some (.int .u32 ((x ||| y).toNat:Int)):=by
 have h1:=qcq x;have h2:=qcq y
 have hl:=(x ||| y).toNat_lt
 rw [UInt32.toNat_or]at hl
 show some (AVal.int .u32 (IntKind.u32.wrap (((BitVec.ofInt 32 (x.toNat:Int)) ||| (BitVec.ofInt 32 (y.toNat:Int))).toNat:Int)))=_
 rw [BitVec.ofInt_natCast,BitVec.ofInt_natCast,BitVec.toNat_or,BitVec.toNat_ofNat,BitVec.toNat_ofNat,UInt32.toNat_or]
 rw [Nat.mod_eq_of_lt h1,Nat.mod_eq_of_lt h2,IntKind.wrap_u32];congr 2;omega
theorem qB8 (P:Program) (t:TypeId) (x y:UInt32):qbF P .xor t (.int .u32 (x.toNat:Int)) (.int .u32 (y.toNat:Int))=some (.int .u32 ((x ^^^ y).toNat:Int)):=by
 have h1:=qcq x;have h2:=qcq y
 have hl:=(x ^^^ y).toNat_lt
 rw [UInt32.toNat_xor]at hl
 show some (AVal.int .u32 (IntKind.u32.wrap (((BitVec.ofInt 32 (x.toNat:Int)) ^^^ (BitVec.ofInt 32 (y.toNat:Int))).toNat:Int)))=_
 rw [BitVec.ofInt_natCast,BitVec.ofInt_natCast,BitVec.toNat_xor,BitVec.toNat_ofNat,BitVec.toNat_ofNat,UInt32.toNat_xor]
 rw [Nat.mod_eq_of_lt h1,Nat.mod_eq_of_lt h2,IntKind.wrap_u32];congr 2;omega
theorem qop (P:Program) (t:TypeId) (x:UInt32) (k:IntKind) (m:Nat):qbF P .shl t (.int .u32 (x.toNat:Int)) (.int k (m:Int))=some (.int .u32 ((W32.shl x m).toNat:Int)):=by
 have e:¬((m:Int)<0):=by omega
 simp only [qbF,qbA,if_true,qh8,if_neg e,Int.toNat_natCast,IntKind.bits]
 rw [IntKind.wrap_u32,W32.shl,UInt32.toNat_ofNat']
 congr 2
 by_cases hm:m≤32
 ·rw [Nat.min_eq_left hm,show ((2:Int) ^ m)=((2 ^ m:Nat):Int) by simp,←Int.natCast_mul];omega
 ·rw [Nat.min_eq_right (by omega)]
  have e1:(2:Nat) ^ m=4294967296 * 2 ^ (m - 32):=by rw [show (4294967296:Nat)=2 ^ 32 by decide,←Nat.pow_add];congr 1;omega
  rw [e1]
  have e2:x.toNat * (4294967296 * 2 ^ (m - 32)) % 2 ^ 32=0:=by rw [show (2:Nat) ^ 32=4294967296 by decide,Nat.mul_left_comm];exact Nat.mul_mod_right ..
  rw [e2,show ((2:Int) ^ 32)=4294967296 by decide];omega
theorem qoq (P:Program) (t:TypeId) (x:UInt32) (k:IntKind) (m:Nat):qbF P .shr t (.int .u32 (x.toNat:Int)) (.int k (m:Int))=some (.int .u32 ((W32.shr x m).toNat:Int)):=by
 have e:¬((m:Int)<0):=by omega
 have hx:=qcq x
 have hd:x.toNat / 2 ^ m<4294967296:=Nat.lt_of_le_of_lt (Nat.div_le_self ..) hx
 simp only [qbF,qbA,if_true,qh8,if_neg e,Int.toNat_natCast,IntKind.bits]
 rw [W32.shr,UInt32.toNat_ofNat',Nat.mod_eq_of_lt hd]
 congr 2
 by_cases hm:m≤32
 ·rw [Nat.min_eq_left hm,show ((2:Int) ^ m)=((2 ^ m:Nat):Int) by simp,←Int.ofNat_fdiv]
 ·rw [Nat.min_eq_right (by omega)]
  have e1:4294967296≤(2:Nat) ^ m:=by rw [show (4294967296:Nat)=2 ^ 32 by decide];exact Nat.pow_le_pow_right (by omega) (by omega)
  rw [Nat.div_eq_of_lt (by omega),show ((2:Int) ^ 32)=((4294967296:Nat):Int) by decide,←Int.ofNat_fdiv,Nat.div_eq_of_lt hx]
theorem qxC (P:Program) (t:TypeId) (x:UInt32) (k:IntKind) (m:Nat):qbF P .shl t (.int .u32 (x.toNat:Int)) (.int k (no_index (OfNat.ofNat m:Int)))=some (.int .u32 ((W32.shl x (OfNat.ofNat m)).toNat:Int)):=qop P t x k (OfNat.ofNat m)
theorem qxD (P:Program) (t:TypeId) (x:UInt32) (k:IntKind) (m:Nat):qbF P .shr t (.int .u32 (x.toNat:Int)) (.int k (no_index (OfNat.ofNat m:Int)))=some (.int .u32 ((W32.shr x (OfNat.ofNat m)).toNat:Int)):=qoq P t x k (OfNat.ofNat m)
theorem qB9 (x:UInt32):unV .xor (.int .u32 (x.toNat:Int))=some (.int .u32 ((~~~x).toNat:Int)):=by
 have h1:=qcq x
 have e:(IntKind.u32.max:Int)=((4294967295:Nat):Int):=by decide
 have e2:(IntKind.u32).signed=false:=rfl
 show some (AVal.int .u32 (IntKind.u32.wrap (((BitVec.ofInt 32 IntKind.u32.max) ^^^ (BitVec.ofInt 32 (x.toNat:Int))).toNat:Int)))=_
 rw [e,BitVec.ofInt_natCast,BitVec.ofInt_natCast,BitVec.toNat_xor,BitVec.toNat_ofNat,BitVec.toNat_ofNat]
 rw [Nat.mod_eq_of_lt h1,show (4294967295:Nat) % 2 ^ 32=2 ^ 32 - 1 by decide,Nat.xor_comm,←BitVec.toNat_allOnes,show x.toNat=x.toBitVec.toNat from rfl,←BitVec.toNat_xor,BitVec.xor_allOnes]
 have h3:=(~~~x).toNat_lt
 have h4:(~~~x.toBitVec).toNat=(~~~x).toNat:=by simp
 rw [h4,IntKind.wrap_u32];congr 2;omega
theorem qtB (x:UInt8):IntKind.u32.wrap (x.toNat:Int)=((x.toUInt32).toNat:Int):=by
 have h1:=qd3 x
 rw [IntKind.wrap_u32];simp;try omega
theorem qE3 (x:UInt32):IntKind.u32.wrap (x.toNat:Int)=(x.toNat:Int):=by
 have h1:=qcq x
 rw [IntKind.wrap_u32];omega
theorem qtC (x:UInt32) (m:Nat):IntKind.u32.wrap ((x.toNat / m:Nat):Int)=((x.toNat / m:Nat):Int):=by
 have h1:=qcq x
 have h2:=Nat.div_le_self x.toNat m
 generalize x.toNat / m=q at *
 rw [IntKind.wrap_u32];omega
def W64.shl (x:UInt64) (n:Nat):UInt64:=UInt64.ofNat (x.toNat * 2 ^ n)
def W64.shr (x:UInt64) (n:Nat):UInt64:=UInt64.ofNat (x.toNat / 2 ^ n)
def w64 (x:UInt64):AVal:= .int .u64 (x.toNat:Int)
theorem qE4 (x:UInt64):w64 x= .int .u64 (x.toNat:Int):=rfl
theorem qxE (x y:UInt64):IntKind.u64.wrap ((x.toNat+y.toNat:Nat):Int)=((x+y).toNat:Int):=by
 rw [IntKind.wrap_u64,UInt64.toNat_add];omega
theorem qor (x:UInt64) (m:Nat):IntKind.u64.wrap ((x.toNat:Int) * (no_index (OfNat.ofNat m:Int)))=((x * UInt64.ofNat (OfNat.ofNat m)).toNat:Int):=by
 rw [IntKind.wrap_u64,UInt64.toNat_mul,UInt64.toNat_ofNat'];show ((x.toNat:Int) * ((OfNat.ofNat m:Nat):Int)) % 18446744073709551616=_;rw [←Int.natCast_mul,Nat.mul_mod,Nat.mod_mod,←Nat.mul_mod];omega
theorem qtD (x:UInt64) (m:Nat):IntKind.u64.wrap ((x.toNat * (no_index (OfNat.ofNat m:Nat)):Nat):Int)=((x * UInt64.ofNat (OfNat.ofNat m)).toNat:Int):=qor x m
theorem qtE (x:UInt8):IntKind.u64.wrap (x.toNat:Int)=((x.toUInt64).toNat:Int):=by
 have h1:=qd3 x
 rw [IntKind.wrap_u64];simp;try omega
theorem qqz (x:UInt32):IntKind.u64.wrap (x.toNat:Int)=((x.toUInt64).toNat:Int):=by
 have h1:=qcq x
 rw [IntKind.wrap_u64];simp;try omega
theorem qxF (a m:Nat):Int.tdiv (a:Int) (no_index (OfNat.ofNat m:Int))=((a / (OfNat.ofNat m):Nat):Int):=rfl
theorem qxG (a m:Nat):Int.tmod (a:Int) (no_index (OfNat.ofNat m:Int))=((a % (OfNat.ofNat m):Nat):Int):=rfl
theorem qxH (a m:Nat):Int.tdiv (a:Int) (m:Int)=((a / m:Nat):Int):=rfl
theorem qxI (a m:Nat):Int.tmod (a:Int) (m:Int)=((a % m:Nat):Int):=rfl
theorem qCa (a m:Nat):(no_index (OfNat.ofNat m:Int)) * (a:Int)=(((OfNat.ofNat m) * a:Nat):Int):=rfl
theorem qCb (a m:Nat):(a:Int) * (no_index (OfNat.ofNat m:Int))=((a * (OfNat.ofNat m):Nat):Int):=rfl
theorem add_lit (a m:Nat):(no_index (OfNat.ofNat m:Int))+(a:Int)=(((OfNat.ofNat m)+a:Nat):Int):=rfl
theorem qCc (a m:Nat):(a:Int)+(no_index (OfNat.ofNat m:Int))=((a+(OfNat.ofNat m):Nat):Int):=rfl
theorem qxJ (a b:Nat):((a:Int) * (b:Int))=((a * b:Nat):Int):=rfl
theorem qtF (P:Program) (t:TypeId) (k k':IntKind) (a m:Nat) (h:m≤k.bits):qbF P .shr t (.int k (a:Int)) (.int k' (m:Int))=some (.int k ((a / 2 ^ m:Nat):Int)):=by
 have e:¬((m:Int)<0):=by omega
 simp only [qbF,qbA,if_true,qh8,if_neg e,Int.toNat_natCast,Nat.min_eq_left h]
 rw [show ((2:Int) ^ m)=((2 ^ m:Nat):Int) by simp,←Int.ofNat_fdiv]
theorem qCd (P:Program) (t:TypeId) (k k':IntKind) (a m:Nat) (h:OfNat.ofNat m≤k.bits):qbF P .shr t (.int k (a:Int)) (.int k' (no_index (OfNat.ofNat m:Int)))=some (.int k ((a / 2 ^ (OfNat.ofNat m):Nat):Int)):=qtF P t k k' a (OfNat.ofNat m) h
theorem qCe:IntKind.u8.bits=8:=rfl
theorem qxK:IntKind.u32.bits=32:=rfl
theorem qxL:IntKind.u64.bits=64:=rfl
theorem qxM:IntKind.i64.bits=64:=rfl
theorem qny (b:UInt8):qab b=[.int .u8 (b.toNat:Int)]:=rfl
theorem qCf {α:Type} (f:α→AVal) (l:List α) (j:Nat) (x:α) (h:j<l.length):qbh (l.map f) j [f x]=(l.set j x).map f:=by
 rw [qgU]
 simp only [List.length_singleton]
 rw [List.set_eq_take_append_cons_drop,if_pos h]
 simp [List.map_take,List.map_drop]
theorem qos {α:Type} (f:α→AVal) (l:List α) (j:Nat) (h:j<l.length):mkV false (((l.map f).drop j).take 1)=f l[j]:=by
 rw [←List.map_drop,←List.map_take,List.drop_eq_getElem_cons h];rfl
theorem qxN (x:UInt32) (m:Nat):IntKind.u8.wrap ((x.toNat / m:Nat):Int)=((UInt32.ofNat (x.toNat / m)).toUInt8.toNat:Int):=by
 have h1:=qcq x
 have h2:=Nat.div_le_self x.toNat m
 rw [IntKind.wrap_u8,UInt32.toNat_toUInt8,UInt32.toNat_ofNat'];generalize x.toNat / m=q at *;omega
theorem qnz (l:List UInt8) (j:Nat) (x:UInt8):(l.map qab).set j [.int .u8 (x.toNat:Int)]=(l.set j x).map qab:=by rw [List.map_set];rfl
theorem qnA (l:List UInt8) (x:UInt8):l.map qab++[[.int .u8 (x.toNat:Int)]]=(l++[x]).map qab:=by rw [List.map_append];rfl
theorem qE5 (l:List UInt8) (j:Nat) (h:j<l.length):mkV false (((l.drop j).take 1).map w8)= .int .u8 ((l[j].toNat:Nat):Int):=by rw [List.map_take,List.map_drop];exact qos w8 l j h
theorem qli (l:List UInt8):(l.map w8).all AVal.num=true:=by induction l<;>simp_all [w8,AVal.num]
def r32 (x:UInt32):List AVal:=[.int .u32 (x.toNat:Int)]
theorem qE6 (x:UInt32):r32 x=[.int .u32 (x.toNat:Int)]:=rfl
theorem qE7 (l:List UInt32) (j:Nat) (x:UInt32) (h:j<l.length):qbh (l.map w32) j [.int .u32 (x.toNat:Int)]=(l.set j x).map w32:=qCf w32 l j x h
theorem qCg (l:List UInt32) (j:Nat) (h:j<l.length):mkV false (((l.drop j).take 1).map w32)= .int .u32 ((l[j].toNat:Nat):Int):=by rw [List.map_take,List.map_drop];exact qos w32 l j h
theorem qCh (l:List UInt32):(l.map w32).all AVal.one=true:=by induction l<;>simp_all [w32,AVal.one]
theorem qhr (l:List UInt32):(l.map w32).all AVal.num=true:=by induction l<;>simp_all [w32,AVal.num]
theorem qxO (l:List UInt32):qb1 (l.map w32)=true:=by induction l<;>simp_all [w32,qb1,AVal.flat]
def r64 (x:UInt64):List AVal:=[.int .u64 (x.toNat:Int)]
theorem qE8 (x:UInt64):r64 x=[.int .u64 (x.toNat:Int)]:=rfl
theorem qnB:∀(cs:List AVal),cs.all AVal.num=true→qbL cs=true
 | [],_=>rfl
 | v::vs,h=>by
  simp only [List.all_cons,Bool.and_eq_true]at h
  simp only [qbL,Bool.and_eq_true]
  refine ⟨?_,qnB vs h.2⟩
  cases v<;>simp [AVal.num]at h<;>rfl
theorem qlj {H:qac} {id k:Nat} {cs:List AVal} (h:cs.all AVal.num=true):qaX H id k cs=cs:=(qeY H cs id k (qnB cs h)).1
theorem qlk {H:qac} {id k:Nat} {cs:List AVal} (h:cs.all AVal.num=true):qba H id k cs=[]:=(qeY H cs id k (qnB cs h)).2
theorem qju {own:Bool}:∀{ks:List Nat} {cs:List AVal},cs.all AVal.num=true→qpv own ks cs=cs
 | [],_,_=>by unfold qpv;rfl
 | _::_,[],_=>rfl
 | k::ks,v::vs,h=>by
  simp only [List.all_cons,Bool.and_eq_true]at h
  simp only [qpv,qju h.2]
  congr 1
  cases v<;>simp [AVal.num]at h<;>(cases k<;>rfl)
theorem qnC {H:qac} {n:Nat}:∀{cs:List AVal},cs.all AVal.num=true→pkL (pkE H n) cs=some (cs,[])
 | [],_=>rfl
 | v::vs,h=>by
  simp only [List.all_cons,Bool.and_eq_true]at h
  simp only [pkL,qnC h.2]
  cases n<;>cases v<;>simp [AVal.num]at h<;>simp [pkE,gu,AVal.clo,AVal.plain]
theorem qll {fn:Func} {code:Code} {ex:List Nat} {ds:List AVal} (h1:qcb fn.ntmps code=true) (h2:decide (ds.length≤fn.ntmps)=true) (h3:qba qac.nil 0 0 ds=[]) (h4:(ex.all fun k=>qvU (ds.getD k .junk))=true):qeB fn code ex ds=true:=by
 simp only [qeB,h1,h2,h3,h4,List.map_nil,Bool.and_true,Bool.true_and];rfl
theorem qxP (H:qac) (id k:Nat) (l:List UInt8):qaX H id k (l.map w8)=l.map w8:=qlj (qli l)
theorem qxQ (H:qac) (id k:Nat) (l:List UInt8):qba H id k (l.map w8)=[]:=qlk (qli l)
theorem qCi (own:Bool) (ks:List Nat) (l:List UInt8):qpv own ks (l.map w8)=l.map w8:=qju (qli l)
theorem qE9 {β:Type} (H:qac) (n:Nat) (l:List UInt8) (K:List AVal×List Nat→Option β):@kB _ _ (pkL (pkE H n) (l.map w8)) ⟨K⟩=K (l.map w8,[]):=by rw [qnC (qli l)];rfl
theorem qtG (H:qac) (id k:Nat) (l:List UInt32):qaX H id k (l.map w32)=l.map w32:=qlj (qhr l)
theorem qtH (H:qac) (id k:Nat) (l:List UInt32):qba H id k (l.map w32)=[]:=qlk (qhr l)
theorem qxR (own:Bool) (ks:List Nat) (l:List UInt32):qpv own ks (l.map w32)=l.map w32:=qju (qhr l)
theorem qCj {β:Type} (H:qac) (n:Nat) (l:List UInt32) (K:List AVal×List Nat→Option β):@kB _ _ (pkL (pkE H n) (l.map w32)) ⟨K⟩=K (l.map w32,[]):=by rw [qnC (qhr l)];rfl
theorem qei {α β:Type} {C:Cf} {lo:Nat} {b:Code} {Q:Exit→St→Option Res} (I:α→β→(Nat→AVal)→qac→Prop) (μ:α→β→Nat) (R:α→β→Option Res)
  (step:∀a c f H,I a c f H→(∀a' c' f' H',I a' c' f' H'→μ a' c'<μ a c→@qd2 f' H' ⟨(C,lo,b,Q)⟩=R a' c')→dw C lo b (qjp (fun s=>@qd2 s.fr s.H ⟨(C,lo,b,Q)⟩) Q) ⟨f,H⟩=R a c) :
  ∀a c f H,I a c f H→@qd2 f H ⟨(C,lo,b,Q)⟩=R a c:=fun a c f H h=>
 qai (fun p f H=>I p.1 p.2 f H) (fun p=>μ p.1 p.2) (fun p=>R p.1 p.2) (fun p f H hI ih=>step p.1 p.2 f H hI fun a' c' f' H' hI' hlt=>ih (a',c') f' H' hI' hlt) (a,c) f H h
attribute [go_sem high] qE7 qtz qoo qtA qtB qE3 qor qtD qtE qqz
attribute [go_sem] qJE qJF qzt qB6 qE1 qxB qB7 qE2 qB8 qop qxC qoq qxD qB9 qtC qE4 qxE qxN qnz qnA qE5 qli qE6 qCg qCh qhr qxO qE8 qxP qxQ qCi qE9 qtG qtH qxR qCj qCa qCb qxJ qCc add_lit qny qxF qxG qxH qxI qCe qxK qxL qxM
attribute [go_sem] Nat.mul_one Nat.one_mul Nat.zero_mul Nat.mul_zero
attribute [go_sem low] qtF qCd
end Go.Am
