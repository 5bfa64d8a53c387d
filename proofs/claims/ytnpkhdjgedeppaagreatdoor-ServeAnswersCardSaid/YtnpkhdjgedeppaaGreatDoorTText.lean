import Derived.Test.YtnpkhdjgedeppaaGreatDoorTOwnconcat
import Derived.Lib.ItoaLen
namespace Go.Proofs.YtnpkhdjgedeppaaGreatDoor
set_option maxHeartbeats 64000000
open Go.Am
set_option linter.unusedSimpArgs false
set_option linter.unusedVariables false
set_option maxRecDepth 100000
def qhu (s:List UInt8):List UInt8:=beN 2 s.length++s
@[go_sem] theorem qtr (s:List UInt8):(qhu s).length=s.length+2:=by simp [qhu,qeA];omega
theorem qxq (ex:List Nat) (hex:ex=[]∨ex=[0]) (l s:List UInt8) (hl:l.length≤10000000) (hs:s.length≤65535):fn C 242 ex [.usl 1 (l.map qab),.str s]=some (.usl 1 ((l++qhu s).map qab),[]):=by
 rcases hex with rfl | rfl
 ·rw [qaa Tryz.func242 rfl rfl Tryz.results242 qAQ.1 rfl rfl (by kernel_rfl)]
  simp -implicitDefEqProofs -dsimp +contextual (maxSteps:=9999999) (disch:=first | omega | simp only [go_sem]<;>omega | refine ib ?_;kernel_rfl) only [go_sem,seval,↓reduceIte,Nat.min_eq_left hs]
  rw [qhu,List.append_assoc]
 ·rw [qaa Tryz.func242 rfl rfl Tryz.results242 qAQ.1 rfl rfl (by kernel_rfl)]
  simp -implicitDefEqProofs -dsimp +contextual (maxSteps:=9999999) (disch:=first | omega | simp only [go_sem]<;>omega | refine ib ?_;kernel_rfl) only [go_sem,seval,↓reduceIte,Nat.min_eq_left hs]
  rw [qhu,List.append_assoc]
@[go_sem] theorem qGA (s:List UInt8) (hs:s.length≤65535):fn C 242 [] [.usl 1 [],.str s]=some (.usl 1 ((qhu s).map qab),[]):=qxq [] (.inl rfl) [] s (by simp) hs
@[go_sem] theorem qMA (l s:List UInt8) (hl:l.length≤10000000) (hs:s.length≤65535):fn C 285 [] [.slice 1 (l.map qab),.str s]=some (.usl 1 ((l++qhu s).map qab),[]):=by
 rw [qaa Tryz.func285 rfl rfl Tryz.results285 qEV.1 rfl rfl (by kernel_rfl)]
 simp -implicitDefEqProofs -dsimp +contextual (maxSteps:=9999999) (disch:=first | omega | simp only [go_sem]<;>omega | refine ib ?_;kernel_rfl) only [go_sem,seval,↓reduceIte,show ¬65535<s.length by omega]
 rw [qhu,List.append_assoc]
@[go_sem] theorem qFS (s:List UInt8) (hs:s.length≤65535):fn C 285 [] [.slice 1 [],.str s]=some (.usl 1 ((qhu s).map qab),[]):=qMA [] s (by simp) hs
theorem qxr (P:Program) (t:TypeId) (k:IntKind) (a:Nat) (ha:a<72057594037927936):qbG P .shl t (.int .u64 (a:Int)) (.int k 8)=some (.int .u64 ((a * 256:Nat):Int)):=by
 have e:qbG P .shl t (.int .u64 (a:Int)) (.int k 8)=some (.int .u64 (IntKind.u64.wrap ((a:Int) * 2 ^ 8))):=rfl
 rw [e]
 exact congrArg (fun x=>some (AVal.int .u64 x)) (by rw [IntKind.wrap_u64];omega)
theorem qBE (a b:Nat) (hb:b<256):a * 256 ||| b=a * 256+b:=by
 have:=Nat.two_pow_add_eq_or_of_lt (i:=8) (b:=b) (by simpa using hb) a
 rw [show 2 ^ 8 * a=a * 256 by omega]at this
 exact this.symm
theorem qBF (P:Program) (t:TypeId) (a b:Nat) (ha:a * 256<18446744073709551616) (hb:b<256):qbG P .or t (.int .u64 ((a * 256:Nat):Int)) (.int .u64 (b:Int))=some (.int .u64 ((a * 256+b:Nat):Int)):=by
 have e:qbG P .or t (.int .u64 ((a * 256:Nat):Int)) (.int .u64 (b:Int))=some (.int .u64 (IntKind.u64.wrap ((BitVec.ofInt 64 ((a * 256:Nat):Int) ||| BitVec.ofInt 64 (b:Int)).toNat:Int))):=rfl
 rw [e,BitVec.ofInt_natCast,BitVec.ofInt_natCast,BitVec.toNat_or,BitVec.toNat_ofNat,BitVec.toNat_ofNat,Nat.mod_eq_of_lt (show a * 256<2 ^ 64 by omega),Nat.mod_eq_of_lt (show b<2 ^ 64 by omega),qBE a b hb]
 exact congrArg (fun x=>some (AVal.int .u64 x)) (by rw [IntKind.wrap_u64];omega)
def beV (l:List UInt8):Nat:=l.foldl (fun n c=>n * 256+c.toNat) 0
theorem qxs (l:List UInt8) (i:Nat) (h:i<l.length):beV (l.take (i+1))=beV (l.take i) * 256+l[i].toNat:=by
 rw [List.take_succ_eq_append_getElem h,beV,List.foldl_append];rfl
theorem qyi (l:List UInt8):beV l<256 ^ l.length:=by
 have:∀(l:List UInt8) (a:Nat),l.foldl (fun n c=>n * 256+c.toNat) a<(a+1) * 256 ^ l.length:=by
  intro l
  induction l with
  | nil=>intro a;simp
  | cons x l ih=>
   intro a
   have h:=qdO x
   refine Nat.lt_of_lt_of_le (ih _) ?_
   rw [List.length_cons,Nat.pow_succ,Nat.mul_comm (256 ^ l.length),←Nat.mul_assoc]
   exact Nat.mul_le_mul_right _ (by simp only;omega)
 simpa [beV]using this l 0
@[go_sem] theorem qGB (n:Nat):List.replicate n [AVal.int .u8 0]=(List.replicate n (0:UInt8)).map qab:=by rw [List.map_replicate];rfl
def qII (x:UInt32) (m:Nat):UInt32:=W32.shl x m ||| W32.shr x (32 - m)
theorem qIJ (n:Int) (h:0≤n) (h2:n≤18446744073709551615) (P:Program) (t:TypeId):qbG P .and t (.int .u64 n) (.int .u64 31)=some (.int .u64 (n % 32)):=by
 obtain ⟨m,rfl⟩:=Int.eq_ofNat_of_zero_le h
 have e:qbG P .and t (.int .u64 (m:Int)) (.int .u64 31)=some (.int .u64 (IntKind.u64.wrap (((BitVec.ofInt 64 (m:Int)) &&&(BitVec.ofInt 64 ((31:Nat):Int))).toNat:Int))):=rfl
 rw [e,BitVec.ofInt_natCast,BitVec.ofInt_natCast,BitVec.toNat_and,BitVec.toNat_ofNat,BitVec.toNat_ofNat,Nat.mod_eq_of_lt (show m<2 ^ 64 by omega),show (31:Nat) % 2 ^ 64=2 ^ 5 - 1 by decide,Nat.and_two_pow_sub_one_eq_mod,IntKind.wrap_u64]
 congr 2;omega
@[go_sem] theorem qMB (x:UInt32) (n:Int) (h1 : -1000≤n) (h2:n≤1000):fn C 288 [] [.int .u32 (x.toNat:Int),.int .i64 n]=some (.int .u32 ((qII x (n % 32).toNat).toNat:Int),[]):=by
 have hw:IntKind.u64.wrap n % 32=n % 32:=by rw [IntKind.wrap_u64];omega
 have hw1:0≤IntKind.u64.wrap n:=by rw [IntKind.wrap_u64];omega
 have hw2:IntKind.u64.wrap n≤18446744073709551615:=by rw [IntKind.wrap_u64];omega
 obtain ⟨m,hm⟩:=Int.eq_ofNat_of_zero_le (show 0≤n % 32 by omega)
 have a31:=fun P t=>qIJ (IntKind.u64.wrap n) hw1 hw2 P t
 rw [hw,hm]at a31
 have hm32:m<32:=by omega
 have e32:(32:Int) - (m:Int)=((32 - m:Nat):Int):=by omega
 rw [qaa Tryz.func288 rfl rfl Tryz.results288 qEX.1 rfl rfl (by kernel_rfl)]
 simp -implicitDefEqProofs -dsimp +contextual (maxSteps:=5000000) (disch:=first | omega | simp only [go_sem]<;>omega | refine ib ?_;kernel_rfl) only [go_sem,Nat.reduceBEq,Int.reduceNeg,Int.reduceLT,Int.reduceLE,Int.reduceAdd,Int.reduceSub,Int.reduceToNat,Int.reduceMul,Int.reduceMod,Int.reduceTMod,Int.reduceTDiv,Int.reduceEq,Nat.reducePow,Nat.reduceDiv,Nat.reduceShiftRight,Nat.reduceMod,List.reduceReplicate,↓reduceIte,Nat.reduceEqDiff,Nat.reduceAdd,Nat.reduceSub,Nat.reduceLeDiff,Nat.reduceLT,Nat.reduceMul,a31,hm,e32]
 rfl
def rr (x:UInt32) (k:Nat):UInt32:=qII x (32 - k)
def sg0 (x:UInt32):UInt32:=rr x 7 ^^^ rr x 18 ^^^ W32.shr x 3
def sg1 (x:UInt32):UInt32:=rr x 17 ^^^ rr x 19 ^^^ W32.shr x 10
def qkN (x:UInt32):List AVal:=[.int .u32 (x.toNat:Int)]
@[go_sem] theorem qMC (x:UInt32) (k:Nat) (h1:1≤k) (h2:k≤31):fn C 280 [] [.int .u32 (x.toNat:Int),.int .i64 (k:Int)]=some (.int .u32 ((rr x k).toNat:Int),[]):=by
 have e:=qMB x (-(k:Int)) (by omega) (by omega)
 rw [show ((-(k:Int)) % 32).toNat=32 - k by omega]at e
 rw [qaa Tryz.func280 rfl rfl Tryz.results280 qEQ.1 rfl rfl (by kernel_rfl)]
 simp -implicitDefEqProofs -dsimp +contextual (maxSteps:=5000000) (disch:=first | omega | simp only [go_sem]<;>omega | refine ib ?_;kernel_rfl) only [go_sem,Nat.reduceBEq,Int.reduceNeg,Int.reduceLT,Int.reduceLE,Int.reduceAdd,Int.reduceSub,Int.reduceToNat,Int.reduceMul,Int.reduceMod,Int.reduceTMod,Int.reduceTDiv,Int.reduceEq,Nat.reducePow,Nat.reduceDiv,Nat.reduceShiftRight,Nat.reduceMod,List.reduceReplicate,↓reduceIte,Nat.reduceEqDiff,Nat.reduceAdd,Nat.reduceSub,Nat.reduceLeDiff,Nat.reduceLT,Nat.reduceMul,e,Int.zero_sub]
 rfl
@[go_sem] theorem qyj (x:UInt32) (k:Nat) (h1:1≤OfNat.ofNat k) (h2:OfNat.ofNat k≤31):fn C 280 [] [.int .u32 (x.toNat:Int),.int .i64 (no_index (OfNat.ofNat k:Int))]=some (.int .u32 ((rr x (OfNat.ofNat k)).toNat:Int),[]):=qMC x (OfNat.ofNat k) h1 h2
@[go_sem] theorem qMD (x:UInt32) (k:Nat) (h1:1≤k) (h2:k≤31):fn C 270 [] [.int .u32 (x.toNat:Int),.int .u64 (k:Int)]=some (.int .u32 ((rr x k).toNat:Int),[]):=by
 have e32:(32:Int) - (k:Int)=((32 - k:Nat):Int):=by omega
 rw [qaa Tryz.func270 rfl rfl Tryz.results270 qEK.1 rfl rfl (by kernel_rfl)]
 simp -implicitDefEqProofs -dsimp +contextual (maxSteps:=5000000) (disch:=first | omega | simp only [go_sem]<;>omega | refine ib ?_;kernel_rfl) only [go_sem,Nat.reduceBEq,Int.reduceNeg,Int.reduceLT,Int.reduceLE,Int.reduceAdd,Int.reduceSub,Int.reduceToNat,Int.reduceMul,Int.reduceMod,Int.reduceTMod,Int.reduceTDiv,Int.reduceEq,Nat.reducePow,Nat.reduceDiv,Nat.reduceShiftRight,Nat.reduceMod,List.reduceReplicate,↓reduceIte,Nat.reduceEqDiff,Nat.reduceAdd,Nat.reduceSub,Nat.reduceLeDiff,Nat.reduceLT,Nat.reduceMul,e32]
 rw [show W32.shr x k ||| W32.shl x (32 - k)=rr x k by rw [rr,qII,UInt32.or_comm,show 32 - (32 - k)=k by omega]]
@[go_sem] theorem qtN (x:UInt32) (k:Nat) (h1:1≤OfNat.ofNat k) (h2:OfNat.ofNat k≤31):fn C 270 [] [.int .u32 (x.toNat:Int),.int .u64 (no_index (OfNat.ofNat k:Int))]=some (.int .u32 ((rr x (OfNat.ofNat k)).toNat:Int),[]):=qMD x (OfNat.ofNat k) h1 h2
def be4 (a b c d:UInt8):UInt32:=((W32.shl a.toUInt32 24 ||| W32.shl b.toUInt32 16) ||| W32.shl c.toUInt32 8) ||| d.toUInt32
theorem qts (a b k:Nat) (h:b<2 ^ k):a * 2 ^ k ||| b=a * 2 ^ k+b:=by
 rw [←Nat.shiftLeft_eq,Nat.shiftLeft_add_eq_or_of_lt h]
theorem qmX (a b c d:UInt8):(be4 a b c d).toNat=a.toNat * 16777216+b.toNat * 65536+c.toNat * 256+d.toNat:=by
 have ha:=qdO a;have hb:=qdO b;have hc:=qdO c;have hd:=qdO d
 simp only [be4,W32.shl,UInt32.toNat_or,UInt8.toNat_toUInt32,UInt32.toNat_ofNat']
 rw [Nat.mod_eq_of_lt (show a.toNat * 2 ^ 24<2 ^ 32 by omega),Nat.mod_eq_of_lt (show b.toNat * 2 ^ 16<2 ^ 32 by omega),Nat.mod_eq_of_lt (show c.toNat * 2 ^ 8<2 ^ 32 by omega)]
 rw [qts _ _ _ (by omega),show a.toNat * 2 ^ 24+b.toNat * 2 ^ 16=(a.toNat * 256+b.toNat) * 2 ^ 16 by omega,qts _ _ _ (by omega),show (a.toNat * 256+b.toNat) * 2 ^ 16+c.toNat * 2 ^ 8=((a.toNat * 256+b.toNat) * 256+c.toNat) * 2 ^ 8 by omega,qts _ _ _ (by omega)]
theorem qBG (a b c d:UInt8):a.toUInt32 * UInt32.ofNat 16777216+b.toUInt32 * UInt32.ofNat 65536+c.toUInt32 * UInt32.ofNat 256+d.toUInt32=be4 a b c d:=by
 have ha:=qdO a;have hb:=qdO b;have hc:=qdO c;have hd:=qdO d
 apply UInt32.toNat_inj.1
 rw [qmX]
 simp only [UInt32.toNat_add,UInt32.toNat_mul,UInt8.toNat_toUInt32,UInt32.toNat_ofNat']
 omega
def qp5 (l:List UInt8):UInt32:=be4 (l.getD 0 0) (l.getD 1 0) (l.getD 2 0) (l.getD 3 0)
theorem qBH (b:List UInt8) (h:4≤b.length):∃x y z w r,b=x::y::z::w::r:=by
 match b,h with
 | x::y::z::w::r,_=>exact ⟨x,y,z,w,r,rfl⟩
@[go_sem] theorem qNR (b:List UInt8) (h:4≤b.length):fn C 218 [] [.slice 1 (b.map qab)]=some (.int .u32 ((qp5 b).toNat:Int),[]):=by
 obtain ⟨x,y,z,w,r,rfl⟩:=qBH b h
 rw [qaa Tryz.func218 rfl rfl Tryz.results218 qD7.1 rfl rfl (by kernel_rfl)]
 simp -implicitDefEqProofs -dsimp +contextual (maxSteps:=5000000) (disch:=first | omega | simp only [go_sem]<;>omega | refine ib ?_;kernel_rfl) only [go_sem,Nat.reduceBEq,Int.reduceNeg,Int.reduceLT,Int.reduceLE,Int.reduceAdd,Int.reduceSub,Int.reduceToNat,Int.reduceMul,Int.reduceMod,Int.reduceTMod,Int.reduceTDiv,Int.reduceEq,Nat.reducePow,Nat.reduceDiv,Nat.reduceShiftRight,Nat.reduceMod,List.reduceReplicate,↓reduceIte,Nat.reduceEqDiff,Nat.reduceAdd,Nat.reduceSub,Nat.reduceLeDiff,Nat.reduceLT,Nat.reduceMul]
 rw [show qp5 (x::y::z::w::r)=be4 x y z w from rfl,←qBG]
end Go.Proofs.YtnpkhdjgedeppaaGreatDoor
namespace Go.Proofs.YtnpkhdjgedeppaaGreatDoor
set_option maxHeartbeats 64000000
open Go.Am
set_option linter.unusedSimpArgs false
set_option linter.unusedVariables false
set_option maxRecDepth 100000
def wd (blk:List UInt8) (i:Nat):UInt32:=be4 (blk.getD (4 * i) 0) (blk.getD (4 * i+1) 0) (blk.getD (4 * i+2) 0) (blk.getD (4 * i+3) 0)
def wds (blk:List UInt8) (n:Nat):List UInt32:=(List.range n).map (wd blk)
@[go_sem] theorem qg9 (blk:List UInt8) (n:Nat):(wds blk n).length=n:=by simp [wds]
theorem qiX (blk:List UInt8) (n:Nat):wds blk (n+1)=wds blk n++[wd blk n]:=by simp [wds,List.range_succ]
def nxt (l:List UInt32):UInt32:=l.getD (l.length - 16) 0+l.getD (l.length - 7) 0+sg0 (l.getD (l.length - 15) 0)+sg1 (l.getD (l.length - 2) 0)
def qkX:Nat→List UInt32→List UInt32
 | 0,l=>l
 | n+1,l=>qkX n (l++[nxt l])
theorem qnT:∀(n:Nat) (l:List UInt32),(qkX n l).length=l.length+n
 | 0,_=>rfl
 | n+1,l=>by rw [qkX,qnT];simp;omega
def qkY (blk:List UInt8):List UInt32:=qkX 48 (wds blk 16)
@[go_sem] theorem qnU (blk:List UInt8):(qkY blk).length=64:=by rw [qkY,qnT,qg9]
def qfb (l:List UInt32):List UInt32:=l++List.replicate (64 - l.length) 0
theorem qkO (l:List UInt32) (h:l.length≤64):(qfb l).length=64:=by simp [qfb];omega
theorem qkP (l:List UInt32) (x:UInt32) (h:l.length<64):(qfb l).set l.length x=qfb (l++[x]):=by
 unfold qfb
 rw [List.set_append_right _ _ (Nat.le_refl _),Nat.sub_self,show 64 - l.length=(64 - (l.length+1))+1 by omega,List.replicate_succ,List.set_cons_zero,List.length_append]
 simp
theorem qfc (l:List UInt32) (i:Nat) (h:i<l.length) (h2:i<(qfb l).length):(qfb l)[i]=l[i]:=by
 simp only [qfb];rw [List.getElem_append_left h]
theorem qtt (l:List UInt32) (h:l.length=64):qfb l=l:=by simp [qfb,h]
theorem qcq {α:Type} (l:List α) (i:Nat) (d:α) (h:i<l.length):l.getD i d=l[i]:=by
 rw [List.getD_eq_getElem?_getD,List.getElem?_eq_getElem h];rfl
def qFT:List AVal:=(List.replicate 64 (0:UInt32)).map w32
@[go_sem] theorem qGC:qFT.length=64:=rfl
@[go_sem] theorem qFU:qFT.drop 64=[]:=rfl
theorem qME (blk:List UInt8):(qfb (wds blk 0)).map w32=qFT:=rfl
attribute [local irreducible] qkX wds qfb nxt wd
@[go_sem] theorem qNS (blk:List UInt8) (h:blk.length=64):fn C 279 [] [.agg (blk.map w8)]=some (.agg ((qkY blk).map w32),[]):=by
 rw [qaa Tryz.func279 rfl rfl Tryz.results279 qEP.1 rfl rfl (qkp (by kernel_rfl) (by kernel_rfl) (by simp only [go_sem]) rfl)]
 simp -implicitDefEqProofs -dsimp +contextual (maxSteps:=5000000) (disch:=first | omega | simp only [go_sem]<;>omega | refine ib ?_;kernel_rfl) only [go_sem,Nat.reduceBEq,Int.reduceNeg,Int.reduceLT,Int.reduceLE,Int.reduceAdd,Int.reduceSub,Int.reduceToNat,Int.reduceMul,Int.reduceMod,Int.reduceTMod,Int.reduceTDiv,Int.reduceEq,Nat.reducePow,Nat.reduceDiv,Nat.reduceShiftRight,Nat.reduceMod,List.reduceReplicate,↓reduceIte,Nat.reduceEqDiff,Nat.reduceAdd,Nat.reduceSub,Nat.reduceLeDiff,Nat.reduceLT,Nat.reduceMul,h]
 refine (qaj (fun (i:Nat) f H=>f 1= .ptr 101 1 0 0∧f 2= .ptr 102 1 0 0∧f 3= .ptr 103 1 0 0∧f 8= .int .i64 (i:Int)∧H 101=⟨1,.live,64,[blk.map w8],false⟩∧H 102=⟨1,.live,64,[qFT],false⟩∧H 103=⟨1,.live,64,[(qfb (wds blk i)).map w32],false⟩∧i≤16) (fun i=>16 - i) (fun _=>some (.agg ((qkY blk).map w32),[])) ?_ 0 _ _ ⟨rfl,rfl,rfl,rfl,rfl,rfl,by rw [qME];rfl,by omega⟩)
 rintro i f H ⟨f1,f2,f3,f8,H1,H2,H3,hi⟩ ih
 have hp:=qkO (wds blk i) (by rw [qg9];omega)
 by_cases hl:i<16
 ·simp -implicitDefEqProofs -dsimp +contextual (maxSteps:=5000000) (disch:=first | omega | simp only [go_sem]<;>omega | refine ib ?_;kernel_rfl) only [go_sem,Nat.reduceBEq,Int.reduceNeg,Int.reduceLT,Int.reduceLE,Int.reduceAdd,Int.reduceSub,Int.reduceToNat,Int.reduceMul,Int.reduceMod,Int.reduceTMod,Int.reduceTDiv,Int.reduceEq,Nat.reducePow,Nat.reduceDiv,Nat.reduceShiftRight,Nat.reduceMod,List.reduceReplicate,↓reduceIte,Nat.reduceEqDiff,Nat.reduceAdd,Nat.reduceSub,Nat.reduceLeDiff,Nat.reduceLT,Nat.reduceMul,f1,f2,f3,f8,H1,H3,hl,h,hp]
  have hw:((W32.shl blk[4 * i].toUInt32 24 ||| W32.shl blk[4 * i+1].toUInt32 16) ||| W32.shl blk[4 * i+2].toUInt32 8) ||| blk[4 * i+3].toUInt32=wd blk i:=by
   rw [wd,qcq _ _ _ (by omega),qcq _ _ _ (by omega),qcq _ _ _ (by omega),qcq _ _ _ (by omega)];rfl
  have hs:=qkP (wds blk i) (wd blk i) (by rw [qg9];omega)
  rw [qg9,←qiX]at hs
  rw [hw,hs]
  exact ih (i+1) _ _ ⟨f1,f2,f3,rfl,H1,H2,rfl,by omega⟩ (by omega)
 ·obtain rfl:i=16:=by omega
  simp -implicitDefEqProofs -dsimp +contextual (maxSteps:=5000000) (disch:=first | omega | simp only [go_sem]<;>omega | refine ib ?_;kernel_rfl) only [go_sem,Nat.reduceBEq,Int.reduceNeg,Int.reduceLT,Int.reduceLE,Int.reduceAdd,Int.reduceSub,Int.reduceToNat,Int.reduceMul,Int.reduceMod,Int.reduceTMod,Int.reduceTDiv,Int.reduceEq,Nat.reducePow,Nat.reduceDiv,Nat.reduceShiftRight,Nat.reduceMod,List.reduceReplicate,↓reduceIte,Nat.reduceEqDiff,Nat.reduceAdd,Nat.reduceSub,Nat.reduceLeDiff,Nat.reduceLT,Nat.reduceMul,f1,f2,f3,f8,H1,H3,hl,h,hp]
  rw [qkY,show (48:Nat)=64 - 16 from rfl]
  refine (qd5 (fun (t:Nat) (l:List UInt32) f H=>f 1= .ptr 101 1 0 0∧f 2= .ptr 102 1 0 0∧f 3= .ptr 103 1 0 0∧f 5= .int .i64 (t:Int)∧H 102=⟨1,.live,64,[qFT],false⟩∧H 103=⟨1,.live,64,[(qfb l).map w32],false⟩∧l.length=t∧16≤t∧t≤64) (fun t _=>64 - t) (fun t l=>some (.agg ((qkX (64 - t) l).map w32),[])) ?_ 16 (wds blk 16) _ _ ⟨f1,f2,f3,rfl,H2,H3,qg9 _ _,by omega,by omega⟩)
  rintro t l f H ⟨f1,f2,f3,f5,H2,H3,hlen,ht,ht2⟩ ih
  have hp:=qkO l (by omega)
  by_cases hlt:t<64
  ·have g1:=qfc l (t - 15) (by omega) (by omega)
   have g2:=qfc l (t - 2) (by omega) (by omega)
   have g3:=qfc l (t - 16) (by omega) (by omega)
   have g4:=qfc l (t - 7) (by omega) (by omega)
   simp -implicitDefEqProofs -dsimp +contextual (maxSteps:=5000000) (disch:=first | omega | simp only [go_sem]<;>omega | refine ib ?_;kernel_rfl) only [go_sem,Nat.reduceBEq,Int.reduceNeg,Int.reduceLT,Int.reduceLE,Int.reduceAdd,Int.reduceSub,Int.reduceToNat,Int.reduceMul,Int.reduceMod,Int.reduceTMod,Int.reduceTDiv,Int.reduceEq,Nat.reducePow,Nat.reduceDiv,Nat.reduceShiftRight,Nat.reduceMod,List.reduceReplicate,↓reduceIte,Nat.reduceEqDiff,Nat.reduceAdd,Nat.reduceSub,Nat.reduceLeDiff,Nat.reduceLT,Nat.reduceMul,f1,f2,f3,f5,H2,H3,hlt,hp,g1,g2,g3,g4]
   have hn:l[t - 16]+l[t - 7]+(rr l[t - 15] 7 ^^^ rr l[t - 15] 18 ^^^ W32.shr l[t - 15] 3)+(rr l[t - 2] 17 ^^^ rr l[t - 2] 19 ^^^ W32.shr l[t - 2] 10)=nxt l:=by
    subst hlen
    rw [nxt,qcq _ _ _ (by omega),qcq _ _ _ (by omega),qcq _ _ _ (by omega),qcq _ _ _ (by omega)];rfl
   have hs:=qkP l (nxt l) (by omega)
   rw [hlen]at hs
   rw [hn,hs,show 64 - t=(64 - (t+1))+1 by omega,qkX]
   exact ih (t+1) (l++[nxt l]) _ _ ⟨f1,f2,f3,rfl,H2,rfl,by simp [hlen],by omega,by omega⟩ (by omega)
  ·simp -implicitDefEqProofs -dsimp +contextual (maxSteps:=5000000) (disch:=first | omega | simp only [go_sem]<;>omega | refine ib ?_;kernel_rfl) only [go_sem,Nat.reduceBEq,Int.reduceNeg,Int.reduceLT,Int.reduceLE,Int.reduceAdd,Int.reduceSub,Int.reduceToNat,Int.reduceMul,Int.reduceMod,Int.reduceTMod,Int.reduceTDiv,Int.reduceEq,Nat.reducePow,Nat.reduceDiv,Nat.reduceShiftRight,Nat.reduceMod,List.reduceReplicate,↓reduceIte,Nat.reduceEqDiff,Nat.reduceAdd,Nat.reduceSub,Nat.reduceLeDiff,Nat.reduceLT,Nat.reduceMul,f1,f2,f3,f5,H2,H3,hlt,hp]
   obtain rfl:t=64:=by omega
   rw [qtt l hlen,show 64 - 64=0 from rfl,qkX]
end Go.Proofs.YtnpkhdjgedeppaaGreatDoor
namespace Go.Proofs.YtnpkhdjgedeppaaGreatDoor
set_option maxHeartbeats 64000000
open Go.Am
set_option linter.unusedSimpArgs false
set_option linter.unusedVariables false
set_option maxRecDepth 100000
structure S8 where
 a:UInt32
 b:UInt32
 c:UInt32
 d:UInt32
 e:UInt32
 f:UInt32
 g:UInt32
 h:UInt32
def S8.l (s:S8):List UInt32:=[s.a,s.b,s.c,s.d,s.e,s.f,s.g,s.h]
def chx (s:S8) (k w:UInt32):UInt32:=s.h+(rr s.e 6 ^^^ rr s.e 11 ^^^ rr s.e 25)+((s.e &&&s.f) ^^^ (~~~s.e &&&s.g))+k+w
def chy (s:S8):UInt32:=(rr s.a 2 ^^^ rr s.a 13 ^^^ rr s.a 22)+((s.a &&&s.b) ^^^ (s.a &&&s.c) ^^^ (s.b &&&s.c))
def qeD (s:S8) (k w:UInt32):S8:=⟨chx s k w+chy s,s.a,s.b,s.c,s.d+chx s k w,s.e,s.f,s.g⟩
def rnd (ks ws:List UInt32) (s:S8):S8:=(ks.zip ws).foldl (fun s p=>qeD s p.1 p.2) s
def S8.add (s t:S8):S8:=⟨s.a+t.a,s.b+t.b,s.c+t.c,s.d+t.d,s.e+t.e,s.f+t.f,s.g+t.g,s.h+t.h⟩
def KS:List UInt32:=[1116352408,1899447441,3049323471,3921009573,961987163,1508970993,2453635748,2870763221,3624381080,310598401,607225278,1426881987,1925078388,2162078206,2614888103,3248222580,3835390401,4022224774,264347078,604807628,770255983,1249150122,1555081692,1996064986,2554220882,2821834349,2952996808,3210313671,3336571891,3584528711,113926993,338241895,666307205,773529912,1294757372,1396182291,1695183700,1986661051,2177026350,2456956037,2730485921,2820302411,3259730800,3345764771,3516065817,3600352804,4094571909,275423344,430227734,506948616,659060556,883997877,958139571,1322822218,1537002063,1747873779,1955562222,2024104815,2227730452,2361852424,2428436474,2756734187,3204031479,3329325298]
@[go_sem] theorem qyk:KS.length=64:=rfl
def qnV (s:S8) (blk:List UInt8):S8:=(rnd KS (qkY blk) s).add s
@[go_sem] theorem qIK:KS.drop 64=[]:=rfl
@[go_sem] theorem qMF:qyU .u32 qAH=KS.map w32:=rfl
theorem qyl (s:S8) (k w:UInt32):s.h+(rr s.e 6 ^^^ rr s.e 11 ^^^ rr s.e 25)+((s.e &&&s.f) ^^^ (~~~s.e &&&s.g))+k+w=chx s k w:=by rw [chx]
theorem qym (s:S8):(rr s.a 2 ^^^ rr s.a 13 ^^^ rr s.a 22)+((s.a &&&s.b) ^^^ (s.a &&&s.c) ^^^ (s.b &&&s.c))=chy s:=by rw [chy]
theorem qtu (s:S8):rnd [] [] s=s:=by simp only [rnd,List.zip_nil_left,List.foldl_nil]
theorem qp6 (u:S8) (k w:UInt32):[AVal.int .u32 ((chx u k w+chy u).toNat:Int),.int .u32 (u.a.toNat:Int),.int .u32 (u.b.toNat:Int),.int .u32 (u.c.toNat:Int),.int .u32 ((u.d+chx u k w).toNat:Int),.int .u32 (u.e.toNat:Int),.int .u32 (u.f.toNat:Int),.int .u32 (u.g.toNat:Int)]=[.int .u32 ((qeD u k w).a.toNat:Int),.int .u32 ((qeD u k w).b.toNat:Int),.int .u32 ((qeD u k w).c.toNat:Int),.int .u32 ((qeD u k w).d.toNat:Int),.int .u32 ((qeD u k w).e.toNat:Int),.int .u32 ((qeD u k w).f.toNat:Int),.int .u32 ((qeD u k w).g.toNat:Int),.int .u32 ((qeD u k w).h.toNat:Int)]:=rfl
theorem qtv (u s:S8):[AVal.int .u32 ((u.a+s.a).toNat:Int),.int .u32 ((u.b+s.b).toNat:Int),.int .u32 ((u.c+s.c).toNat:Int),.int .u32 ((u.d+s.d).toNat:Int),.int .u32 ((u.e+s.e).toNat:Int),.int .u32 ((u.f+s.f).toNat:Int),.int .u32 ((u.g+s.g).toNat:Int),.int .u32 ((u.h+s.h).toNat:Int)]=(u.add s).l.map w32:=rfl
attribute [local irreducible] qkY KS rr chx chy qeD S8.add
theorem qxt (k w:UInt32) (ks ws:List UInt32) (s:S8):rnd (k::ks) (w::ws) s=rnd ks ws (qeD s k w):=by simp only [rnd,List.zip_cons_cons,List.foldl_cons]
theorem qnW (ks ws:List UInt32) (i:Nat) (h1:i<ks.length) (h2:i<ws.length) (u:S8):rnd (ks.drop i) (ws.drop i) u=rnd (ks.drop (i+1)) (ws.drop (i+1)) (qeD u ks[i] ws[i]):=by
 rw [List.drop_eq_getElem_cons h1,List.drop_eq_getElem_cons h2,qxt]
@[go_sem] theorem qNT (s:S8) (blk:List UInt8) (h:blk.length=64):fn C 265 [] [.agg (s.l.map w32),.agg (blk.map w8)]=some (.agg ((qnV s blk).l.map w32),[]):=by
 rw [qaa Tryz.func265 rfl rfl Tryz.results265 qEF.1 rfl rfl (qkp (by kernel_rfl) (by kernel_rfl) (by simp only [go_sem]) rfl)]
 have hw:=qnU blk
 have hk:=qyk
 have hsl:s.l.map w32=[.int .u32 (s.a.toNat:Int),.int .u32 (s.b.toNat:Int),.int .u32 (s.c.toNat:Int),.int .u32 (s.d.toNat:Int),.int .u32 (s.e.toNat:Int),.int .u32 (s.f.toNat:Int),.int .u32 (s.g.toNat:Int),.int .u32 (s.h.toNat:Int)]:=rfl
 rw [hsl]
 simp -implicitDefEqProofs -dsimp +contextual (maxSteps:=5000000) (disch:=first | omega | simp only [go_sem]<;>omega | refine ib ?_;kernel_rfl) only [go_sem,Nat.reduceBEq,Int.reduceNeg,Int.reduceLT,Int.reduceLE,Int.reduceAdd,Int.reduceSub,Int.reduceToNat,Int.reduceMul,Int.reduceMod,Int.reduceTMod,Int.reduceTDiv,Int.reduceEq,Nat.reducePow,Nat.reduceDiv,Nat.reduceShiftRight,Nat.reduceMod,List.reduceReplicate,↓reduceIte,Nat.reduceEqDiff,Nat.reduceAdd,Nat.reduceSub,Nat.reduceLeDiff,Nat.reduceLT,Nat.reduceMul,h,hw]
 refine (qd5 (fun (i:Nat) (u:S8) f H=>f 2= .ptr 102 1 0 0∧f 4= .ptr 104 1 0 0∧f 5= .ptr 105 1 0 0∧f 6= .ptr 106 1 0 0∧f 20= .int .i64 (i:Int)∧H 102=⟨1,.live,8,[[.int .u32 (s.a.toNat:Int),.int .u32 (s.b.toNat:Int),.int .u32 (s.c.toNat:Int),.int .u32 (s.d.toNat:Int),.int .u32 (s.e.toNat:Int),.int .u32 (s.f.toNat:Int),.int .u32 (s.g.toNat:Int),.int .u32 (s.h.toNat:Int)]],false⟩∧H 104=⟨1,.live,8,[List.replicate 8 (.int .u32 0)],false⟩∧H 105=⟨1,.live,64,[(qkY blk).map w32],false⟩∧H 106=⟨1,.live,8,[[.int .u32 (u.a.toNat:Int),.int .u32 (u.b.toNat:Int),.int .u32 (u.c.toNat:Int),.int .u32 (u.d.toNat:Int),.int .u32 (u.e.toNat:Int),.int .u32 (u.f.toNat:Int),.int .u32 (u.g.toNat:Int),.int .u32 (u.h.toNat:Int)]],false⟩∧i≤64) (fun i _=>64 - i) (fun i u=>some (.agg (((rnd (KS.drop i) ((qkY blk).drop i) u).add s).l.map w32),[])) ?_ 0 s _ _ ⟨rfl,rfl,rfl,rfl,rfl,rfl,rfl,rfl,rfl,by omega⟩)
 rintro i u f H ⟨f2,f4,f5,f6,f20,H2,H4,H5,H6,hi⟩ ih
 by_cases hl:i<64
 ·simp -implicitDefEqProofs -dsimp +contextual (maxSteps:=5000000) (disch:=first | omega | simp only [go_sem]<;>omega | refine ib ?_;kernel_rfl) only [go_sem,Nat.reduceBEq,Int.reduceNeg,Int.reduceLT,Int.reduceLE,Int.reduceAdd,Int.reduceSub,Int.reduceToNat,Int.reduceMul,Int.reduceMod,Int.reduceTMod,Int.reduceTDiv,Int.reduceEq,Nat.reducePow,Nat.reduceDiv,Nat.reduceShiftRight,Nat.reduceMod,List.reduceReplicate,↓reduceIte,Nat.reduceEqDiff,Nat.reduceAdd,Nat.reduceSub,Nat.reduceLeDiff,Nat.reduceLT,Nat.reduceMul,f2,f4,f5,f6,f20,H2,H4,H5,H6,hl,hw,hk]
  have c1:=qyl u (KS[i]'(by rw [hk];exact hl)) ((qkY blk)[i]'(by rw [hw];exact hl))
  have c2:=qym u
  have c3:=qp6 u (KS[i]'(by rw [hk];exact hl)) ((qkY blk)[i]'(by rw [hw];exact hl))
  rw [c1,c2,c3]
  have hfin:=congrArg (fun r:S8=>some (AVal.agg ((r.add s).l.map w32),([]:List AVal))) (qnW KS (qkY blk) i (by rw [hk];exact hl) (by rw [hw];exact hl) u)
  refine Eq.trans ?_ hfin.symm
  refine ih (i+1) _ _ _ ?_ (by omega)
  exact ⟨f2,f4,f5,f6,rfl,H2,H4,H5,rfl,by omega⟩
 ·simp -implicitDefEqProofs -dsimp +contextual (maxSteps:=5000000) (disch:=first | omega | simp only [go_sem]<;>omega | refine ib ?_;kernel_rfl) only [go_sem,Nat.reduceBEq,Int.reduceNeg,Int.reduceLT,Int.reduceLE,Int.reduceAdd,Int.reduceSub,Int.reduceToNat,Int.reduceMul,Int.reduceMod,Int.reduceTMod,Int.reduceTDiv,Int.reduceEq,Nat.reducePow,Nat.reduceDiv,Nat.reduceShiftRight,Nat.reduceMod,List.reduceReplicate,↓reduceIte,Nat.reduceEqDiff,Nat.reduceAdd,Nat.reduceSub,Nat.reduceLeDiff,Nat.reduceLT,Nat.reduceMul,f2,f4,f5,f6,f20,H2,H4,H5,H6,hl,qdq]
  obtain rfl:i=64:=by omega
  rw [qtu]
  exact congrArg (fun x=>some (AVal.agg x,[])) (qtv u s)
end Go.Proofs.YtnpkhdjgedeppaaGreatDoor
namespace Go.Proofs.YtnpkhdjgedeppaaGreatDoor
set_option maxHeartbeats 64000000
open Go.Am
set_option linter.unusedSimpArgs false
set_option linter.unusedVariables false
set_option maxRecDepth 100000
theorem qMG (x:UInt32):((x.toNat / 8:Nat):Int)=((W32.shr x 3).toNat:Int):=by
 have:=qcm x
 simp only [W32.shr,UInt32.toNat_ofNat'];omega
theorem qBI (x:UInt32):((x.toNat / 1024:Nat):Int)=((W32.shr x 10).toNat:Int):=by
 have:=qcm x
 simp only [W32.shr,UInt32.toNat_ofNat'];omega
@[go_sem] theorem qIL (x:UInt32):qkN x=[.int .u32 (x.toNat:Int)]:=rfl
theorem qxu (blk:List UInt8):wds blk 0=[]:=rfl
@[go_sem] theorem qFV (l:List UInt32):(l.map qkN).all qbN=true:=by
 rw [List.all_eq_true];intro r hr
 rw [List.mem_map]at hr
 obtain ⟨x,_,rfl⟩:=hr
 rfl
@[go_sem] theorem qNU:fn C 271 [] []=some (.slice 1 (KS.map qkN),[]):=by
 rw [qaa Tryz.func271 rfl rfl Tryz.results271 qEL.1 rfl rfl (by kernel_rfl)]
 have h:[[AVal.int .u32 1116352408],[AVal.int .u32 1899447441],[AVal.int .u32 3049323471],[AVal.int .u32 3921009573],[AVal.int .u32 961987163],[AVal.int .u32 1508970993],[AVal.int .u32 2453635748],[AVal.int .u32 2870763221],[AVal.int .u32 3624381080],[AVal.int .u32 310598401],[AVal.int .u32 607225278],[AVal.int .u32 1426881987],[AVal.int .u32 1925078388],[AVal.int .u32 2162078206],[AVal.int .u32 2614888103],[AVal.int .u32 3248222580],[AVal.int .u32 3835390401],[AVal.int .u32 4022224774],[AVal.int .u32 264347078],[AVal.int .u32 604807628],[AVal.int .u32 770255983],[AVal.int .u32 1249150122],[AVal.int .u32 1555081692],[AVal.int .u32 1996064986],[AVal.int .u32 2554220882],[AVal.int .u32 2821834349],[AVal.int .u32 2952996808],[AVal.int .u32 3210313671],[AVal.int .u32 3336571891],[AVal.int .u32 3584528711],[AVal.int .u32 113926993],[AVal.int .u32 338241895],[AVal.int .u32 666307205],[AVal.int .u32 773529912],[AVal.int .u32 1294757372],[AVal.int .u32 1396182291],[AVal.int .u32 1695183700],[AVal.int .u32 1986661051],[AVal.int .u32 2177026350],[AVal.int .u32 2456956037],[AVal.int .u32 2730485921],[AVal.int .u32 2820302411],[AVal.int .u32 3259730800],[AVal.int .u32 3345764771],[AVal.int .u32 3516065817],[AVal.int .u32 3600352804],[AVal.int .u32 4094571909],[AVal.int .u32 275423344],[AVal.int .u32 430227734],[AVal.int .u32 506948616],[AVal.int .u32 659060556],[AVal.int .u32 883997877],[AVal.int .u32 958139571],[AVal.int .u32 1322822218],[AVal.int .u32 1537002063],[AVal.int .u32 1747873779],[AVal.int .u32 1955562222],[AVal.int .u32 2024104815],[AVal.int .u32 2227730452],[AVal.int .u32 2361852424],[AVal.int .u32 2428436474],[AVal.int .u32 2756734187],[AVal.int .u32 3204031479],[AVal.int .u32 3329325298]]=KS.map qkN:=by kernel_rfl
 simp -implicitDefEqProofs -dsimp +contextual (maxSteps:=5000000) (disch:=first | omega | simp only [go_sem]<;>omega | refine ib ?_;kernel_rfl) only [go_sem,Nat.reduceBEq,Int.reduceNeg,Int.reduceLT,Int.reduceLE,Int.reduceAdd,Int.reduceSub,Int.reduceToNat,Int.reduceMul,Int.reduceMod,Int.reduceTMod,Int.reduceTDiv,Int.reduceEq,Nat.reducePow,Nat.reduceDiv,Nat.reduceShiftRight,Nat.reduceMod,List.reduceReplicate,↓reduceIte,Nat.reduceEqDiff,Nat.reduceAdd,Nat.reduceSub,Nat.reduceLeDiff,Nat.reduceLT,Nat.reduceMul,h]
theorem qxv (u s:S8):[[AVal.int .u32 ((s.a+u.a).toNat:Int)],[AVal.int .u32 ((s.b+u.b).toNat:Int)],[AVal.int .u32 ((s.c+u.c).toNat:Int)],[AVal.int .u32 ((s.d+u.d).toNat:Int)],[AVal.int .u32 ((s.e+u.e).toNat:Int)],[AVal.int .u32 ((s.f+u.f).toNat:Int)],[AVal.int .u32 ((s.g+u.g).toNat:Int)],[AVal.int .u32 ((s.h+u.h).toNat:Int)]]=(u.add s).l.map qkN:=by
 rw [UInt32.add_comm s.a,UInt32.add_comm s.b,UInt32.add_comm s.c,UInt32.add_comm s.d,UInt32.add_comm s.e,UInt32.add_comm s.f,UInt32.add_comm s.g,UInt32.add_comm s.h];rfl
theorem qxw (u:S8) (k w:UInt32):qeD u k w=⟨chx u k w+chy u,u.a,u.b,u.c,u.d+chx u k w,u.e,u.f,u.g⟩:=by unfold qeD;rfl
theorem qBJ (blk:List UInt8):qkY blk=qkX 48 (wds blk 16):=rfl
theorem qtw (n:Nat) (l:List UInt32):qkX (n+1) l=qkX n (l++[nxt l]):=rfl
theorem qtx (l:List UInt32):qkX 0 l=l:=rfl
attribute [local irreducible] qkY KS rr wds nxt qkX wd chx chy qeD S8.add
theorem qty (blk:List UInt8) (t:Nat) (h:4 * t+4≤blk.length):qp5 ((blk.drop (4 * t)).take (4 * t+4 - 4 * t))=wd blk t:=by
 rw [show 4 * t+4 - 4 * t=4 by omega,wd,qp5]
 simp only [List.getD_eq_getElem?_getD,List.getElem?_take,List.getElem?_drop]
 simp
@[go_sem] theorem qNV (s:S8) (blk:List UInt8) (h:blk.length=64):fn C 254 [] [.slice 1 (s.l.map qkN),.slice 1 (blk.map qab)]=some (.slice 1 ((qnV s blk).l.map qkN),[]):=by
 rw [qaa Tryz.func254 rfl rfl Tryz.results254 qEw.1 rfl rfl (by kernel_rfl)]
 have hw:=qnU blk
 have hk:=qyk
 have hsl:s.l.map qkN=[[.int .u32 (s.a.toNat:Int)],[.int .u32 (s.b.toNat:Int)],[.int .u32 (s.c.toNat:Int)],[.int .u32 (s.d.toNat:Int)],[.int .u32 (s.e.toNat:Int)],[.int .u32 (s.f.toNat:Int)],[.int .u32 (s.g.toNat:Int)],[.int .u32 (s.h.toNat:Int)]]:=rfl
 rw [hsl]
 simp -implicitDefEqProofs -dsimp +contextual (maxSteps:=5000000) (disch:=first | omega | simp only [go_sem]<;>omega | refine ib ?_;kernel_rfl) only [go_sem,Nat.reduceBEq,Int.reduceNeg,Int.reduceLT,Int.reduceLE,Int.reduceAdd,Int.reduceSub,Int.reduceToNat,Int.reduceMul,Int.reduceMod,Int.reduceTMod,Int.reduceTDiv,Int.reduceEq,Nat.reducePow,Nat.reduceDiv,Nat.reduceShiftRight,Nat.reduceMod,List.reduceReplicate,↓reduceIte,Nat.reduceEqDiff,Nat.reduceAdd,Nat.reduceSub,Nat.reduceLeDiff,Nat.reduceLT,Nat.reduceMul,h,hw]
 refine (qd5 (fun (t:Nat) (l:List UInt32) f H=>f 0= .slice 1 [[.int .u32 (s.a.toNat:Int)],[.int .u32 (s.b.toNat:Int)],[.int .u32 (s.c.toNat:Int)],[.int .u32 (s.d.toNat:Int)],[.int .u32 (s.e.toNat:Int)],[.int .u32 (s.f.toNat:Int)],[.int .u32 (s.g.toNat:Int)],[.int .u32 (s.h.toNat:Int)]]∧f 1= .slice 1 (blk.map qab)∧f 6= .int .i64 (t:Int)∧((t=0∧f 5= .sc (.slice none 0 0)∧H 137=⟨0,.dead,0,[],false⟩)∨(t≠0∧f 5= .osl 137 t 0 t∧H 137=⟨t,.live,1,l.map qkN,false⟩))∧l.length=t∧t≤64∧(t≤16→l=wds blk t)) (fun t _=>64 - t) (fun t l=>some (.slice 1 (((rnd KS (if t≤16 then qkY blk else qkX (64 - t) l) s).add s).l.map qkN),[])) ?_ 0 [] _ _ ⟨rfl,rfl,rfl,.inl ⟨rfl,rfl,rfl⟩,rfl,by omega,fun _=>by rw [wds];rfl⟩)
 rintro t l f H ⟨f0,f1,f6,hc,hlen,ht,hwd⟩ ih
 by_cases hlt:t<64
 ·by_cases h16:t<16
  ·rcases hc with ⟨rfl,f5,H137⟩|⟨h0,f5,H137⟩
   ·simp -implicitDefEqProofs -dsimp +contextual (maxSteps:=5000000) (disch:=first | omega | simp only [go_sem]<;>omega | refine ib ?_;kernel_rfl) only [go_sem,Nat.reduceBEq,Int.reduceNeg,Int.reduceLT,Int.reduceLE,Int.reduceAdd,Int.reduceSub,Int.reduceToNat,Int.reduceMul,Int.reduceMod,Int.reduceTMod,Int.reduceTDiv,Int.reduceEq,Nat.reducePow,Nat.reduceDiv,Nat.reduceShiftRight,Nat.reduceMod,List.reduceReplicate,↓reduceIte,Nat.reduceEqDiff,Nat.reduceAdd,Nat.reduceSub,Nat.reduceLeDiff,Nat.reduceLT,Nat.reduceMul,f0,f1,f5,f6,H137,h,hlt,h16]
    have hn:qp5 (blk.take 4)=wd blk 0:=by simpa using qty blk 0 (by omega)
    refine Eq.trans (ih 1 [wd blk 0] _ _ ⟨f0,f1,rfl,.inr ⟨by omega,by simp [upd],?_⟩,rfl,by omega,fun _=>?_⟩ (by omega)) ?_
    ·rw [hn];rfl
    ·rw [show (1:Nat)=0+1 from rfl,qiX,qxu];rfl
    ·rw [if_pos (by decide)]
   ·have hn:=qty blk t (by omega)
    simp -implicitDefEqProofs -dsimp +contextual (maxSteps:=5000000) (disch:=first | omega | simp only [go_sem]<;>omega | refine ib ?_;kernel_rfl) only [go_sem,Nat.reduceBEq,Int.reduceNeg,Int.reduceLT,Int.reduceLE,Int.reduceAdd,Int.reduceSub,Int.reduceToNat,Int.reduceMul,Int.reduceMod,Int.reduceTMod,Int.reduceTDiv,Int.reduceEq,Nat.reducePow,Nat.reduceDiv,Nat.reduceShiftRight,Nat.reduceMod,List.reduceReplicate,↓reduceIte,Nat.reduceEqDiff,Nat.reduceAdd,Nat.reduceSub,Nat.reduceLeDiff,Nat.reduceLT,Nat.reduceMul,f0,f1,f5,f6,H137,h,hlt,h16,hlen]
    rw [hn]
    refine Eq.trans (ih (t+1) (l++[wd blk t]) _ _ ⟨f0,f1,rfl,.inr ⟨by omega,by simp [upd],?_⟩,by simp [hlen],by omega,fun _=>?_⟩ (by omega)) ?_
    ·rw [List.map_append];rfl
    ·rw [qiX,hwd (by omega)]
    ·rw [if_pos (by omega)]
     try rw [if_pos (by omega)]
  ·rcases hc with ⟨rfl,f5,H137⟩|⟨h0,f5,H137⟩
   ·exact absurd (by decide) h16
   ·simp -implicitDefEqProofs -dsimp +contextual (maxSteps:=5000000) (disch:=first | omega | simp only [go_sem]<;>omega | refine ib ?_;kernel_rfl) only [go_sem,Nat.reduceBEq,Int.reduceNeg,Int.reduceLT,Int.reduceLE,Int.reduceAdd,Int.reduceSub,Int.reduceToNat,Int.reduceMul,Int.reduceMod,Int.reduceTMod,Int.reduceTDiv,Int.reduceEq,Nat.reducePow,Nat.reduceDiv,Nat.reduceShiftRight,Nat.reduceMod,List.reduceReplicate,↓reduceIte,Nat.reduceEqDiff,Nat.reduceAdd,Nat.reduceSub,Nat.reduceLeDiff,Nat.reduceLT,Nat.reduceMul,f0,f1,f5,f6,H137,h,hlt,h16,hlen,qMG,qBI]
    have hn:l[t - 16]+l[t - 7]+(rr l[t - 15] 7 ^^^ rr l[t - 15] 18 ^^^ W32.shr l[t - 15] 3)+(rr l[t - 2] 17 ^^^ rr l[t - 2] 19 ^^^ W32.shr l[t - 2] 10)=nxt l:=by
     subst hlen
     rw [nxt,qcq _ _ _ (by omega),qcq _ _ _ (by omega),qcq _ _ _ (by omega),qcq _ _ _ (by omega),sg0,sg1]
    have hF:(if t≤16 then qkY blk else qkX (64 - t) l)=qkX (64 - (t+1)) (l++[nxt l]):=by
     rw [←qtw,show 64 - (t+1)+1=64 - t by omega]
     split
     ·obtain rfl:t=16:=by omega
      rw [qBJ,hwd (by omega)]
     ·rfl
    rw [hn,hF]
    refine Eq.trans (ih (t+1) (l++[nxt l]) _ _ ⟨f0,f1,rfl,.inr ⟨by omega,by simp [upd],?_⟩,by simp [hlen],by omega,fun _=>by omega⟩ (by omega)) ?_
    ·rw [List.map_append];rfl
    ·rw [if_neg (by omega)]
 ·obtain rfl:t=64:=by omega
  rcases hc with ⟨h0,_⟩|⟨h0,f5,H137⟩
  ·omega
  rw [if_neg (by omega),show 64 - 64=0 from rfl,qtx]
  simp -implicitDefEqProofs -dsimp +contextual (maxSteps:=5000000) (disch:=first | omega | simp only [go_sem]<;>omega | refine ib ?_;kernel_rfl) only [go_sem,Nat.reduceBEq,Int.reduceNeg,Int.reduceLT,Int.reduceLE,Int.reduceAdd,Int.reduceSub,Int.reduceToNat,Int.reduceMul,Int.reduceMod,Int.reduceTMod,Int.reduceTDiv,Int.reduceEq,Nat.reducePow,Nat.reduceDiv,Nat.reduceShiftRight,Nat.reduceMod,List.reduceReplicate,↓reduceIte,Nat.reduceEqDiff,Nat.reduceAdd,Nat.reduceSub,Nat.reduceLeDiff,Nat.reduceLT,Nat.reduceMul,f0,f1,f5,f6,H137,h,hlt,hlen,hk]
  refine (qd5 (fun (i:Nat) (u:S8) f H=>f 0= .slice 1 [[.int .u32 (s.a.toNat:Int)],[.int .u32 (s.b.toNat:Int)],[.int .u32 (s.c.toNat:Int)],[.int .u32 (s.d.toNat:Int)],[.int .u32 (s.e.toNat:Int)],[.int .u32 (s.f.toNat:Int)],[.int .u32 (s.g.toNat:Int)],[.int .u32 (s.h.toNat:Int)]]∧f 5= .osl 137 64 0 64∧f 9= .slice 1 (KS.map qkN)∧f 10= .int .u32 (u.a.toNat:Int)∧f 11= .int .u32 (u.b.toNat:Int)∧f 12= .int .u32 (u.c.toNat:Int)∧f 13= .int .u32 (u.d.toNat:Int)∧f 14= .int .u32 (u.e.toNat:Int)∧f 15= .int .u32 (u.f.toNat:Int)∧f 16= .int .u32 (u.g.toNat:Int)∧f 17= .int .u32 (u.h.toNat:Int)∧f 18= .int .i64 (i:Int)∧H 137=⟨64,.live,1,l.map qkN,false⟩∧i≤64) (fun i _=>64 - i) (fun i u=>some (.slice 1 (((rnd (KS.drop i) (l.drop i) u).add s).l.map qkN),[])) ?_ 0 s _ _ ⟨f0,f5,rfl,rfl,rfl,rfl,rfl,rfl,rfl,rfl,rfl,rfl,H137,by omega⟩)
  rintro i u f H ⟨f0,f5,f9,g10,g11,g12,g13,g14,g15,g16,g17,f18,H137,hi⟩ ih
  by_cases hl:i<64
  ·simp -implicitDefEqProofs -dsimp +contextual (maxSteps:=5000000) (disch:=first | omega | simp only [go_sem]<;>omega | refine ib ?_;kernel_rfl) only [go_sem,Nat.reduceBEq,Int.reduceNeg,Int.reduceLT,Int.reduceLE,Int.reduceAdd,Int.reduceSub,Int.reduceToNat,Int.reduceMul,Int.reduceMod,Int.reduceTMod,Int.reduceTDiv,Int.reduceEq,Nat.reducePow,Nat.reduceDiv,Nat.reduceShiftRight,Nat.reduceMod,List.reduceReplicate,↓reduceIte,Nat.reduceEqDiff,Nat.reduceAdd,Nat.reduceSub,Nat.reduceLeDiff,Nat.reduceLT,Nat.reduceMul,f0,f5,f9,g10,g11,g12,g13,g14,g15,g16,g17,f18,H137,hl,hlen,hk]
   have c1:=qyl u (KS[i]'(by rw [hk];exact hl)) (l[i]'(by rw [hlen];exact hl))
   have c2:=qym u
   have c3:=qnW KS l i (by rw [hk];exact hl) (by rw [hlen];exact hl) u
   rw [qxw]at c3
   rw [c1,c2,c3]
   refine ih (i+1) _ _ _ ?_ (by omega)
   exact ⟨f0,f5,f9,rfl,rfl,rfl,rfl,rfl,rfl,rfl,rfl,rfl,H137,by omega⟩
  ·simp -implicitDefEqProofs -dsimp +contextual (maxSteps:=5000000) (disch:=first | omega | simp only [go_sem]<;>omega | refine ib ?_;kernel_rfl) only [go_sem,Nat.reduceBEq,Int.reduceNeg,Int.reduceLT,Int.reduceLE,Int.reduceAdd,Int.reduceSub,Int.reduceToNat,Int.reduceMul,Int.reduceMod,Int.reduceTMod,Int.reduceTDiv,Int.reduceEq,Nat.reducePow,Nat.reduceDiv,Nat.reduceShiftRight,Nat.reduceMod,List.reduceReplicate,↓reduceIte,Nat.reduceEqDiff,Nat.reduceAdd,Nat.reduceSub,Nat.reduceLeDiff,Nat.reduceLT,Nat.reduceMul,f0,f5,f9,g10,g11,g12,g13,g14,g15,g16,g17,f18,H137,hl,hlen,hk]
   obtain rfl:i=64:=by omega
   rw [qtu]
   exact congrArg (fun x=>some (AVal.slice 1 x,([]:List AVal))) (qxv u s)
end Go.Proofs.YtnpkhdjgedeppaaGreatDoor
namespace Go.Proofs.YtnpkhdjgedeppaaGreatDoor
set_option maxHeartbeats 64000000
open Go.Am
set_option linter.unusedSimpArgs false
set_option linter.unusedVariables false
set_option maxRecDepth 100000
def qtz (n:Nat):List UInt8:=128::(List.replicate ((119 - n % 64) % 64) 0++beN 8 (n * 8))
@[go_sem] theorem qNW (n:Nat) (h:n≤1000000000000):fn C 263 [] [.int .i64 (n:Int)]=some (.slice 1 ((qtz n).map qab),[]):=by
 rw [qaa Tryz.func263 rfl rfl Tryz.results263 qED.1 rfl rfl (by kernel_rfl)]
 have h119:(119:Int) - ((n % 64:Nat):Int)=((119 - n % 64:Nat):Int):=by omega
 simp -implicitDefEqProofs -dsimp +contextual (maxSteps:=5000000) (disch:=first | omega | simp only [go_sem]<;>omega | refine ib ?_;kernel_rfl) only [go_sem,Nat.reduceBEq,Int.reduceNeg,Int.reduceLT,Int.reduceLE,Int.reduceAdd,Int.reduceSub,Int.reduceToNat,Int.reduceMul,Int.reduceMod,Int.reduceTMod,Int.reduceTDiv,Int.reduceEq,Nat.reducePow,Nat.reduceDiv,Nat.reduceShiftRight,Nat.reduceMod,List.reduceReplicate,↓reduceIte,Nat.reduceEqDiff,Nat.reduceAdd,Nat.reduceSub,Nat.reduceLeDiff,Nat.reduceLT,Nat.reduceMul,h119,qdq,Nat.not_lt_zero]
 have b1:((n * 8 / 72057594037927936:Nat):Int)=((UInt8.ofNat (n * 8 / 72057594037927936)).toNat:Int):=by simp only [UInt8.toNat_ofNat'];omega
 have b2:((n * 8 / 281474976710656:Nat):Int)=((UInt8.ofNat (n * 8 / 281474976710656)).toNat:Int):=by simp only [UInt8.toNat_ofNat'];omega
 have b3:((n * 8 / 1099511627776:Nat):Int)=((UInt8.ofNat (n * 8 / 1099511627776)).toNat:Int):=by simp only [UInt8.toNat_ofNat'];omega
 rw [b1,b2,b3,qdP,qdP,qdP,qdP,qdP]
 simp only [qtz,beN,show List.range 8=[0,1,2,3,4,5,6,7]from rfl,List.map_cons,List.map_nil,List.map_append,List.append_assoc,List.cons_append,List.nil_append,List.append_nil]
 rfl
@[go_sem] theorem qNX (n:Nat) (h:n≤1000000000000):fn C 252 [] [.int .i64 (n:Int)]=some (.slice 1 ((qtz n).map qab),[]):=by
 rw [qaa Tryz.func252 rfl rfl Tryz.results252 qEu.1 rfl rfl (by kernel_rfl)]
 simp -implicitDefEqProofs -dsimp +contextual (maxSteps:=5000000) (disch:=first | omega | simp only [go_sem]<;>omega | refine ib ?_;kernel_rfl) only [go_sem,Nat.reduceBEq,Int.reduceNeg,Int.reduceLT,Int.reduceLE,Int.reduceAdd,Int.reduceSub,Int.reduceToNat,Int.reduceMul,Int.reduceMod,Int.reduceTMod,Int.reduceTDiv,Int.reduceEq,Nat.reducePow,Nat.reduceDiv,Nat.reduceShiftRight,Nat.reduceMod,List.reduceReplicate,↓reduceIte,Nat.reduceEqDiff,Nat.reduceAdd,Nat.reduceSub,Nat.reduceLeDiff,Nat.reduceLT,Nat.reduceMul,Nat.not_lt_zero]
 obtain ⟨Z,hZ⟩:∃Z,Z=(119 - n % 64) % 64:=⟨_,rfl⟩
 refine (qaj (fun (k:Nat) f H=>f 0= .int .i64 (n:Int)∧f 3= .osl 108 (k+1) 0 (k+1)∧H 108=⟨k+1,.live,1,(128::List.replicate k (0:UInt8)).map qab,false⟩∧k≤Z) (fun k=>Z - k) (fun _=>some (.slice 1 ((qtz n).map qab),[])) ?_ 0 _ _ ⟨rfl,rfl,rfl,by omega⟩)
 rintro k f H ⟨f0,f3,H8,hk⟩ ih
 by_cases hl:(n % 64+(k+1)+8) % 64=0
 ·obtain rfl:k=Z:=by omega
  simp -implicitDefEqProofs -dsimp +contextual (maxSteps:=5000000) (disch:=first | omega | simp only [go_sem]<;>omega | refine ib ?_;kernel_rfl) only [go_sem,Nat.reduceBEq,Int.reduceNeg,Int.reduceLT,Int.reduceLE,Int.reduceAdd,Int.reduceSub,Int.reduceToNat,Int.reduceMul,Int.reduceMod,Int.reduceTMod,Int.reduceTDiv,Int.reduceEq,Nat.reducePow,Nat.reduceDiv,Nat.reduceShiftRight,Nat.reduceMod,List.reduceReplicate,↓reduceIte,Nat.reduceEqDiff,Nat.reduceAdd,Nat.reduceSub,Nat.reduceLeDiff,Nat.reduceLT,Nat.reduceMul,f0,f3,H8,hl,qdq]
  have hm:∀m:Nat,((m % 256:Nat):Int)=((UInt8.ofNat m).toNat:Int):=fun m=>by simp [UInt8.toNat_ofNat']
  rw [hm,hm,hm,hm,hm,hm,hm,hm,hZ]
  simp only [qtz,beN,show List.range 8=[0,1,2,3,4,5,6,7]from rfl,List.map_cons,List.map_nil,List.map_append,List.append_assoc,List.cons_append,List.nil_append,List.append_nil]
  rfl
 ·simp -implicitDefEqProofs -dsimp +contextual (maxSteps:=5000000) (disch:=first | omega | simp only [go_sem]<;>omega | refine ib ?_;kernel_rfl) only [go_sem,Nat.reduceBEq,Int.reduceNeg,Int.reduceLT,Int.reduceLE,Int.reduceAdd,Int.reduceSub,Int.reduceToNat,Int.reduceMul,Int.reduceMod,Int.reduceTMod,Int.reduceTDiv,Int.reduceEq,Nat.reducePow,Nat.reduceDiv,Nat.reduceShiftRight,Nat.reduceMod,List.reduceReplicate,↓reduceIte,Nat.reduceEqDiff,Nat.reduceAdd,Nat.reduceSub,Nat.reduceLeDiff,Nat.reduceLT,Nat.reduceMul,f0,f3,H8,hl]
  refine ih (k+1) _ _ ⟨f0,rfl,?_,by omega⟩ (by omega)
  rw [List.replicate_succ',List.map_cons,List.map_append]
  rfl
end Go.Proofs.YtnpkhdjgedeppaaGreatDoor
namespace Go.Proofs.YtnpkhdjgedeppaaGreatDoor
set_option maxHeartbeats 64000000
open Go.Am
set_option linter.unusedSimpArgs false
set_option linter.unusedVariables false
set_option maxRecDepth 100000
def H0:S8:=⟨1779033703,3144134277,1013904242,2773480762,1359893119,2600822924,528734635,1541459225⟩
theorem qMH:[AVal.int .u32 1779033703,.int .u32 3144134277,.int .u32 1013904242,.int .u32 2773480762,.int .u32 1359893119,.int .u32 2600822924,.int .u32 528734635,.int .u32 1541459225]=H0.l.map w32:=by kernel_rfl
theorem qMI:[[AVal.int .u32 1779033703],[.int .u32 3144134277],[.int .u32 1013904242],[.int .u32 2773480762],[.int .u32 1359893119],[.int .u32 2600822924],[.int .u32 528734635],[.int .u32 1541459225]]=H0.l.map qkN:=by kernel_rfl
@[go_sem] theorem qKa (s:S8):s.l.length=8:=rfl
def stS (all:List UInt8):Nat→S8
 | 0=>H0
 | i+1=>qnV (stS all i) ((all.drop (64 * i)).take 64)
def be8 (x:UInt32):List UInt8:=[(W32.shr x 24).toUInt8,(W32.shr x 16).toUInt8,(W32.shr x 8).toUInt8,x.toUInt8]
def qIM (s:S8):List UInt8:=s.l.flatMap be8
def qxx (b:List UInt8):List UInt8:=b++qtz b.length
def qdF (b:List UInt8):List UInt8:=qIM (stS (qxx b) ((qxx b).length / 64))
theorem qiY (n:Nat):(qtz n).length=(119 - n % 64) % 64+9:=by simp [qtz,qeA]
theorem qiZ (b:List UInt8):(qxx b).length=b.length+((119 - b.length % 64) % 64+9):=by rw [qxx,List.length_append,qiY]
theorem qnX (b:List UInt8):(qxx b).length % 64=0:=by rw [qiZ];omega
@[go_sem] theorem qNY:fn C 264 [] []=some (.agg (H0.l.map w32),[]):=by
 rw [qaa Tryz.func264 rfl rfl Tryz.results264 qEE.1 rfl rfl (by kernel_rfl)]
 simp -implicitDefEqProofs -dsimp +contextual (maxSteps:=5000000) (disch:=first | omega | simp only [go_sem]<;>omega | refine ib ?_;kernel_rfl) only [go_sem,Nat.reduceBEq,Int.reduceNeg,Int.reduceLT,Int.reduceLE,Int.reduceAdd,Int.reduceSub,Int.reduceToNat,Int.reduceMul,Int.reduceMod,Int.reduceTMod,Int.reduceTDiv,Int.reduceEq,Nat.reducePow,Nat.reduceDiv,Nat.reduceShiftRight,Nat.reduceMod,List.reduceReplicate,↓reduceIte,Nat.reduceEqDiff,Nat.reduceAdd,Nat.reduceSub,Nat.reduceLeDiff,Nat.reduceLT,Nat.reduceMul,qMH]
@[go_sem] theorem qNZ:fn C 253 [] []=some (.slice 1 (H0.l.map qkN),[]):=by
 rw [qaa Tryz.func253 rfl rfl Tryz.results253 qEv.1 rfl rfl (by kernel_rfl)]
 simp -implicitDefEqProofs -dsimp +contextual (maxSteps:=5000000) (disch:=first | omega | simp only [go_sem]<;>omega | refine ib ?_;kernel_rfl) only [go_sem,Nat.reduceBEq,Int.reduceNeg,Int.reduceLT,Int.reduceLE,Int.reduceAdd,Int.reduceSub,Int.reduceToNat,Int.reduceMul,Int.reduceMod,Int.reduceTMod,Int.reduceTDiv,Int.reduceEq,Nat.reducePow,Nat.reduceDiv,Nat.reduceShiftRight,Nat.reduceMod,List.reduceReplicate,↓reduceIte,Nat.reduceEqDiff,Nat.reduceAdd,Nat.reduceSub,Nat.reduceLeDiff,Nat.reduceLT,Nat.reduceMul,qMI]
attribute [local irreducible] qnV qtz
@[go_sem] theorem qN0 (b:List UInt8) (h:b.length≤1000000):fn C 239 [] [.slice 1 (b.map qab)]=some (.slice 1 ((qdF b).map qab),[]):=by
 rw [qaa Tryz.func239 rfl rfl Tryz.results239 qEn.1 rfl rfl (by kernel_rfl)]
 have hp:=qiY b.length
 simp -implicitDefEqProofs -dsimp +contextual (maxSteps:=5000000) (disch:=first | omega | simp only [go_sem]<;>omega | refine ib ?_;kernel_rfl) only [go_sem,Nat.reduceBEq,Int.reduceNeg,Int.reduceLT,Int.reduceLE,Int.reduceAdd,Int.reduceSub,Int.reduceToNat,Int.reduceMul,Int.reduceMod,Int.reduceTMod,Int.reduceTDiv,Int.reduceEq,Nat.reducePow,Nat.reduceDiv,Nat.reduceShiftRight,Nat.reduceMod,List.reduceReplicate,↓reduceIte,Nat.reduceEqDiff,Nat.reduceAdd,Nat.reduceSub,Nat.reduceLeDiff,Nat.reduceLT,Nat.reduceMul,h,hp]
 have hmod:=qnX b
 have hAl:=qiZ b
 rw [show b++qtz b.length=qxx b from rfl,qdF]
 generalize hA:qxx b=A at *
 have hAm:A.length≤1001000:=by omega
 obtain ⟨m,hm⟩:∃m,A.length=64 * m:=⟨A.length / 64,by omega⟩
 rw [show A.length / 64=m by omega]
 refine (qaj (fun (i:Nat) f H=>f 3= .slice 1 (A.map qab)∧f 4= .ptr 104 1 0 0∧f 5= .int .i64 ((64 * i:Nat):Int)∧H 104=⟨1,.live,8,[(stS A i).l.map w32],false⟩∧(H 148).gen=0∧i≤m) (fun i=>m - i) (fun _=>some (.slice 1 ((qIM (stS A m)).map qab),[])) ?_ 0 _ _ ⟨rfl,rfl,rfl,rfl,rfl,by omega⟩)
 rintro i f H ⟨f3,f4,f5,H4,g,hi⟩ ih
 by_cases hl:64 * i+64≤A.length
 ·simp -implicitDefEqProofs -dsimp +contextual (maxSteps:=5000000) (disch:=first | omega | simp only [go_sem]<;>omega | refine ib ?_;kernel_rfl) only [go_sem,Nat.reduceBEq,Int.reduceNeg,Int.reduceLT,Int.reduceLE,Int.reduceAdd,Int.reduceSub,Int.reduceToNat,Int.reduceMul,Int.reduceMod,Int.reduceTMod,Int.reduceTDiv,Int.reduceEq,Nat.reducePow,Nat.reduceDiv,Nat.reduceShiftRight,Nat.reduceMod,List.reduceReplicate,↓reduceIte,Nat.reduceEqDiff,Nat.reduceAdd,Nat.reduceSub,Nat.reduceLeDiff,Nat.reduceLT,Nat.reduceMul,f3,f4,f5,H4,g,hl]
  refine ih (i+1) _ _ ⟨f3,f4,by simp only [upd,if_true];congr 1,?_,g,by omega⟩ (by omega)
  rw [stS,show 64 * i+64 - 64 * i=64 by omega]
  rfl
 ·obtain rfl:i=m:=by omega
  simp -implicitDefEqProofs -dsimp +contextual (maxSteps:=5000000) (disch:=first | omega | simp only [go_sem]<;>omega | refine ib ?_;kernel_rfl) only [go_sem,Nat.reduceBEq,Int.reduceNeg,Int.reduceLT,Int.reduceLE,Int.reduceAdd,Int.reduceSub,Int.reduceToNat,Int.reduceMul,Int.reduceMod,Int.reduceTMod,Int.reduceTDiv,Int.reduceEq,Nat.reducePow,Nat.reduceDiv,Nat.reduceShiftRight,Nat.reduceMod,List.reduceReplicate,↓reduceIte,Nat.reduceEqDiff,Nat.reduceAdd,Nat.reduceSub,Nat.reduceLeDiff,Nat.reduceLT,Nat.reduceMul,f3,f4,f5,H4,g,hl]
  generalize stS A i=s
  have hsl:s.l.map w32=[.int .u32 (s.a.toNat:Int),.int .u32 (s.b.toNat:Int),.int .u32 (s.c.toNat:Int),.int .u32 (s.d.toNat:Int),.int .u32 (s.e.toNat:Int),.int .u32 (s.f.toNat:Int),.int .u32 (s.g.toNat:Int),.int .u32 (s.h.toNat:Int)]:=rfl
  rw [hsl]
  simp -implicitDefEqProofs -dsimp +contextual (maxSteps:=5000000) (disch:=first | omega | simp only [go_sem]<;>omega | refine ib ?_;kernel_rfl) only [go_sem,Nat.reduceBEq,Int.reduceNeg,Int.reduceLT,Int.reduceLE,Int.reduceAdd,Int.reduceSub,Int.reduceToNat,Int.reduceMul,Int.reduceMod,Int.reduceTMod,Int.reduceTDiv,Int.reduceEq,Nat.reducePow,Nat.reduceDiv,Nat.reduceShiftRight,Nat.reduceMod,List.reduceReplicate,↓reduceIte,Nat.reduceEqDiff,Nat.reduceAdd,Nat.reduceSub,Nat.reduceLeDiff,Nat.reduceLT,Nat.reduceMul,qdq,f3,H4,g]
  rfl
@[go_sem] theorem qN1 (b:List UInt8) (h:b.length≤1000000):fn C 217 [] [.slice 1 (b.map qab)]=some (.usl 1 ((qdF b).map qab),[]):=by
 rw [qaa Tryz.func217 rfl rfl Tryz.results217 qD6.1 rfl rfl (by kernel_rfl)]
 have hp:=qiY b.length
 simp -implicitDefEqProofs -dsimp +contextual (maxSteps:=5000000) (disch:=first | omega | simp only [go_sem]<;>omega | refine ib ?_;kernel_rfl) only [go_sem,Nat.reduceBEq,Int.reduceNeg,Int.reduceLT,Int.reduceLE,Int.reduceAdd,Int.reduceSub,Int.reduceToNat,Int.reduceMul,Int.reduceMod,Int.reduceTMod,Int.reduceTDiv,Int.reduceEq,Nat.reducePow,Nat.reduceDiv,Nat.reduceShiftRight,Nat.reduceMod,List.reduceReplicate,↓reduceIte,Nat.reduceEqDiff,Nat.reduceAdd,Nat.reduceSub,Nat.reduceLeDiff,Nat.reduceLT,Nat.reduceMul,h,hp]
 have hmod:=qnX b
 have hAl:=qiZ b
 rw [show b++qtz b.length=qxx b from rfl,qdF,←hAl]
 generalize hA:qxx b=A at *
 have hAm:A.length≤1001000:=by omega
 obtain ⟨m,hm⟩:∃m,A.length=64 * m:=⟨A.length / 64,by omega⟩
 rw [show A.length / 64=m by omega]
 refine (qaj (fun (i:Nat) f H=>f 3= .osl 108 3 0 A.length∧f 4= .slice 1 ((stS A i).l.map qkN)∧f 5= .int .i64 ((64 * i:Nat):Int)∧(H 108=⟨3,.live,1,A.map qab,false⟩∨H 108=⟨3,.froz,1,A.map qab,false⟩)∧(H 157).gen=0∧i≤m) (fun i=>m - i) (fun _=>some (.usl 1 ((qIM (stS A m)).map qab),[])) ?_ 0 _ _ ⟨rfl,rfl,rfl,.inl rfl,rfl,by omega⟩)
 rintro i f H ⟨f3,f4,f5,H8,g,hi⟩ ih
 by_cases hl:64 * i<A.length
 ·have h64:64 * i+64≤A.length:=by omega
  rcases H8 with H8 | H8
  ·simp -implicitDefEqProofs -dsimp +contextual (maxSteps:=5000000) (disch:=first | omega | simp only [go_sem]<;>omega | refine ib ?_;kernel_rfl) only [go_sem,Nat.reduceBEq,Int.reduceNeg,Int.reduceLT,Int.reduceLE,Int.reduceAdd,Int.reduceSub,Int.reduceToNat,Int.reduceMul,Int.reduceMod,Int.reduceTMod,Int.reduceTDiv,Int.reduceEq,Nat.reducePow,Nat.reduceDiv,Nat.reduceShiftRight,Nat.reduceMod,List.reduceReplicate,↓reduceIte,Nat.reduceEqDiff,Nat.reduceAdd,Nat.reduceSub,Nat.reduceLeDiff,Nat.reduceLT,Nat.reduceMul,f3,f4,f5,H8,g,hl,h64]
   refine ih (i+1) _ _ ⟨f3,?_,by simp only [upd,if_true];congr 1,.inr rfl,g,by omega⟩ (by omega)
   rw [stS,show 64 * i+64 - 64 * i=64 by omega]
   rfl
  ·simp -implicitDefEqProofs -dsimp +contextual (maxSteps:=5000000) (disch:=first | omega | simp only [go_sem]<;>omega | refine ib ?_;kernel_rfl) only [go_sem,Nat.reduceBEq,Int.reduceNeg,Int.reduceLT,Int.reduceLE,Int.reduceAdd,Int.reduceSub,Int.reduceToNat,Int.reduceMul,Int.reduceMod,Int.reduceTMod,Int.reduceTDiv,Int.reduceEq,Nat.reducePow,Nat.reduceDiv,Nat.reduceShiftRight,Nat.reduceMod,List.reduceReplicate,↓reduceIte,Nat.reduceEqDiff,Nat.reduceAdd,Nat.reduceSub,Nat.reduceLeDiff,Nat.reduceLT,Nat.reduceMul,f3,f4,f5,H8,g,hl,h64]
   refine ih (i+1) _ _ ⟨f3,?_,by simp only [upd,if_true];congr 1,.inr rfl,g,by omega⟩ (by omega)
   rw [stS,show 64 * i+64 - 64 * i=64 by omega]
   rfl
 ·obtain rfl:i=m:=by omega
  generalize stS A i=s at *
  have hsl:s.l.map qkN=[[.int .u32 (s.a.toNat:Int)],[.int .u32 (s.b.toNat:Int)],[.int .u32 (s.c.toNat:Int)],[.int .u32 (s.d.toNat:Int)],[.int .u32 (s.e.toNat:Int)],[.int .u32 (s.f.toNat:Int)],[.int .u32 (s.g.toNat:Int)],[.int .u32 (s.h.toNat:Int)]]:=rfl
  rw [hsl]at f4
  rcases H8 with H8 | H8
  ·simp -implicitDefEqProofs -dsimp +contextual (maxSteps:=5000000) (disch:=first | omega | simp only [go_sem]<;>omega | refine ib ?_;kernel_rfl) only [go_sem,Nat.reduceBEq,Int.reduceNeg,Int.reduceLT,Int.reduceLE,Int.reduceAdd,Int.reduceSub,Int.reduceToNat,Int.reduceMul,Int.reduceMod,Int.reduceTMod,Int.reduceTDiv,Int.reduceEq,Nat.reducePow,Nat.reduceDiv,Nat.reduceShiftRight,Nat.reduceMod,List.reduceReplicate,↓reduceIte,Nat.reduceEqDiff,Nat.reduceAdd,Nat.reduceSub,Nat.reduceLeDiff,Nat.reduceLT,Nat.reduceMul,f3,f4,f5,H8,g,hl,qdq]
   rfl
  ·simp -implicitDefEqProofs -dsimp +contextual (maxSteps:=5000000) (disch:=first | omega | simp only [go_sem]<;>omega | refine ib ?_;kernel_rfl) only [go_sem,Nat.reduceBEq,Int.reduceNeg,Int.reduceLT,Int.reduceLE,Int.reduceAdd,Int.reduceSub,Int.reduceToNat,Int.reduceMul,Int.reduceMod,Int.reduceTMod,Int.reduceTDiv,Int.reduceEq,Nat.reducePow,Nat.reduceDiv,Nat.reduceShiftRight,Nat.reduceMod,List.reduceReplicate,↓reduceIte,Nat.reduceEqDiff,Nat.reduceAdd,Nat.reduceSub,Nat.reduceLeDiff,Nat.reduceLT,Nat.reduceMul,f3,f4,f5,H8,g,hl,qdq]
   rfl
@[go_sem] theorem qd9 (b:List UInt8):(qdF b).length=32:=by rw [qdF];rfl
end Go.Proofs.YtnpkhdjgedeppaaGreatDoor
namespace Go.Proofs.YtnpkhdjgedeppaaGreatDoor
set_option maxHeartbeats 64000000
open Go.Am
set_option linter.unusedSimpArgs false
set_option linter.unusedVariables false
set_option maxRecDepth 100000
attribute [local irreducible] qdF
def idB (b:List UInt8):Nat:=beV ((qdF b).take 8)
@[go_sem] theorem qMJ (b:List UInt8) (h:b.length≤1000000):fn C 190 [] [.slice 1 (b.map qab)]=some (.int .u64 (idB b:Int),[]):=by
 rw [qaa Tryz.func190 rfl rfl Tryz.results190 qDY.1 rfl rfl (by kernel_rfl)]
 have hl:=qd9 b
 simp -implicitDefEqProofs -dsimp +contextual (maxSteps:=5000000) (disch:=first | omega | simp only [go_sem]<;>omega | refine ib ?_;kernel_rfl) only [go_sem,Nat.reduceBEq,Int.reduceNeg,Int.reduceLT,Int.reduceLE,Int.reduceAdd,Int.reduceSub,Int.reduceToNat,Int.reduceMul,Int.reduceMod,Int.reduceTMod,Int.reduceTDiv,Int.reduceEq,Nat.reducePow,Nat.reduceDiv,Nat.reduceShiftRight,Nat.reduceMod,List.reduceReplicate,↓reduceIte,Nat.reduceEqDiff,Nat.reduceAdd,Nat.reduceSub,Nat.reduceLeDiff,Nat.reduceLT,Nat.reduceMul,h,hl]
 generalize hm:(qdF b).take 8=m
 have h8:m.length=8:=by rw [←hm,List.length_take,hl];rfl
 rw [idB,hm]
 refine (qaj (fun (i:Nat) f H=>f 3= .int .u64 (beV (m.take i):Int)∧f 8= .slice 1 (m.map qab)∧f 9= .int .i64 8∧f 10= .int .i64 (i:Int)∧i≤8) (fun i=>8 - i) (fun _=>some (.int .u64 (beV m:Int),[])) ?_ 0 _ _ ⟨rfl,rfl,rfl,rfl,by omega⟩)
 rintro i f H ⟨f3,f8,f9,f10,hi⟩ ih
 by_cases hl:i<8
 ·have hb:=qyi (m.take i)
  have h7:beV (m.take i)<72057594037927936:=Nat.lt_of_lt_of_le hb (by
   rw [List.length_take,Nat.min_eq_left (by omega)]
   exact Nat.le_trans (Nat.pow_le_pow_right (by decide) (show i≤7 by omega)) (by decide))
  have hc:=qdO (m[i]'(by omega))
  have ht:=qxs m i (by omega)
  simp -implicitDefEqProofs -dsimp +contextual (maxSteps:=5000000) (disch:=first | omega | simp only [go_sem]<;>omega | refine ib ?_;kernel_rfl) only [go_sem,Nat.reduceBEq,Int.reduceNeg,Int.reduceLT,Int.reduceLE,Int.reduceAdd,Int.reduceSub,Int.reduceToNat,Int.reduceMul,Int.reduceMod,Int.reduceTMod,Int.reduceTDiv,Int.reduceEq,Nat.reducePow,Nat.reduceDiv,Nat.reduceShiftRight,Nat.reduceMod,List.reduceReplicate,↓reduceIte,Nat.reduceEqDiff,Nat.reduceAdd,Nat.reduceSub,Nat.reduceLeDiff,Nat.reduceLT,Nat.reduceMul,f3,f8,f9,f10,hl,h8,qxr,qBF,UInt8.toNat_toUInt64]
  rw [←ht]
  exact ih (i+1) _ _ ⟨rfl,f8,f9,rfl,by omega⟩ (by omega)
 ·obtain rfl:i=8:=by omega
  rw [List.take_of_length_le (by omega)]at f3
  simp -implicitDefEqProofs -dsimp +contextual (maxSteps:=5000000) (disch:=first | omega | simp only [go_sem]<;>omega | refine ib ?_;kernel_rfl) only [go_sem,Nat.reduceBEq,Int.reduceNeg,Int.reduceLT,Int.reduceLE,Int.reduceAdd,Int.reduceSub,Int.reduceToNat,Int.reduceMul,Int.reduceMod,Int.reduceTMod,Int.reduceTDiv,Int.reduceEq,Nat.reducePow,Nat.reduceDiv,Nat.reduceShiftRight,Nat.reduceMod,List.reduceReplicate,↓reduceIte,Nat.reduceEqDiff,Nat.reduceAdd,Nat.reduceSub,Nat.reduceLeDiff,Nat.reduceLT,Nat.reduceMul,f3,f8,f9,f10,hl,h8]
theorem qFW (l:List UInt8) (h:8≤l.length):(qp5 (l.take 4)).toNat * 4294967296+(qp5 ((l.drop 4).take 4)).toNat=beV (l.take 8):=by
 match l,h with
 | a::b::c::d::e::f::g::i::r,_=>
  have h1:qp5 ((a::b::c::d::e::f::g::i::r).take 4)=be4 a b c d:=rfl
  have h2:qp5 (((a::b::c::d::e::f::g::i::r).drop 4).take 4)=be4 e f g i:=rfl
  rw [h1,h2,qmX,qmX]
  simp only [beV,List.take_succ_cons,List.take_zero,List.foldl_cons,List.foldl_nil]
  omega
@[go_sem] theorem qMK (b:List UInt8) (h:b.length≤1000000):fn C 159 [] [.slice 1 (b.map qab)]=some (.int .u64 (idB b:Int),[]):=by
 rw [qaa Tryz.func159 rfl rfl Tryz.results159 qDC.1 rfl rfl (by kernel_rfl)]
 have hl:=qd9 b
 have hn:=qFW (qdF b) (by omega)
 simp -implicitDefEqProofs -dsimp +contextual (maxSteps:=5000000) (disch:=first | omega | simp only [go_sem]<;>omega | refine ib ?_;kernel_rfl) only [go_sem,Nat.reduceBEq,Int.reduceNeg,Int.reduceLT,Int.reduceLE,Int.reduceAdd,Int.reduceSub,Int.reduceToNat,Int.reduceMul,Int.reduceMod,Int.reduceTMod,Int.reduceTDiv,Int.reduceEq,Nat.reducePow,Nat.reduceDiv,Nat.reduceShiftRight,Nat.reduceMod,List.reduceReplicate,↓reduceIte,Nat.reduceEqDiff,Nat.reduceAdd,Nat.reduceSub,Nat.reduceLeDiff,Nat.reduceLT,Nat.reduceMul,h,hl]
 have e:((qp5 (List.take 4 (qdF b))).toUInt64 * UInt64.ofNat 4294967296+(qp5 (List.take 4 (List.drop 4 (qdF b)))).toUInt64).toNat=idB b:=by
  have h1:=qcm (qp5 (List.take 4 (qdF b)))
  have h2:=qcm (qp5 (List.take 4 (List.drop 4 (qdF b))))
  rw [idB,←hn]
  simp only [UInt64.toNat_add,UInt64.toNat_mul,UInt32.toNat_toUInt64,UInt64.toNat_ofNat']
  omega
 rw [e]
def qnY:List UInt8:=[107,101,121,32]
@[go_sem] theorem qML (b:List UInt8) (h:b.length≤10000):fn C 129 [] [.str b]=some (.int .u64 (idB (qnY++b):Int),[]):=by
 rw [qaa Tryz.func129 rfl rfl Tryz.results129 qDs.1 rfl rfl (by kernel_rfl)]
 have e:fn C 190 [] [.slice 1 ([.int .u8 (UInt8.toNat 107:Int)]::[.int .u8 (UInt8.toNat 101:Int)]::[.int .u8 (UInt8.toNat 121:Int)]::[.int .u8 (UInt8.toNat 32:Int)]::b.map qab)]=some (.int .u64 (idB (qnY++b):Int),[]):=qMJ (qnY++b) (by simp [qnY];omega)
 simp -implicitDefEqProofs -dsimp +contextual (maxSteps:=5000000) (disch:=first | omega | simp only [go_sem]<;>omega | refine ib ?_;kernel_rfl) only [go_sem,Nat.reduceBEq,Int.reduceNeg,Int.reduceLT,Int.reduceLE,Int.reduceAdd,Int.reduceSub,Int.reduceToNat,Int.reduceMul,Int.reduceMod,Int.reduceTMod,Int.reduceTDiv,Int.reduceEq,Nat.reducePow,Nat.reduceDiv,Nat.reduceShiftRight,Nat.reduceMod,List.reduceReplicate,↓reduceIte,Nat.reduceEqDiff,Nat.reduceAdd,Nat.reduceSub,Nat.reduceLeDiff,Nat.reduceLT,Nat.reduceMul,e]
@[go_sem] theorem e96 (b:List UInt8) (h:b.length≤10000):fn C 96 [] [.str b]=some (.int .u64 (idB (qnY++b):Int),[]):=by
 rw [qaa Tryz.func96 rfl rfl Tryz.results96 qJx.1 rfl rfl (by kernel_rfl)]
 have e:fn C 159 [] [.slice 1 ([.int .u8 (UInt8.toNat 107:Int)]::[.int .u8 (UInt8.toNat 101:Int)]::[.int .u8 (UInt8.toNat 121:Int)]::[.int .u8 (UInt8.toNat 32:Int)]::b.map qab)]=some (.int .u64 (idB (qnY++b):Int),[]):=qMK (qnY++b) (by simp [qnY];omega)
 simp -implicitDefEqProofs -dsimp +contextual (maxSteps:=5000000) (disch:=first | omega | simp only [go_sem]<;>omega | refine ib ?_;kernel_rfl) only [go_sem,Nat.reduceBEq,Int.reduceNeg,Int.reduceLT,Int.reduceLE,Int.reduceAdd,Int.reduceSub,Int.reduceToNat,Int.reduceMul,Int.reduceMod,Int.reduceTMod,Int.reduceTDiv,Int.reduceEq,Nat.reducePow,Nat.reduceDiv,Nat.reduceShiftRight,Nat.reduceMod,List.reduceReplicate,↓reduceIte,Nat.reduceEqDiff,Nat.reduceAdd,Nat.reduceSub,Nat.reduceLeDiff,Nat.reduceLT,Nat.reduceMul,e]
end Go.Proofs.YtnpkhdjgedeppaaGreatDoor
namespace Go.Proofs.YtnpkhdjgedeppaaGreatDoor
set_option maxHeartbeats 64000000
open Go.Am
set_option linter.unusedSimpArgs false
set_option linter.unusedVariables false
set_option maxRecDepth 100000
def qa7 (a b:Nat):Nat:=(b+18446744073709551616 - a) % 18446744073709551616
@[go_sem] theorem qN2 (a b:Nat) (ha:a≤18446744073709551615) (hb:b≤18446744073709551615):fn C 158 [] [.int .u64 (a:Int),.int .u64 (b:Int)]=some (.int .u64 (qa7 a b:Int),[]):=by
 rw [qaa Tryz.func158 rfl rfl Tryz.results158 qDB.1 rfl rfl (by kernel_rfl)]
 simp -implicitDefEqProofs -dsimp +contextual (maxSteps:=9999999) (disch:=first | omega | simp only [go_sem]<;>omega | refine ib ?_;kernel_rfl) only [go_sem,seval,↓reduceIte]
 rw [show IntKind.u64.wrap ((b:Int) - a)=((qa7 a b:Nat):Int) by rw [IntKind.wrap_u64,qa7];omega]
end Go.Proofs.YtnpkhdjgedeppaaGreatDoor
namespace Go.Proofs.YtnpkhdjgedeppaaGreatDoor
set_option maxHeartbeats 64000000
open Go.Am
set_option linter.unusedSimpArgs false
set_option linter.unusedVariables false
set_option maxRecDepth 100000
attribute [local irreducible] qdF idB
def qcf (a x b:Nat):Bool:=decide (a=b)|| (!decide (x=a)&&decide (qa7 a x≤qa7 a b))
theorem qtA (l:List UInt8):idB l≤18446744073709551615:=by
 have h:=qyi ((qdF l).take 8)
 have h8:((qdF l).take 8).length=8:=by rw [List.length_take,qd9];rfl
 rw [h8]at h
 unfold idB
 omega
theorem qmY (a b:Nat) (ha:a≤18446744073709551615) (hb:b≤18446744073709551615) (h:a≤b):qa7 a b=b - a:=by unfold qa7;omega
theorem qmZ (a b:Nat) (ha:a≤18446744073709551615) (hb:b≤18446744073709551615) (h:¬a≤b):qa7 a b=b+18446744073709551616 - a:=by unfold qa7;omega
theorem qkQ (a x b:Nat) (ha:a≤18446744073709551615) (hx:x≤18446744073709551615) (hb:b≤18446744073709551615) (h:a<b):qcf a x b=(decide (a<x)&&decide (x≤b)):=by
 rw [Bool.eq_iff_iff];simp only [qcf,Bool.or_eq_true,Bool.and_eq_true,decide_eq_true_eq,Bool.not_eq_true',decide_eq_false_iff_not]
 rw [qmY a b ha hb (by omega)]
 by_cases h1:a≤x
 ·rw [qmY a x ha hx h1];omega
 ·rw [qmZ a x ha hx h1];omega
theorem qkR (a x b:Nat) (ha:a≤18446744073709551615) (hx:x≤18446744073709551615) (hb:b≤18446744073709551615) (h:b<a):qcf a x b=(decide (a<x)|| decide (x≤b)):=by
 rw [Bool.eq_iff_iff];simp only [qcf,Bool.or_eq_true,Bool.and_eq_true,decide_eq_true_eq,Bool.not_eq_true',decide_eq_false_iff_not]
 rw [qmZ a b ha hb (by omega)]
 by_cases h1:a≤x
 ·rw [qmY a x ha hx h1];omega
 ·rw [qmZ a x ha hx h1];omega
@[go_sem] theorem qN3 (a x b : Nat) (ha : a ≤ 18446744073709551615) (hx : x ≤ 18446744073709551615) (hb : b ≤ 18446744073709551615) : fn C 260 [] [.int .u64 (a : Int), .int .u64 (x : Int), .int .u64 (b : Int)] = some (.bool (qcf a x b), []) := by
  rw [qaa Tryz.func260 rfl rfl Tryz.results260 qEC.1 rfl rfl (by kernel_rfl)]
  simp -implicitDefEqProofs -dsimp +contextual (maxSteps := 9999999) (disch := first | omega | simp only [go_sem] <;> omega | refine ib ?_; kernel_rfl) only [go_sem, seval, ↓reduceIte]
  (repeat' (refine qae (fun _ => ?_) (fun _ => ?_)))
  all_goals exact qas (by simp [qcf, *])
@[go_sem] theorem qN4 (a x b : Nat) (ha : a ≤ 18446744073709551615) (hx : x ≤ 18446744073709551615) (hb : b ≤ 18446744073709551615) : fn C 183 [] [.int .u64 (a : Int), .int .u64 (x : Int), .int .u64 (b : Int)] = some (.bool (qcf a x b), []) := by
  rw [qaa Tryz.func183 rfl rfl Tryz.results183 qDS.1 rfl rfl (by kernel_rfl)]
  simp -implicitDefEqProofs -dsimp +contextual (maxSteps := 9999999) (disch := first | omega | simp only [go_sem] <;> omega | refine ib ?_; kernel_rfl) only [go_sem, seval, ↓reduceIte]
  (repeat' (refine qae (fun _ => ?_) (fun _ => ?_)))
  · exact qas (by simp [qcf, *])
  · exact qas (by rw [qkQ a x b ha hx hb (by assumption)]; simp [*])
  · exact qas (by rw [qkQ a x b ha hx hb (by assumption)]; simp [*])
  · exact qas (by rw [qkR a x b ha hx hb (by omega)]; simp [*])
  · exact qas (by rw [qkR a x b ha hx hb (by omega)]; simp [*])
def inR (a b:Nat) (x:It):Bool:=qcf a (idB (qnY++x.k)) b
theorem qha (p:It→Bool) (l:List It) (i:Nat) (h:i<l.length):(l.take (i+1)).filter p=(l.take i).filter p++(if p l[i]=true then [l[i]] else []):=by
 rw [List.take_succ_eq_append_getElem h,List.filter_append]
 simp only [List.filter_cons,List.filter_nil]
@[go_sem] theorem qMM (l:List It) (a b:Nat) (ha:a≤18446744073709551615) (hb:b≤18446744073709551615) (hl:l.length≤100000) (hk:∀x∈l,x.k.length≤10000):fn C 230 [] [.slice 4 (l.map It.cs),.int .u64 (a:Int),.int .u64 (b:Int)]=some (.slice 4 ((l.filter (inR a b)).map It.cs),[]):=by
 rw [qaa Tryz.func230 rfl rfl Tryz.results230 qEg.1 rfl rfl (by kernel_rfl)]
 simp -implicitDefEqProofs -dsimp +contextual (maxSteps:=9999999) (disch:=first | omega | simp only [go_sem]<;>omega | refine ib ?_;kernel_rfl) only [go_sem,seval,↓reduceIte]
 refine (qaj (fun i f H=>f 1= .int .u64 (a:Int)∧f 2= .int .u64 (b:Int)∧f 10= .slice 4 (l.map It.cs)∧f 11= .int .i64 l.length∧f 12= .int .i64 (i:Nat)∧(((l.take i).filter (inR a b)=[]∧f 7= .sc (.slice none 0 0))∨∃g,f 7= .osl 125 g 0 ((l.take i).filter (inR a b)).length∧H 125=⟨g,.live,4,((l.take i).filter (inR a b)).map It.cs,false⟩)∧i≤l.length) (fun i=>l.length - i) (fun i=>some (.slice 4 ((l.filter (inR a b)).map It.cs),[])) ?_ 0 _ _ ⟨rfl,rfl,rfl,rfl,rfl,.inl ⟨rfl,rfl⟩,by omega⟩).trans rfl
 rintro i f H ⟨h1,h2,h10,h11,h12,h7,hi⟩ ih
 by_cases hl:i<l.length
 ·have hs:=qha (inR a b) l i hl
  have hki:=hk l[i] (List.getElem_mem _)
  have hid:=qtA (qnY++l[i].k)
  have hw:qcf a (idB (qnY++l[i].k)) b=inR a b l[i]:=rfl
  have hn:((l.take i).filter (inR a b)).length≤l.length:=Nat.le_trans (List.length_filter_le ..) (by simp;omega)
  generalize (l.take i).filter (inR a b)=s at *
  rcases h7 with ⟨rfl,h7⟩|⟨g,h7,hH⟩
  ·simp -implicitDefEqProofs -dsimp +contextual (maxSteps:=9999999) (disch:=first | omega | simp only [go_sem]<;>omega | refine ib ?_;kernel_rfl) only [go_sem,seval,↓reduceIte,h1,h2,h7,h10,h11,h12,hl,hw]
   (repeat' (refine qae (fun _=>?_) (fun _=>?_)))
   ·rename_i hin;exact ih (i+1) _ _ (by rw [hs,if_pos hin];exact ⟨h1,h2,h10,h11,rfl,.inr ⟨_,rfl,rfl⟩,by omega⟩) (by omega)
   ·rename_i hin;exact ih (i+1) _ _ (by rw [hs,if_neg hin];exact ⟨h1,h2,h10,h11,rfl,.inl ⟨rfl,h7⟩,by omega⟩) (by omega)
  ·simp -implicitDefEqProofs -dsimp +contextual (maxSteps:=9999999) (disch:=first | omega | simp only [go_sem]<;>omega | refine ib ?_;kernel_rfl) only [go_sem,seval,↓reduceIte,h1,h2,h7,h10,h11,h12,hl,hH,hw]
   (repeat' (refine qae (fun _=>?_) (fun _=>?_)))
   ·rename_i hin;exact ih (i+1) _ _ (by rw [hs,if_pos hin];exact ⟨h1,h2,h10,h11,rfl,.inr ⟨_,by rw [List.length_append];rfl,by rw [List.map_append];rfl⟩,by omega⟩) (by omega)
   ·rename_i hin;exact ih (i+1) _ _ (by rw [hs,if_neg hin,List.append_nil];exact ⟨h1,h2,h10,h11,rfl,.inr ⟨g,h7,by simp [qac.set,hH]⟩,by omega⟩) (by omega)
 ·obtain rfl:i=l.length:=by omega
  rw [List.take_length]at h7
  rcases h7 with ⟨he,h7⟩|⟨g,h7,hH⟩
  ·rw [he]
   simp -implicitDefEqProofs -dsimp +contextual (maxSteps:=9999999) (disch:=first | omega | simp only [go_sem]<;>omega | refine ib ?_;kernel_rfl) only [go_sem,seval,↓reduceIte,h1,h2,h7,h10,h11,h12,hl]
  ·simp -implicitDefEqProofs -dsimp +contextual (maxSteps:=9999999) (disch:=first | omega | simp only [go_sem]<;>omega | refine ib ?_;kernel_rfl) only [go_sem,seval,↓reduceIte,h1,h2,h7,h10,h11,h12,hl,hH]
@[go_sem] theorem qMN (l:List It) (a b:Nat) (ha:a≤18446744073709551615) (hb:b≤18446744073709551615) (hl:l.length≤100000) (hk:∀x∈l,x.k.length≤10000):fn C 118 [] [.slice 4 (l.map It.cs),.int .u64 (a:Int),.int .u64 (b:Int)]=some (.slice 4 ((l.filter (inR a b)).map It.cs),[]):=by
 rw [qaa Tryz.func118 rfl rfl Tryz.results118 qDh.1 rfl rfl (by kernel_rfl)]
 simp -implicitDefEqProofs -dsimp +contextual (maxSteps:=9999999) (disch:=first | omega | simp only [go_sem]<;>omega | refine ib ?_;kernel_rfl) only [go_sem,seval,↓reduceIte]
 refine (qaj (fun i f H=>f 0= .slice 4 (l.map It.cs)∧f 1= .int .u64 (a:Int)∧f 2= .int .u64 (b:Int)∧f 8= .int .i64 (i:Nat)∧(((l.take i).filter (inR a b)=[]∧f 7= .sc (.slice none 0 0))∨∃g,f 7= .osl 130 g 0 ((l.take i).filter (inR a b)).length∧H 130=⟨g,.live,4,((l.take i).filter (inR a b)).map It.cs,false⟩)∧i≤l.length) (fun i=>l.length - i) (fun i=>some (.slice 4 ((l.filter (inR a b)).map It.cs),[])) ?_ 0 _ _ ⟨rfl,rfl,rfl,rfl,.inl ⟨rfl,rfl⟩,by omega⟩).trans rfl
 rintro i f H ⟨h0,h1,h2,h8,h7,hi⟩ ih
 by_cases hl:i<l.length
 ·have hs:=qha (inR a b) l i hl
  have hki:=hk l[i] (List.getElem_mem _)
  have hid:=qtA (qnY++l[i].k)
  have hw:qcf a (idB (qnY++l[i].k)) b=inR a b l[i]:=rfl
  have hn:((l.take i).filter (inR a b)).length≤l.length:=Nat.le_trans (List.length_filter_le ..) (by simp;omega)
  generalize (l.take i).filter (inR a b)=s at *
  rcases h7 with ⟨rfl,h7⟩|⟨g,h7,hH⟩
  ·simp -implicitDefEqProofs -dsimp +contextual (maxSteps:=9999999) (disch:=first | omega | simp only [go_sem]<;>omega | refine ib ?_;kernel_rfl) only [go_sem,seval,↓reduceIte,h0,h1,h2,h7,h8,hl,hw]
   (repeat' (refine qae (fun _=>?_) (fun _=>?_)))
   ·rename_i hin;exact ih (i+1) _ _ (by rw [hs,if_pos hin];exact ⟨h0,h1,h2,rfl,.inr ⟨_,rfl,rfl⟩,by omega⟩) (by omega)
   ·rename_i hin;exact ih (i+1) _ _ (by rw [hs,if_neg hin];exact ⟨h0,h1,h2,rfl,.inl ⟨rfl,h7⟩,by omega⟩) (by omega)
  ·simp -implicitDefEqProofs -dsimp +contextual (maxSteps:=9999999) (disch:=first | omega | simp only [go_sem]<;>omega | refine ib ?_;kernel_rfl) only [go_sem,seval,↓reduceIte,h0,h1,h2,h7,h8,hl,hH,hw]
   (repeat' (refine qae (fun _=>?_) (fun _=>?_)))
   ·rename_i hin;exact ih (i+1) _ _ (by rw [hs,if_pos hin];exact ⟨h0,h1,h2,rfl,.inr ⟨_,by rw [List.length_append];rfl,by rw [List.map_append];rfl⟩,by omega⟩) (by omega)
   ·rename_i hin;exact ih (i+1) _ _ (by rw [hs,if_neg hin,List.append_nil];exact ⟨h0,h1,h2,rfl,.inr ⟨g,h7,by simp [qac.set,hH]⟩,by omega⟩) (by omega)
 ·obtain rfl:i=l.length:=by omega
  rw [List.take_length]at h7
  rcases h7 with ⟨he,h7⟩|⟨g,h7,hH⟩
  ·rw [he]
   simp -implicitDefEqProofs -dsimp +contextual (maxSteps:=9999999) (disch:=first | omega | simp only [go_sem]<;>omega | refine ib ?_;kernel_rfl) only [go_sem,seval,↓reduceIte,h0,h1,h2,h7,h8,hl]
  ·simp -implicitDefEqProofs -dsimp +contextual (maxSteps:=9999999) (disch:=first | omega | simp only [go_sem]<;>omega | refine ib ?_;kernel_rfl) only [go_sem,seval,↓reduceIte,h0,h1,h2,h7,h8,hl,hH]
end Go.Proofs.YtnpkhdjgedeppaaGreatDoor
namespace Go.Proofs.YtnpkhdjgedeppaaGreatDoor
set_option maxHeartbeats 64000000
open Go.Am
set_option linter.unusedSimpArgs false
set_option linter.unusedVariables false
set_option maxRecDepth 100000
@[go_sem] theorem qN5 (a b:List UInt8) (h:a.length+b.length≤1000000):fn C 267 [] [.slice 1 (a.map qab),.slice 1 (b.map qab)]=some (.slice 1 ((qdF (a++b)).map qab),[]):=by
 rw [qaa Tryz.func267 rfl rfl Tryz.results267 qEH.1 rfl rfl (by kernel_rfl)]
 simp -implicitDefEqProofs -dsimp +contextual (maxSteps:=9999999) (disch:=first | omega | simp only [go_sem]<;>omega | refine ib ?_;kernel_rfl) only [go_sem,seval,↓reduceIte]
def qi6 (k:List UInt8):List UInt8:=(if 64<k.length then qdF k else k)++List.replicate (64 - (if 64<k.length then qdF k else k).length) 0
@[go_sem] theorem qi0 (k:List UInt8):(qi6 k).length=64:=by
 unfold qi6;split
 ·simp [qd9]
 ·simp;omega
def qhg (k:List UInt8) (y:UInt8):List UInt8:=k.map (· ^^^ y)
@[go_sem] theorem qb2 (k:List UInt8) (y:UInt8):(qhg k y).length=k.length:=by simp [qhg]
theorem qhb (k:List UInt8) (y:UInt8) (i:Nat) (h:i<k.length):(qhg k y).take (i+1)=(qhg k y).take i++[k[i] ^^^ y]:=by
 rw [List.take_succ_eq_append_getElem (by rw [qb2];exact h)];simp [qhg]
def qBK (k m:List UInt8):List UInt8:=qdF (qhg (qi6 k) 92++qdF (qhg (qi6 k) 54++m))
@[go_sem] theorem qxy (k m:List UInt8):(qBK k m).length=32:=qd9 _
theorem qig (k:List UInt8) (h:¬64<k.length):qi6 k=k++List.replicate (64 - k.length) 0:=by simp [qi6,h]
theorem qkS (k:List UInt8) (h:64<k.length):qi6 k=qdF k++List.replicate 32 0:=by simp [qi6,h,qd9]
theorem qxz (k:List UInt8) (y:UInt8) (i:Nat) (h:i<k.length):((qhg k y).take i++k.drop i)[i]'(by simp [qb2];omega)=k[i]:=by
 rw [List.getElem_append_right (by simp [qb2];omega)]
 simp [qb2,show min i k.length=i by omega]
theorem qxA (k:List UInt8) (y:UInt8) (i:Nat):((qhg k y).take i++k.drop i).length=k.length:=by simp [qb2];omega
theorem qxB (k:List UInt8) (y:UInt8) (i:Nat) (h:i<k.length):((qhg k y).take i++k.drop i).set i (k[i] ^^^ y)=(qhg k y).take (i+1)++k.drop (i+1):=by
 rw [qhb k y i h,List.set_append_right _ _ (by simp [qb2];omega)]
 simp only [List.length_take,qb2,show min i k.length=i by omega,Nat.sub_self]
 rw [List.drop_eq_getElem_cons h,List.set_cons_zero,List.append_assoc];rfl
@[go_sem] theorem qN6 (k:List UInt8) (h:k.length≤1000000):fn C 281 [] [.slice 1 (k.map qab)]=some (.usl 1 ((qi6 k).map qab),[]):=by
 rw [qaa Tryz.func281 rfl rfl Tryz.results281 qER.1 rfl rfl (by kernel_rfl)]
 by_cases h1:64<k.length
 ·simp -implicitDefEqProofs -dsimp +contextual (maxSteps:=9999999) (disch:=first | omega | simp only [go_sem]<;>omega | refine ib ?_;kernel_rfl) only [go_sem,seval,↓reduceIte,h1]
  rw [qkS k h1,List.map_append];rfl
 ·simp -implicitDefEqProofs -dsimp +contextual (maxSteps:=9999999) (disch:=first | omega | simp only [go_sem]<;>omega | refine ib ?_;kernel_rfl) only [go_sem,seval,↓reduceIte,h1]
  rw [qig k h1,show (64 - (k.length:Int)).toNat=64 - k.length by omega]
@[go_sem] theorem qN7 (k:List UInt8) (h:k.length≤1000000):fn C 284 [] [.slice 1 (k.map qab)]=some (.usl 1 ((qi6 k).map qab),[]):=by
 rw [qaa Tryz.func284 rfl rfl Tryz.results284 qEU.1 rfl rfl (by kernel_rfl)]
 have snoc:∀(l:List UInt8) (n:Nat),(l++List.replicate n 0).map qab++[[AVal.int IntKind.u8 0]]=(l++List.replicate (n+1) 0).map qab:=fun l n=>by
  rw [List.replicate_succ',←List.append_assoc,List.map_append (l₁:=l++List.replicate n 0)];rfl
 by_cases h1:64<k.length
 ·simp -implicitDefEqProofs -dsimp +contextual (maxSteps:=9999999) (disch:=first | omega | simp only [go_sem]<;>omega | refine ib ?_;kernel_rfl) only [go_sem,seval,↓reduceIte,h1]
  refine (qaj (fun (i:Nat) f H=>32+i≤64∧∃g,f 3= .osl 111 g 0 (32+i)∧H 111=⟨g,.live,1,(qdF k++List.replicate i 0).map qab,false⟩) (fun i=>64 - i) (fun _=>some (.usl 1 ((qi6 k).map qab),[])) ?_ 0 _ _ ⟨by omega,1,rfl,by simp [qac.set]⟩)
  rintro i f H ⟨hi,g,h3,hH⟩ ih
  by_cases hl:32+i<64
  ·simp -implicitDefEqProofs -dsimp +contextual (maxSteps:=9999999) (disch:=first | omega | simp only [go_sem]<;>omega | refine ib ?_;kernel_rfl) only [go_sem,seval,↓reduceIte,h3,hH,hl]
   exact ih (i+1) _ _ ⟨by omega,g+1,rfl,by rw [←snoc];rfl⟩ (by omega)
  ·simp -implicitDefEqProofs -dsimp +contextual (maxSteps:=9999999) (disch:=first | omega | simp only [go_sem]<;>omega | refine ib ?_;kernel_rfl) only [go_sem,seval,↓reduceIte,h3,hH,hl]
   rw [qkS k h1,show i=32 by omega]
 ·simp -implicitDefEqProofs -dsimp +contextual (maxSteps:=9999999) (disch:=first | omega | simp only [go_sem]<;>omega | refine ib ?_;kernel_rfl) only [go_sem,seval,↓reduceIte,h1]
  refine (qaj (fun (i:Nat) f H=>k.length+i≤64∧∃g,f 3= .osl 104 g 0 (k.length+i)∧H 104=⟨g,.live,1,(k++List.replicate i 0).map qab,false⟩) (fun i=>64 - i) (fun _=>some (.usl 1 ((qi6 k).map qab),[])) ?_ 0 _ _ ⟨by omega,2,by simp [upd],by simp [qac.set]⟩)
  rintro i f H ⟨hi,g,h3,hH⟩ ih
  by_cases hl:k.length+i<64
  ·simp -implicitDefEqProofs -dsimp +contextual (maxSteps:=9999999) (disch:=first | omega | simp only [go_sem]<;>omega | refine ib ?_;kernel_rfl) only [go_sem,seval,↓reduceIte,h3,hH,hl]
   exact ih (i+1) _ _ ⟨by omega,g+1,rfl,by rw [←snoc];rfl⟩ (by omega)
  ·simp -implicitDefEqProofs -dsimp +contextual (maxSteps:=9999999) (disch:=first | omega | simp only [go_sem]<;>omega | refine ib ?_;kernel_rfl) only [go_sem,seval,↓reduceIte,h3,hH,hl]
   rw [qig k h1,show i=64 - k.length by omega]
@[go_sem] theorem qKb (k:List UInt8) (y:UInt8) (h:k.length≤1000000):fn C 266 [] [.slice 1 (k.map qab),.int .u8 (y.toNat:Int)]=some (.slice 1 ((qhg (qi6 k) y).map qab),[]):=by
 rw [qaa Tryz.func266 rfl rfl Tryz.results266 qEG.1 rfl rfl (by kernel_rfl)]
 simp -implicitDefEqProofs -dsimp +contextual (maxSteps:=9999999) (disch:=first | omega | simp only [go_sem]<;>omega | refine ib ?_;kernel_rfl) only [go_sem,seval,↓reduceIte]
 have hk:=qi0 k
 generalize qi6 k=K at *
 refine (qaj (fun (i:Nat) f H=>f 1= .int .u8 (y.toNat:Int)∧f 5= .osl 108 1 0 64∧f 10= .int .i64 64∧f 11= .int .i64 (i:Int)∧H 108=⟨1,.live,1,((qhg K y).take i++K.drop i).map qab,false⟩∧i≤64) (fun i=>64 - i) (fun _=>some (.slice 1 ((qhg K y).map qab),[])) ?_ 0 _ _ ⟨rfl,rfl,rfl,rfl,rfl,by omega⟩)
 rintro i f H ⟨h1,h5,h10,h11,hH,hi⟩ ih
 by_cases hl:i<64
 ·have hc:=qxz K y i (by omega)
  have hs:=qxB K y i (by omega)
  have hn:=qxA K y i
  obtain ⟨L,hL⟩:∃L,L=(qhg K y).take i++K.drop i:=⟨_,rfl⟩
  simp only [←hL]at hH hc hs hn
  simp -implicitDefEqProofs -dsimp +contextual (maxSteps:=9999999) (disch:=first | omega | simp only [go_sem]<;>omega | refine ib ?_;kernel_rfl) only [go_sem,seval,↓reduceIte,h1,h5,h10,h11,hH,hl,hn,hk,hc]
  exact ih (i+1) _ _ ⟨h1,h5,h10,rfl,by rw [←hs];rfl,by omega⟩ (by omega)
 ·obtain rfl:i=64:=by omega
  rw [List.take_of_length_le (by simp [qb2,hk]),List.drop_of_length_le (by omega),List.append_nil]at hH
  simp -implicitDefEqProofs -dsimp +contextual (maxSteps:=9999999) (disch:=first | omega | simp only [go_sem]<;>omega | refine ib ?_;kernel_rfl) only [go_sem,seval,↓reduceIte,h1,h5,h10,h11,hH]
@[go_sem] theorem qIN (k:List UInt8) (h:k.length≤1000000):fn C 266 [] [.slice 1 (k.map qab),.int .u8 54]=some (.slice 1 ((qhg (qi6 k) 54).map qab),[]):=qKb k 54 h
@[go_sem] theorem qIO (k:List UInt8) (h:k.length≤1000000):fn C 266 [] [.slice 1 (k.map qab),.int .u8 92]=some (.slice 1 ((qhg (qi6 k) 92).map qab),[]):=qKb k 92 h
theorem qMO (k:List UInt8) (rs:List (List AVal)) (ps:List (List UInt8)) (hr:rs.map qcK=ps.map qdS) (ho:qcb rs=true) (hc:rs.all qbN=true) (hp:ps.length≤900) (h:k.length≤1000000) (hf:ps.flatten.length≤500000):fn C 240 [] [.slice 1 (k.map qab),.slice 1 rs]=some (.slice 1 ((qBK k ps.flatten).map qab),[]):=by
 rw [qaa Tryz.func240 rfl rfl Tryz.results240 qEo.1 rfl rfl (by kernel_rfl)]
 have hrl:rs.length=ps.length:=by have:=congrArg List.length hr;simpa using this
 have hcc:=qpP (qhg (qi6 k) 54) rs ps hr (by omega) (by rw [List.length_append,qb2,qi0];omega)
 simp -implicitDefEqProofs -dsimp +contextual (maxSteps:=9999999) (disch:=first | omega | simp only [go_sem]<;>omega | refine ib ?_;kernel_rfl) only [go_sem,seval,↓reduceIte,hcc,ho,hc]
 rfl
@[go_sem] theorem qN8 (k m:List UInt8) (h:k.length≤1000000) (hf:m.length≤500000):fn C 191 [] [.slice 1 (k.map qab),.slice 1 (m.map qab)]=some (.slice 1 ((qBK k m).map qab),[]):=by
 rw [qaa Tryz.func191 rfl rfl Tryz.results191 qDZ.1 rfl rfl (by kernel_rfl)]
 have hc:=qMO k [[.slice 1 (m.map qab)]] [m] rfl rfl (by simp only [go_sem]) (by simp) h (by simpa using hf)
 simp only [List.flatten_cons,List.flatten_nil,List.append_nil]at hc
 simp -implicitDefEqProofs -dsimp +contextual (maxSteps:=9999999) (disch:=first | omega | simp only [go_sem]<;>omega | refine ib ?_;kernel_rfl) only [go_sem,seval,↓reduceIte,hc]
@[go_sem] theorem qMP (k m:List UInt8) (h:k.length≤1000000) (hf:m.length≤500000):fn C 273 [] [.slice 1 (k.map qab),.slice 1 (m.map qab)]=some (.slice 1 ((qBK k m).map qab),[]):=by
 rw [qaa Tryz.func273 rfl rfl Tryz.results273 qEN.1 rfl rfl (by kernel_rfl)]
 simp -implicitDefEqProofs -dsimp +contextual (maxSteps:=9999999) (disch:=first | omega | simp only [go_sem]<;>omega | refine ib ?_;kernel_rfl) only [go_sem,seval,↓reduceIte]
 have hk:=qi0 k
 rw [qBK]
 generalize qi6 k=K at *
 have a54:=fun i (hi:i<K.length)=>qhb K 54 i hi
 have a92:=fun i (hi:i<K.length)=>qhb K 92 i hi
 have l54:=qb2 K 54
 have l92:=qb2 K 92
 refine (qaj (fun (i:Nat) f H=>f 1= .slice 1 (m.map qab)∧f 5= .osl 110 1 0 64∧f 8= .int .i64 (i:Int)∧H 110=⟨1,.live,1,K.map qab,false⟩∧((i=0∧f 6= .sc (.slice none 0 0)∧f 7= .sc (.slice none 0 0))∨(∃g g',f 6= .osl 122 g 0 i∧f 7= .osl 130 g' 0 i∧H 122=⟨g,.live,1,((qhg K 54).take i).map qab,false⟩∧H 130=⟨g',.live,1,((qhg K 92).take i).map qab,false⟩))∧i≤64) (fun i=>64 - i) (fun _=>some (.slice 1 ((qdF (qhg K 92++qdF (qhg K 54++m))).map qab),[])) ?_ 0 _ _ ⟨rfl,rfl,rfl,rfl,.inl ⟨rfl,rfl,rfl⟩,by omega⟩)
 rintro i f H ⟨h1,h5,h8,hH,h67,hi⟩ ih
 by_cases hl:i<64
 ·have b54:=a54 i (by omega)
  have b92:=a92 i (by omega)
  rcases h67 with ⟨rfl,h6,h7⟩|⟨g,g',h6,h7,G6,G7⟩
  ·simp -implicitDefEqProofs -dsimp +contextual (maxSteps:=9999999) (disch:=first | omega | simp only [go_sem]<;>omega | refine ib ?_;kernel_rfl) only [go_sem,seval,↓reduceIte,h1,h5,h6,h7,h8,hH,hl,hk]
   exact ih 1 _ _ ⟨h1,h5,rfl,hH,.inr ⟨_,_,rfl,rfl,by rw [b54];rfl,by rw [b92];rfl⟩,by omega⟩ (by omega)
  ·simp -implicitDefEqProofs -dsimp +contextual (maxSteps:=9999999) (disch:=first | omega | simp only [go_sem]<;>omega | refine ib ?_;kernel_rfl) only [go_sem,seval,↓reduceIte,h1,h5,h6,h7,h8,hH,hl,hk,G6,G7,l54,l92]
   exact ih (i+1) _ _ ⟨h1,h5,rfl,hH,.inr ⟨_,_,rfl,rfl,by rw [b54];rfl,by rw [b92];rfl⟩,by omega⟩ (by omega)
 ·obtain rfl:i=64:=by omega
  rcases h67 with ⟨h0,h6,h7⟩|⟨g,g',h6,h7,G6,G7⟩
  ·omega
  ·rw [List.take_of_length_le (by omega)]at G6 G7
   simp -implicitDefEqProofs -dsimp +contextual (maxSteps:=9999999) (disch:=first | omega | simp only [go_sem]<;>omega | refine ib ?_;kernel_rfl) only [go_sem,seval,↓reduceIte,h1,h5,h6,h7,h8,hH,hk,G6,G7,l54,l92]
def qdU (l:List UInt8) (m:Nat):List UInt8:=l.take m++List.replicate (l.length - m) 0
theorem qp7 (l:List UInt8) (m:Nat) (h:m≤l.length):(qdU l m).length=l.length:=by simp [qdU];omega
theorem qm0 (l:List UInt8):qdU l 0=List.replicate l.length 0:=by simp [qdU]
theorem qp8 (l:List UInt8) (m:Nat) (h:l.length≤m):qdU l m=l:=by simp [qdU,List.take_of_length_le h,show l.length - m=0 by omega]
theorem qp9 (l:List UInt8) (m:Nat) (h:m<l.length):(qdU l m).set m l[m]=qdU l (m+1):=by
 unfold qdU
 rw [List.set_append_right _ _ (by simp;omega),show l.length - m=(l.length - (m+1))+1 by omega,List.replicate_succ,List.length_take,Nat.min_eq_left (by omega),Nat.sub_self,List.set_cons_zero,List.take_succ_eq_append_getElem h,List.append_assoc]
 rfl
def qdV (l:List UInt8):UInt8:=l.foldl (· ||| ·) 0
theorem qxC (a b:UInt8):a ||| b=0↔a=0∧b=0:=by
 have h:=@UInt8.toBitVec_inj (a ||| b) 0
 rw [←h,←@UInt8.toBitVec_inj a 0,←@UInt8.toBitVec_inj b 0]
 simp [UInt8.toBitVec_or]
theorem qkT (l:List UInt8):∀a:UInt8,l.foldl (· ||| ·) a=0↔a=0∧∀x∈l,x=0:=by
 induction l with
 | nil=>intro a;simp
 | cons x l ih=>intro a;rw [List.foldl_cons,ih,qxC];simp [and_assoc]
theorem qm1 (l:List UInt8):qdV l=0↔∀x∈l,x=0:=by rw [qdV,qkT];simp
@[go_sem] theorem qN9 (l:List UInt8) (hm:l.length≤1000000000):fn C 290 [] [.slice 1 (l.map qab)]=some (.int .u8 ((qdV l).toNat:Int),[]):=by
 rw [qaa Tryz.func290 rfl rfl Tryz.results290 qEY.1 rfl rfl (by kernel_rfl)]
 simp -implicitDefEqProofs -dsimp +contextual (maxSteps:=9999999) (disch:=first | omega | simp only [go_sem]<;>omega | refine ib ?_;kernel_rfl) only [go_sem,seval,↓reduceIte]
 refine (qaj (fun i f H=>f 3= .int .u8 ((qdV (l.take i)).toNat:Int)∧f 6= .slice 1 (l.map qab)∧f 7= .int .i64 l.length∧f 8= .int .i64 (i:Nat)∧i≤l.length) (fun i=>l.length - i) (fun _=>some (.int .u8 ((qdV l).toNat:Int),[])) ?_ 0 _ _ ⟨rfl,rfl,rfl,rfl,by omega⟩)
 rintro i f H ⟨f3,f6,f7,f8,hi⟩ ih
 by_cases hl:i<l.length
 ·simp -implicitDefEqProofs -dsimp +contextual (maxSteps:=9999999) (disch:=first | omega | simp only [go_sem]<;>omega | refine ib ?_;kernel_rfl) only [go_sem,seval,↓reduceIte,f3,f6,f7,f8,hl]
  refine ih (i+1) _ _ ⟨?_,f6,f7,rfl,by omega⟩ (by omega)
  have e:qdV (l.take (i+1))=qdV (l.take i) ||| l[i]:=by
   rw [List.take_succ_eq_append_getElem hl];simp only [qdV,List.foldl_append,List.foldl_cons,List.foldl_nil]
  rw [e];rfl
 ·obtain rfl:i=l.length:=by omega
  simp -implicitDefEqProofs -dsimp +contextual (maxSteps:=9999999) (disch:=first | omega | simp only [go_sem]<;>omega | refine ib ?_;kernel_rfl) only [go_sem,seval,↓reduceIte,f3,f6,f7,f8,hl]
@[go_sem] theorem qOa (l:List UInt8) (hm:l.length≤1000000000):fn C 282 [] [.slice 1 (l.map qab)]=some (.bool (l.all (· == 0)),[]):=by
 rw [qaa Tryz.func282 rfl rfl Tryz.results282 qES.1 rfl rfl (by kernel_rfl)]
 simp -implicitDefEqProofs -dsimp +contextual (maxSteps:=9999999) (disch:=first | omega | simp only [go_sem]<;>omega | refine ib ?_;kernel_rfl) only [go_sem,seval,↓reduceIte]
 refine qas ?_
 rw [decide_eq_true_eq,List.all_eq_true]
 have:=qm1 l
 rw [←UInt8.toNat_inj]at this
 simpa using this
@[go_sem] theorem qOb (a b:List UInt8) (h:a.length=b.length) (hm:a.length≤1000000000):fn C 283 [] [.slice 1 (a.map qab),.slice 1 (b.map qab)]=some (.slice 1 ((List.zipWith (· ^^^ ·) a b).map qab),[]):=by
 rw [qaa Tryz.func283 rfl rfl Tryz.results283 qET.1 rfl rfl (by kernel_rfl)]
 simp -implicitDefEqProofs -dsimp +contextual (maxSteps:=9999999) (disch:=first | omega | simp only [go_sem]<;>omega | refine ib ?_;kernel_rfl) only [go_sem,seval,↓reduceIte,h,ite_self]
 obtain ⟨A,hA⟩:∃A,A=List.zipWith (· ^^^ ·) a b:=⟨_,rfl⟩
 have hl:A.length=b.length:=by rw [hA];simp [h]
 have hget:∀(i:Nat) (h1:i<A.length) (h2:i<a.length) (h3:i<b.length),A[i]=a[i] ^^^ b[i]:=fun i h1 h2 h3=>by subst hA;simp
 have z1:=qm0 A
 rw [hl]at z1
 rw [←z1,←hA]
 refine qaj (fun i f H=>f 0= .slice 1 (a.map qab)∧f 1= .slice 1 (b.map qab)∧f 6= .osl 114 1 0 b.length∧f 15= .int .i64 b.length∧f 16= .int .i64 (i:Nat)∧H 114=⟨1,.live,1,(qdU A i).map qab,true⟩∧i≤b.length) (fun i=>b.length - i) (fun _=>some (.slice 1 (A.map qab),[])) ?_ 0 _ _ ⟨rfl,rfl,rfl,rfl,rfl,rfl,by omega⟩
 rintro i f H ⟨f0,f1,f6,f15,f16,H114,hi⟩ ih
 have hf:=qp7 A i (by omega)
 by_cases hlt:i<b.length
 ·simp -implicitDefEqProofs -dsimp +contextual (maxSteps:=9999999) (disch:=first | omega | simp only [go_sem]<;>omega | refine ib ?_;kernel_rfl) only [go_sem,seval,↓reduceIte,f0,f1,f6,f15,f16,H114,hlt,hf]
  rw [←hget i (by omega) (by omega) hlt,qp9 _ _ (by omega)]
  exact ih (i+1) _ _ ⟨f0,f1,f6,f15,rfl,rfl,by omega⟩ (by omega)
 ·have e:qdU A b.length=A:=qp8 _ _ (by omega)
  obtain rfl:i=b.length:=by omega
  simp -implicitDefEqProofs -dsimp +contextual (maxSteps:=9999999) (disch:=first | omega | simp only [go_sem]<;>omega | refine ib ?_;kernel_rfl) only [go_sem,seval,↓reduceIte,f0,f1,f6,f15,f16,H114,hlt,hf,e]
theorem qBL (a b:List UInt8) (h:a.length=b.length):(List.zipWith (· ^^^ ·) a b).all (· == 0)=decide (a=b):=by
 induction a generalizing b with
 | nil=>cases b<;>simp at h ⊢
 | cons x a ih=>
  cases b with
  | nil=>simp at h
  | cons y b=>
   simp only [List.zipWith_cons_cons,List.all_cons,ih b (by simpa using h),List.cons.injEq]
   rw [Bool.eq_iff_iff]
   simp [UInt8.xor_eq_zero_iff]
@[go_sem] theorem qOc (a b:List UInt8) (hm:a.length≤1000000000):fn C 269 [] [.slice 1 (a.map qab),.slice 1 (b.map qab)]=some (.bool (decide (a=b)),[]):=by
 rw [qaa Tryz.func269 rfl rfl Tryz.results269 qEJ.1 rfl rfl (by kernel_rfl)]
 by_cases h:a.length=b.length
 ·have hz:(List.zipWith (· ^^^ ·) a b).length≤1000000000:=by simp;omega
  simp -implicitDefEqProofs -dsimp +contextual (maxSteps:=9999999) (disch:=first | omega | simp only [go_sem]<;>omega | refine ib ?_;kernel_rfl) only [go_sem,seval,↓reduceIte,h]
  rw [qBL a b h]
 ·simp -implicitDefEqProofs -dsimp +contextual (maxSteps:=9999999) (disch:=first | omega | simp only [go_sem]<;>omega | refine ib ?_;kernel_rfl) only [go_sem,seval,↓reduceIte,h]
  have:a≠b:=fun e=>h (by rw [e])
  simp [this]
def qm2 (e:En):List UInt8:=qhu e.name++beN 8 e.id++beN 4 (qA9 e.fr)++beN 4 (qA9 e.un)++beN 2 (qA9 e.ix)
@[go_sem] theorem qkU (e:En):(qm2 e).length=e.name.length+20:=by simp [qm2,qeA,qtr]
@[go_sem] theorem qMQ (e:En) (h:e.ok) (hn:e.name.length≤60000):fn C 192 [] [.agg [.str e.name,.int .u64 (e.id:Int),.int .i64 e.fr,.int .i64 e.un,.int .i64 e.ix,.str e.tag]]=some (.usl 1 ((qm2 e).map qab),[]):=by
 rw [qaa Tryz.func192 rfl rfl Tryz.results192 qD0.1 rfl rfl (by kernel_rfl)]
 have h1:=qfx e.fr;have h2:=qfx e.un;have h3:=qfx e.ix
 have h4:=h.id
 simp -implicitDefEqProofs -dsimp +contextual (maxSteps:=9999999) (disch:=first | omega | simp only [go_sem]<;>omega | refine ib ?_;kernel_rfl) only [go_sem,seval,↓reduceIte,qdb e.fr,qdb e.un,qdb e.ix]
 rfl
@[go_sem] theorem qMR (e:En) (h:e.ok) (hn:e.name.length≤60000):fn C 274 [] [.agg [.str e.name,.int .u64 (e.id:Int),.int .i64 e.fr,.int .i64 e.un,.int .i64 e.ix,.str e.tag]]=some (.usl 1 ((qm2 e).map qab),[]):=by
 rw [qaa Tryz.func274 rfl rfl Tryz.results274 qEO.1 rfl rfl (by kernel_rfl)]
 have h1:=qfx e.fr;have h2:=qfx e.un;have h3:=qfx e.ix
 have h4:=h.id
 simp -implicitDefEqProofs -dsimp +contextual (maxSteps:=9999999) (disch:=first | omega | simp only [go_sem]<;>omega | refine ib ?_;kernel_rfl) only [go_sem,seval,↓reduceIte,qdb e.fr,qdb e.un,qdb e.ix]
 rfl
def qde {α:Type} (q:α→Bool) (l:List α):Int:=if l.findIdx q<l.length then (l.findIdx q:Nat) else -1
theorem qcp {α:Type} {q:α→Bool} {l:List α} {i:Nat} (h:i<l.length) (hn:(l.take i).any q=false) (he:q l[i]=true):qde q l=i:=by
 have:l.findIdx q=i:=by
  rw [List.findIdx_eq h]
  refine ⟨he,fun j hj=>?_⟩
  exact qb1 hn l[j] (by rw [List.mem_take_iff_getElem];exact ⟨j,by omega,rfl⟩)
 unfold qde
 rw [this,if_pos h]
theorem qbP {α:Type} {q:α→Bool} {l:List α} (hn:l.any q=false):qde q l= -1:=by
 unfold qde
 rw [if_neg]
 intro hlt
 have:=List.findIdx_getElem (w:=hlt)
 rw [qb1 hn _ (List.getElem_mem hlt)]at this
 cases this
theorem qcU {α:Type} (q:α→Bool) (l:List α):(∃(j:Nat) (h:j<l.length),q l[j]=true∧(l.take j).any q=false∧qde q l=j)∨(l.any q=false∧qde q l= -1):=by
 rcases Bool.eq_false_or_eq_true (l.any q)with h | h
 ·left
  have hlt:l.findIdx q<l.length:=by
   rw [List.findIdx_lt_length];rw [List.any_eq_true]at h;exact h
  have hn:(l.take (l.findIdx q)).any q=false:=by
   rw [List.any_eq_false]
   intro x hx
   rw [List.mem_take_iff_getElem]at hx
   obtain ⟨j,hj,rfl⟩:=hx
   have:=List.not_of_lt_findIdx (p:=q) (xs:=l) (i:=j) (by omega)
   simpa using this
  exact ⟨_,hlt,List.findIdx_getElem (w:=hlt),hn,qcp hlt hn (List.findIdx_getElem (w:=hlt))⟩
 ·exact .inr ⟨h,qbP h⟩
theorem qa1 {α:Type} {a b:List α} {i:Nat} (ha:i<a.length) (hb:i<b.length) (ht:a.take i=b.take i) (he:a[i]=b[i]):a.take (i+1)=b.take (i+1):=by
 rw [List.take_succ_eq_append_getElem ha,List.take_succ_eq_append_getElem hb,ht,he]
theorem qbe {α:Type} {a b:List α} (hl:a.length=b.length) (ht:a.take a.length=b.take a.length):a=b:=by
 rwa [List.take_length,hl,List.take_length]at ht
theorem qcL {α:Type} {a b:List α} {i:Nat} (ha:i<a.length) (hb:i<b.length) (he:¬a[i]=b[i]):¬a=b:=fun e=>he (by subst e;rfl)
structure Ac where
 ans:Bool
 to:En
 m:Ms
 why:Int
 job:Int
deriving DecidableEq
theorem Ac.eq_iff (x y:Ac):x=y↔x.ans=y.ans∧x.to=y.to∧x.why=y.why∧x.job=y.job∧x.m=y.m:=
 ⟨fun h=>by subst h;simp,fun h=>by cases x;cases y;simp_all⟩
def Ac.cs (a:Ac):List AVal:=[.bool a.ans,.str a.to.name,.int .u64 (a.to.id:Int),.int .i64 a.to.fr,.int .i64 a.to.un,.int .i64 a.to.ix,.str a.to.tag,.int .i64 a.m.kind,.int .i64 a.m.rid,.int .i64 a.m.ver,.int .i64 a.m.err,.int .u64 (a.m.id:Int),.bool a.m.has,.bool a.m.gone,.str a.m.key,.str a.m.val,.slice 6 (a.m.ents.map En.cs),.slice 4 (a.m.items.map It.cs),.int .i64 a.why,.int .i64 a.job]
@[go_sem] theorem Ac.cs_eq (a:Ac):a.cs=[.bool a.ans,.str a.to.name,.int .u64 (a.to.id:Int),.int .i64 a.to.fr,.int .i64 a.to.un,.int .i64 a.to.ix,.str a.to.tag,.int .i64 a.m.kind,.int .i64 a.m.rid,.int .i64 a.m.ver,.int .i64 a.m.err,.int .u64 (a.m.id:Int),.bool a.m.has,.bool a.m.gone,.str a.m.key,.str a.m.val,.slice 6 (a.m.ents.map En.cs),.slice 4 (a.m.items.map It.cs),.int .i64 a.why,.int .i64 a.job]:=rfl
@[go_sem] theorem qIP (l:List Ac):qcb (l.map Ac.cs)=true:=qcu _ _ fun _=>rfl
@[go_sem] theorem qIQ (l:List Ac):(l.map Ac.cs).all qbN=true:=qaV _ (fun _=>rfl) l
def qdf (me:En) (a b:Pr):Bool:=if qa7 me.id a.e.id=qa7 me.id b.e.id then Op.bytesLess a.e.name b.e.name else decide (qa7 me.id a.e.id<qa7 me.id b.e.id)
@[go_sem] theorem qMS (me:En) (a b:Pr) (h1:U64 me.id) (h2:U64 a.e.id) (h3:U64 b.e.id):fn C 185 [] [.agg [.str me.name,.int .u64 (me.id:Int),.int .i64 me.fr,.int .i64 me.un,.int .i64 me.ix,.str me.tag],.agg [.str a.e.name,.int .u64 (a.e.id:Int),.int .i64 a.e.fr,.int .i64 a.e.un,.int .i64 a.e.ix,.str a.e.tag,.int .i64 a.since,.int .i64 a.under],.agg [.str b.e.name,.int .u64 (b.e.id:Int),.int .i64 b.e.fr,.int .i64 b.e.un,.int .i64 b.e.ix,.str b.e.tag,.int .i64 b.since,.int .i64 b.under]]=some (.bool (qdf me a b),[]):=by
 rw [qaa Tryz.func185 rfl rfl Tryz.results185 qDU.1 rfl rfl (by kernel_rfl)]
 simp -implicitDefEqProofs -dsimp +contextual (maxSteps:=9999999) (disch:=first | omega | simp only [go_sem]<;>omega | refine ib ?_;kernel_rfl) only [go_sem,seval,↓reduceIte]
 (repeat' (refine qae (fun _=>?_) (fun _=>?_)))
 ·rename_i h;exact qas (by simp [qdf,h])
 ·rename_i h;exact qas (by simp [qdf,h])
structure Nd.mid (n:Nd) (k:Nat):Prop where
 pl:n.pred.length≤k
 ll:n.list.length≤k
 fl:n.fingers.length≤k
 sl:n.sessions.length≤k
 dl:n.pends.length≤k
 il:n.items.length≤k
 jl:n.jobs.length≤k
 wl:n.draws.length≤k
 rl:n.results.length≤k
 pe:∀p∈n.pends,p.m.ents.length≤k
 pi:∀p∈n.pends,p.m.items.length≤k
 ja:∀j∈n.jobs,j.asked.length≤k
 ik:∀x∈n.items,x.k.length≤9223372036854775807
theorem Nd.mid.le {n:Nd} {k m:Nat} (h:n.mid k) (hk:k≤m):n.mid m:=
 ⟨Nat.le_trans h.pl hk,Nat.le_trans h.ll hk,Nat.le_trans h.fl hk,Nat.le_trans h.sl hk,Nat.le_trans h.dl hk,Nat.le_trans h.il hk,Nat.le_trans h.jl hk,Nat.le_trans h.wl hk,Nat.le_trans h.rl hk,
  fun p hp=>Nat.le_trans (h.pe p hp) hk,fun p hp=>Nat.le_trans (h.pi p hp) hk,fun j hj=>Nat.le_trans (h.ja j hj) hk,h.ik⟩
theorem Nd.small.mid {n:Nd} (h:n.small):n.mid 70:=
 ⟨by have:=h.pl;omega,by have:=h.ll;omega,h.fl,by have:=h.sl;omega,by have:=h.dl;omega,by have:=h.il;omega,by have:=h.jl;omega,by have:=h.wl;omega,by have:=h.rl;omega,
  fun p hp=>by have:=(h.d p hp).m.e;omega,fun p hp=>by have:=(h.d p hp).m.i;omega,fun j hj=>by have:=(h.j j hj).a;omega,fun x hx=>by have:=(h.i x hx).k;omega⟩
def enZ:En:=⟨[],0,0,0,0,[]⟩
def jbZ:Jb:=⟨0,0,0,0,0,0,[],[],enZ,qa6,0,0,[],enZ,0,0⟩
def msZ:Ms:=⟨0,0,0,0,0,false,false,[],[],[],[]⟩
def qdW (id:Int) (j:Jb):Bool:=decide (j.id=id)
def qbW (l:List Jb) (id:Int):Int:=qde (qdW id) l
def qBM (l:List Jb) (i:Nat):Jb:=l.getD i jbZ
theorem qdu {l:List Jb} {i:Nat} (h:i<l.length):qBM l i=l[i]:=by simp [qBM,h]
def qm3 (l:List Rs):List Rs:=l.drop (l.length - 16)
def qFX (id:Int) (j:Jb) (x:It) (has:Bool) (e:Int):Rs:=⟨id,j.kind,x.n,j.key,x.v,has,x.g,e⟩
def qaW (n:Nd) (id:Int) (x:It) (has:Bool) (e:Int):Nd:=
 if 0≤qbW n.jobs id then { n with jobs:=n.jobs.eraseIdx (qbW n.jobs id).toNat,results:=qm3 (n.results++[qFX id (qBM n.jobs (qbW n.jobs id).toNat) x has e]) } else n
def qb5 (back:En) (rid:Int) (x:It) (e:Int):Ac:=⟨true,back,{ msZ with kind:=9,rid:=rid,ver:=x.n,err:=e },0,0⟩
def qb6 (n:Nd) (back:En) (rid job:Int) (x:It) (has:Bool) (e:Int):Nd×List Ac:=
 if job=0 then (n,[qb5 back rid x e]) else (qaW n job x has e,[])
def qcM (n:Int):Int:=if n<0 then 0 else if 2<n then 2 else n
def qhc (e:En) (x:It) (id:Int):Ac:=⟨false,e,{ msZ with kind:=12,items:=[x] },7,id⟩
def qdv (id:Int):List Pr→Jb→Jb×List Ac
 | [],j=>(j,[])
 | p::l,j=>if 2≤qcM j.acks+qcM j.waits then (j,[]) else if p.e.name∈j.asked then qdv id l j
   else ((qdv id l { j with waits:=qcM j.waits+1,asked:=j.asked++[p.e.name] }).1,qhc p.e j.item id::(qdv id l { j with waits:=qcM j.waits+1,asked:=j.asked++[p.e.name] }).2)
def qeo (l:List Jb) (id:Int):Int:=if 0≤qbW l id∧(qBM l (qbW l id).toNat).kind=4 then qbW l id else -1
def qaN (n:Nd) (i:Nat) (q:Jb×List Ac):Nd×List Ac:=
 if 0<q.1.waits then ({ n with jobs:=n.jobs.set i q.1 },q.2)
 else ((qb6 { n with jobs:=n.jobs.eraseIdx i } q.1.back q.1.backRid q.1.backJob q.1.item (!q.1.item.g) 0).1,q.2++(qb6 { n with jobs:=n.jobs.eraseIdx i } q.1.back q.1.backRid q.1.backJob q.1.item (!q.1.item.g) 0).2)
def qtB (n:Nd) (id:Int) (i:Nat):Nd×List Ac:=qaN n i (qdv id n.list (qBM n.jobs i))
def qhv (n:Nd) (id:Int):Nd×List Ac:=if 0≤qeo n.jobs id then qtB n id (qeo n.jobs id).toNat else (n,[])
def qbs (id:Int):Int:=if id<0∨1073741824≤id then 1 else id+1
def qfC (n:Nd) (x:It) (back:En) (rid job:Int):Jb:={ jbZ with id:=qbs n.jobId,kind:=4,til:=n.clock+192,item:=x,back:=back,backRid:=rid,backJob:=job }
def qaK (n:Nd) (key val:List UInt8) (gone:Bool):Int:=if 8≤n.jobs.length then 41 else (qcN n.items key val gone).2.2
def qat (n:Nd) (key val:List UInt8) (gone:Bool) (back:En) (rid job:Int):Nd:=
 { n with items:=(qcN n.items key val gone).1,jobId:=qbs n.jobId,jobs:=n.jobs++[qfC n (qcN n.items key val gone).2.1 back rid job] }
def qdX (n:Nd) (key val:List UInt8) (gone:Bool) (back:En) (rid job:Int):Nd×List Ac:=
 if qaK n key val gone=0 then qhv (qat n key val gone back rid job) (qbs n.jobId) else qb6 n back rid job qa6 false (qaK n key val gone)
theorem qhd {α:Type} (f:α→List AVal) (l:List α) (i:Nat) (h:i<l.length):(l.map f).set i (f l[i])=l.map f:=by
 rw [←List.map_set,List.set_getElem_self]
theorem qcg {α:Type} (l:List α) (i:Nat):l.take i++l.drop (i+1)=l.eraseIdx i:=List.eraseIdx_eq_take_drop_succ .. |>.symm
theorem qch (l:List Jb) (id:Int):(∃(j:Nat) (h:j<l.length),l[j].id=id∧(l.take j).any (qdW id)=false∧qbW l id=(j:Int))∨(l.any (qdW id)=false∧qbW l id= -1):=by
 rcases qcU (qdW id) l with ⟨j,hj,h1,h2,h3⟩|h
 ·exact .inl ⟨j,hj,by simpa [qdW]using h1,h2,h3⟩
 ·exact .inr h
theorem qdg (l:List Jb) (i:Nat) (h:i<l.length):(l.map Jb.cs)[i]?=some [.int .i64 l[i].id,.int .i64 l[i].kind,.int .i64 l[i].phase,.int .i64 l[i].hops,.int .i64 l[i].tries,.int .i64 l[i].til,.str l[i].key,.str l[i].val,.str l[i].owner.name,.int .u64 (l[i].owner.id:Int),.int .i64 l[i].owner.fr,.int .i64 l[i].owner.un,.int .i64 l[i].owner.ix,.str l[i].owner.tag,.str l[i].item.k,.str l[i].item.v,.int .i64 l[i].item.n,.bool l[i].item.g,.int .i64 l[i].acks,.int .i64 l[i].waits,.slice 1 (l[i].asked.map qaG),.str l[i].back.name,.int .u64 (l[i].back.id:Int),.int .i64 l[i].back.fr,.int .i64 l[i].back.un,.int .i64 l[i].back.ix,.str l[i].back.tag,.int .i64 l[i].backRid,.int .i64 l[i].backJob]:=by
 rw [List.getElem?_map,List.getElem?_eq_getElem h];rfl
def Nd.ocs (n:Nd):List AVal:=[.str n.me.name,.int .u64 (n.me.id:Int),.int .i64 n.me.fr,.int .i64 n.me.un,.int .i64 n.me.ix,.str n.me.tag,.int .i64 n.clock,.str n.psk,.int .i64 n.gateI,.str n.gateK,.bool n.ready,.slice 8 (n.pred.map Pr.cs),.slice 8 (n.list.map Pr.cs),.slice 9 (n.fingers.map Fg.cs),.usl 20 (n.sessions.map Se.cs),.usl 23 (n.pends.map Pd.cs),.slice 4 (n.items.map It.cs),.usl 29 (n.jobs.map Jb.cs),.int .i64 n.rid,.int .i64 n.jobId,.slice 1 (n.draws.map qaw),.usl 8 (n.results.map Rs.cs)]
@[go_sem] theorem Nd.ocs_eq (n:Nd):n.ocs=[.str n.me.name,.int .u64 (n.me.id:Int),.int .i64 n.me.fr,.int .i64 n.me.un,.int .i64 n.me.ix,.str n.me.tag,.int .i64 n.clock,.str n.psk,.int .i64 n.gateI,.str n.gateK,.bool n.ready,.slice 8 (n.pred.map Pr.cs),.slice 8 (n.list.map Pr.cs),.slice 9 (n.fingers.map Fg.cs),.usl 20 (n.sessions.map Se.cs),.usl 23 (n.pends.map Pd.cs),.slice 4 (n.items.map It.cs),.usl 29 (n.jobs.map Jb.cs),.int .i64 n.rid,.int .i64 n.jobId,.slice 1 (n.draws.map qaw),.usl 8 (n.results.map Rs.cs)]:=rfl
theorem qdh (n:Nd) (id:Int) (x:It) (has:Bool) (e:Int):∃js rs,qaW n id x has e={ n with jobs:=js,results:=rs }:=by
 unfold qaW;split
 ·exact ⟨_,_,rfl⟩
 ·exact ⟨n.jobs,n.results,rfl⟩
theorem qFY (l:List Pd) (i:Nat) (h:i<l.length):(l.map Pd.cs)[i]?=some [.int .i64 l[i].rid,.int .i64 l[i].why,.int .i64 l[i].job,.int .i64 l[i].til,.int .i64 l[i].tries,.int .u64 (l[i].session:Int),.str l[i].to.name,.int .u64 (l[i].to.id:Int),.int .i64 l[i].to.fr,.int .i64 l[i].to.un,.int .i64 l[i].to.ix,.str l[i].to.tag,.int .i64 l[i].m.kind,.int .i64 l[i].m.rid,.int .i64 l[i].m.ver,.int .i64 l[i].m.err,.int .u64 (l[i].m.id:Int),.bool l[i].m.has,.bool l[i].m.gone,.str l[i].m.key,.str l[i].m.val,.slice 6 (l[i].m.ents.map En.cs),.slice 4 (l[i].m.items.map It.cs)]:=by
 rw [List.getElem?_map,List.getElem?_eq_getElem h];rfl
@[go_sem] theorem qMT (m:Ms) (h1:m.ents.length≤1000000) (h2:m.items.length≤1000000):fn C 148 [] [.agg [.int .i64 m.kind,.int .i64 m.rid,.int .i64 m.ver,.int .i64 m.err,.int .u64 (m.id:Int),.bool m.has,.bool m.gone,.str m.key,.str m.val,.slice 6 (m.ents.map En.cs),.slice 4 (m.items.map It.cs)]]=some (.agg [.int .i64 m.kind,.int .i64 m.rid,.int .i64 m.ver,.int .i64 m.err,.int .u64 (m.id:Int),.bool m.has,.bool m.gone,.str m.key,.str m.val,.slice 6 (m.ents.map En.cs),.slice 4 (m.items.map It.cs)],[]):=by
 rw [qaa Tryz.func148 rfl rfl Tryz.results148 qDw.1 rfl rfl (by kernel_rfl)]
 simp -implicitDefEqProofs -dsimp +contextual (maxSteps:=9999999) (disch:=first | omega | simp only [go_sem]<;>omega | refine ib ?_;kernel_rfl) only [go_sem,seval,↓reduceIte]
@[go_sem] theorem e57 (l:List Pd) (hl:l.length≤1000000) (h1:∀p∈l,p.m.ents.length≤1000000) (h2:∀p∈l,p.m.items.length≤1000000):fn C 57 [] [.slice 23 (l.map Pd.cs)]=some (.usl 23 (l.map Pd.cs),[]):=by
 rw [qaa Tryz.func57 rfl rfl Tryz.results57 qJj.1 rfl rfl (by kernel_rfl)]
 simp -implicitDefEqProofs -dsimp +contextual (maxSteps:=9999999) (disch:=first | omega | simp only [go_sem]<;>omega | refine ib ?_;kernel_rfl) only [go_sem,seval,↓reduceIte]
 refine qeb l.length (fun i f H=>f 3= .osl 106 1 0 l.length∧f 8= .int .i64 (l.length:Nat)∧f 9= .int .i64 (i:Nat)∧H 106=⟨1,.live,23,l.map Pd.cs,false⟩) ?_ ?_ (by exact ⟨rfl,rfl,rfl,by simp [qac.set,qac.nil]⟩)
 ·rintro i f H hi ⟨f3,f8,f9,H1⟩ ih
  have row:=qFY l i hi
  have st:(l.map Pd.cs).set i [.int .i64 l[i].rid,.int .i64 l[i].why,.int .i64 l[i].job,.int .i64 l[i].til,.int .i64 l[i].tries,.int .u64 (l[i].session:Int),.str l[i].to.name,.int .u64 (l[i].to.id:Int),.int .i64 l[i].to.fr,.int .i64 l[i].to.un,.int .i64 l[i].to.ix,.str l[i].to.tag,.int .i64 l[i].m.kind,.int .i64 l[i].m.rid,.int .i64 l[i].m.ver,.int .i64 l[i].m.err,.int .u64 (l[i].m.id:Int),.bool l[i].m.has,.bool l[i].m.gone,.str l[i].m.key,.str l[i].m.val,.slice 6 (l[i].m.ents.map En.cs),.slice 4 (l[i].m.items.map It.cs)]=l.map Pd.cs:=qhd Pd.cs l i hi
  have c:=qMT l[i].m (h1 _ (List.getElem_mem hi)) (h2 _ (List.getElem_mem hi))
  simp -implicitDefEqProofs -dsimp +contextual (maxSteps:=9999999) (disch:=first | omega | simp only [go_sem]<;>omega | refine ib ?_;kernel_rfl) only [go_sem,seval,↓reduceIte,f3,f8,f9,H1,hi,row,c,st]
  exact ih _ _ (by exact ⟨f3,f8,rfl,rfl⟩)
 ·rintro f H ⟨f3,f8,f9,H1⟩
  simp -implicitDefEqProofs -dsimp +contextual (maxSteps:=9999999) (disch:=first | omega | simp only [go_sem]<;>omega | refine ib ?_;kernel_rfl) only [go_sem,seval,↓reduceIte,f3,f8,f9,H1]
@[go_sem] theorem e13 (n:Nd) (h:n.mid 1000000):fn C 13 [] [(aNd n)]=some (.agg [.str n.me.name,.int .u64 (n.me.id:Int),.int .i64 n.me.fr,.int .i64 n.me.un,.int .i64 n.me.ix,.str n.me.tag,.int .i64 n.clock,.str n.psk,.int .i64 n.gateI,.str n.gateK,.bool n.ready,.slice 8 (n.pred.map Pr.cs),.slice 8 (n.list.map Pr.cs),.slice 9 (n.fingers.map Fg.cs),.usl 20 (n.sessions.map Se.cs),.usl 23 (n.pends.map Pd.cs),.slice 4 (n.items.map It.cs),.usl 29 (n.jobs.map Jb.cs),.int .i64 n.rid,.int .i64 n.jobId,.slice 1 (n.draws.map qaw),.usl 8 (n.results.map Rs.cs)],[]):=by
 have:=h.pl;have:=h.ll;have:=h.fl;have:=h.sl;have:=h.dl;have:=h.il;have:=h.jl;have:=h.wl;have:=h.rl
 have pc:=e57 n.pends h.dl h.pe h.pi
 rw [qaa Tryz.func13 rfl rfl Tryz.results13 qF6.1 rfl rfl (by kernel_rfl)]
 simp -implicitDefEqProofs -dsimp +contextual (maxSteps:=9999999) (disch:=first | omega | simp only [go_sem]<;>omega | refine ib ?_;kernel_rfl) only [go_sem,seval,↓reduceIte,pc]
 refine qeb n.jobs.length (fun i f H=>f 1= .ptr 101 1 0 0∧f 2= .ptr 102 1 0 0∧f 42= .int .i64 (n.jobs.length:Nat)∧f 43= .int .i64 (i:Nat)∧
  H 101=⟨1,.live,22,[[.str n.me.name,.int .u64 (n.me.id:Int),.int .i64 n.me.fr,.int .i64 n.me.un,.int .i64 n.me.ix,.str n.me.tag,.int .i64 n.clock,.str n.psk,.int .i64 n.gateI,.str n.gateK,.bool n.ready,.slice 8 (n.pred.map Pr.cs),.slice 8 (n.list.map Pr.cs),.slice 9 (n.fingers.map Fg.cs),.osl 118 1 0 n.sessions.length,.osl 121 1 0 n.pends.length,.slice 4 (n.items.map It.cs),.osl 130 1 0 n.jobs.length,.int .i64 n.rid,.int .i64 n.jobId,.slice 1 (n.draws.map qaw),.osl 136 1 0 n.results.length]],false⟩∧(H 102).gen=1∧(H 102).mode= .live∧(∃r:List AVal,r.length=22∧(H 102).rows=[r])∧
  H 118=⟨1,.live,20,n.sessions.map Se.cs,false⟩∧H 121=⟨1,.live,23,n.pends.map Pd.cs,false⟩∧H 130=⟨1,.live,29,n.jobs.map Jb.cs,false⟩∧H 136=⟨1,.live,8,n.results.map Rs.cs,false⟩) ?_ ?_ (by exact ⟨rfl,rfl,rfl,rfl,rfl,rfl,rfl,⟨_,rfl,rfl⟩,rfl,rfl,rfl,rfl⟩)
 ·rintro i f H hi ⟨f1,f2,f42,f43,H1,H2,H2m,⟨r,hr,H2r⟩,H3,H4,H5,H6⟩ ih
  have row:=qdg n.jobs i hi
  have st:(n.jobs.map Jb.cs).set i [.int .i64 n.jobs[i].id,.int .i64 n.jobs[i].kind,.int .i64 n.jobs[i].phase,.int .i64 n.jobs[i].hops,.int .i64 n.jobs[i].tries,.int .i64 n.jobs[i].til,.str n.jobs[i].key,.str n.jobs[i].val,.str n.jobs[i].owner.name,.int .u64 (n.jobs[i].owner.id:Int),.int .i64 n.jobs[i].owner.fr,.int .i64 n.jobs[i].owner.un,.int .i64 n.jobs[i].owner.ix,.str n.jobs[i].owner.tag,.str n.jobs[i].item.k,.str n.jobs[i].item.v,.int .i64 n.jobs[i].item.n,.bool n.jobs[i].item.g,.int .i64 n.jobs[i].acks,.int .i64 n.jobs[i].waits,.slice 1 (n.jobs[i].asked.map qaG),.str n.jobs[i].back.name,.int .u64 (n.jobs[i].back.id:Int),.int .i64 n.jobs[i].back.fr,.int .i64 n.jobs[i].back.un,.int .i64 n.jobs[i].back.ix,.str n.jobs[i].back.tag,.int .i64 n.jobs[i].backRid,.int .i64 n.jobs[i].backJob]=n.jobs.map Jb.cs:=qhd Jb.cs n.jobs i hi
  have al:=h.ja _ (List.getElem_mem hi)
  simp -implicitDefEqProofs -dsimp +contextual (maxSteps:=9999999) (disch:=first | omega | simp only [go_sem]<;>omega | refine ib ?_;kernel_rfl) only [go_sem,seval,↓reduceIte,f1,f2,f42,f43,H1,H5,hi,row,st,al]
  exact ih _ _ (by exact ⟨f1,f2,f42,rfl,H1,H2,H2m,⟨r,hr,H2r⟩,H3,H4,rfl,H6⟩)
 ·rintro f H ⟨f1,f2,f42,f43,H1,H2,H2m,⟨r,hr,H2r⟩,H3,H4,H5,H6⟩
  simp -implicitDefEqProofs -dsimp +contextual (maxSteps:=9999999) (disch:=first | omega | simp only [go_sem]<;>omega | refine ib ?_;kernel_rfl) only [go_sem,seval,↓reduceIte,f1,f2,f42,f43,H1,H2,H2m,H2r,hr,H3,H4,H5,H6]
  trace_state
inductive AcC:AVal→List Ac→Prop
 | nil:AcC (.sc (.slice none 0 0)) []
 | us (l:List Ac):AcC (.usl 20 (l.map Ac.cs)) l
@[go_sem] theorem qMU (j:Jb) (id:Int):fn C 211 [] [.agg [.int .i64 j.id,.int .i64 j.kind,.int .i64 j.phase,.int .i64 j.hops,.int .i64 j.tries,.int .i64 j.til,.str j.key,.str j.val,.str j.owner.name,.int .u64 (j.owner.id:Int),.int .i64 j.owner.fr,.int .i64 j.owner.un,.int .i64 j.owner.ix,.str j.owner.tag,.str j.item.k,.str j.item.v,.int .i64 j.item.n,.bool j.item.g,.int .i64 j.acks,.int .i64 j.waits,.slice 1 (j.asked.map qaG),.str j.back.name,.int .u64 (j.back.id:Int),.int .i64 j.back.fr,.int .i64 j.back.un,.int .i64 j.back.ix,.str j.back.tag,.int .i64 j.backRid,.int .i64 j.backJob],.iptr [.int .i64 id]]=some (.bool (decide (j.id=id)),[]):=by
 rw [qaa Tryz.func211 rfl rfl Tryz.results211 qD4.1 rfl rfl (by kernel_rfl)]
 simp -implicitDefEqProofs -dsimp +contextual (maxSteps:=9999999) (disch:=first | omega | simp only [go_sem]<;>omega | refine ib ?_;kernel_rfl) only [go_sem,seval,↓reduceIte]
@[go_sem] theorem qGD (l:List Jb) (id:Int) (hl:l.length≤9223372036854775807):fn C 84 [] [.slice 29 (l.map Jb.cs),.fn (.func 211) [] [.iptr [.int .i64 id]]]=some (.int .i64 (qbW l id),[]):=by
 rw [qaa Tryz.func84 rfl rfl Tryz.results84 qHw.1 rfl rfl (by kernel_rfl)]
 simp -implicitDefEqProofs -dsimp +contextual (maxSteps:=9999999) (disch:=first | omega | simp only [go_sem]<;>omega | refine ib ?_;kernel_rfl) only [go_sem,seval,↓reduceIte]
 refine qeb l.length (fun i f H=>f 0= .slice 29 (l.map Jb.cs)∧f 1= .fn (.func 211) [] [.iptr [.int .i64 id]]∧f 7= .int .i64 l.length∧f 8= .int .i64 (i:Nat)∧H=qac.nil∧(l.take i).any (qdW id)=false) ?_ ?_ (by exact ⟨rfl,rfl,rfl,rfl,rfl,rfl⟩)
 ·rintro i f _ hi ⟨f0,f1,f7,f8,rfl,ha⟩ ih
  simp -implicitDefEqProofs -dsimp +contextual (maxSteps:=9999999) (disch:=first | omega | simp only [go_sem]<;>omega | refine ib ?_;kernel_rfl) only [go_sem,seval,↓reduceIte,f0,f1,f7,f8,hi]
  (repeat' (refine qae (fun _=>?_) (fun _=>?_)))
  ·rename_i h;rw [qbW,qcp hi ha (by simp [qdW,h])]
  ·rename_i h;exact ih _ _ ⟨f0,f1,f7,rfl,rfl,qa5 hi ha (by simp [qdW,h])⟩
 ·rintro f _ ⟨f0,f1,f7,f8,rfl,ha⟩
  simp -implicitDefEqProofs -dsimp +contextual (maxSteps:=9999999) (disch:=first | omega | simp only [go_sem]<;>omega | refine ib ?_;kernel_rfl) only [go_sem,seval,↓reduceIte,f0,f1,f7,f8]
  rw [qbW,qbP (qby ha)]
@[go_sem] theorem qOd (l:List Jb) (id:Int) (hl:l.length≤9223372036854775807):fn C 150 [] [.slice 29 (l.map Jb.cs),.int .i64 id]=some (.int .i64 (qbW l id),[]):=by
 rw [qaa Tryz.func150 rfl rfl Tryz.results150 qAK.1 rfl rfl (by kernel_rfl)]
 simp -implicitDefEqProofs -dsimp +contextual (maxSteps:=9999999) (disch:=first | omega | simp only [go_sem]<;>omega | refine ib ?_;kernel_rfl) only [go_sem,seval,↓reduceIte]
@[go_sem] theorem qOe (n:Int):fn C 225 [] [.int .i64 n]=some (.int .i64 (qcM n),[]):=by
 rw [qaa Tryz.func225 rfl rfl Tryz.results225 qEc.1 rfl rfl (by kernel_rfl)]
 simp -implicitDefEqProofs -dsimp +contextual (maxSteps:=9999999) (disch:=first | omega | simp only [go_sem]<;>omega | refine ib ?_;kernel_rfl) only [go_sem,seval,↓reduceIte]
 refine congrArg (fun z=>some (AVal.int .i64 z,[])) ?_
 unfold qcM
 repeat' split
 all_goals omega
@[go_sem] theorem qOf (n:Int):fn C 167 [] [.int .i64 n]=some (.int .i64 (qbs n),[]):=by
 rw [qaa Tryz.func167 rfl rfl Tryz.results167 qDF.1 rfl rfl (by kernel_rfl)]
 simp -implicitDefEqProofs -dsimp +contextual (maxSteps:=9999999) (disch:=first | omega | simp only [go_sem]<;>omega | refine ib ?_;kernel_rfl) only [go_sem,seval,↓reduceIte]
 (repeat' (refine qae (fun _=>?_) (fun _=>?_)))
 all_goals (unfold qbs;simp [*])
theorem qtC (es:List (List AVal)) (i:Nat) (hi:i<es.length) (hl:es.length≤1000001) (h1:es.all qbN=true) (h2:qcb es=true):fn C 85 [] [.usl 29 es,.int .i64 (i:Nat),.int .i64 ((i+1:Nat):Int)]=some (.usl 29 (es.eraseIdx i),[]):=by
 rw [qah Tryz.func85 rfl rfl Tryz.results85 qJw.1 rfl rfl (by kernel_rfl)]
 have h3:qcb (es.drop (i+1))=true:=List.all_eq_true.2 fun r hr=>List.all_eq_true.1 h2 r (List.mem_of_mem_drop hr)
 simp -implicitDefEqProofs -dsimp +contextual (maxSteps:=9999999) (disch:=first | omega | simp only [go_sem]<;>omega | refine ib ?_;kernel_rfl) only [go_sem,seval,↓reduceIte,hi,h1,h2,h3]
 rw [if_pos (by omega),if_pos ⟨List.all_eq_true.2 fun r hr=>List.all_eq_true.1 h1 r (List.mem_of_mem_take hr),List.all_eq_true.2 fun r hr=>List.all_eq_true.1 h1 r (List.mem_of_mem_drop hr)⟩,qcg]
theorem qkV {α:Type} (f:α→List AVal) (l:List α) (i:Nat):(l.map f).eraseIdx i=(l.eraseIdx i).map f:=by
 rw [←qcg,←qcg,List.map_append,List.map_take,List.map_drop]
theorem qxD (l:List Jb) (i:Nat) (hi:i<l.length) (hl:l.length≤1000001):fn C 85 [] [.usl 29 (l.map Jb.cs),.int .i64 (i:Nat),.int .i64 ((i+1:Nat):Int)]=some (.usl 29 ((l.eraseIdx i).map Jb.cs),[]):=by
 rw [qtC _ i (by simpa using hi) (by simpa using hl) (qsZ l) (qsY l),qkV]
theorem qi1 (n:Nd) (A:AVal) (acts:List Ac) (hA:AcC A acts) (i:Nat) (hi:i<n.jobs.length) (h:n.mid 1000001):fn C 213 [] [.uptr [.str n.me.name,.int .u64 (n.me.id:Int),.int .i64 n.me.fr,.int .i64 n.me.un,.int .i64 n.me.ix,.str n.me.tag,.int .i64 n.clock,.str n.psk,.int .i64 n.gateI,.str n.gateK,.bool n.ready,.slice 8 (n.pred.map Pr.cs),.slice 8 (n.list.map Pr.cs),.slice 9 (n.fingers.map Fg.cs),.usl 20 (n.sessions.map Se.cs),.usl 23 (n.pends.map Pd.cs),.slice 4 (n.items.map It.cs),.usl 29 (n.jobs.map Jb.cs),.int .i64 n.rid,.int .i64 n.jobId,.slice 1 (n.draws.map qaw),.usl 8 (n.results.map Rs.cs),A],.int .i64 (i:Nat)]=some (.agg [.int .i64 n.jobs[i].id,.int .i64 n.jobs[i].kind,.int .i64 n.jobs[i].phase,.int .i64 n.jobs[i].hops,.int .i64 n.jobs[i].tries,.int .i64 n.jobs[i].til,.str n.jobs[i].key,.str n.jobs[i].val,.str n.jobs[i].owner.name,.int .u64 (n.jobs[i].owner.id:Int),.int .i64 n.jobs[i].owner.fr,.int .i64 n.jobs[i].owner.un,.int .i64 n.jobs[i].owner.ix,.str n.jobs[i].owner.tag,.str n.jobs[i].item.k,.str n.jobs[i].item.v,.int .i64 n.jobs[i].item.n,.bool n.jobs[i].item.g,.int .i64 n.jobs[i].acks,.int .i64 n.jobs[i].waits,.slice 1 (n.jobs[i].asked.map qaG),.str n.jobs[i].back.name,.int .u64 (n.jobs[i].back.id:Int),.int .i64 n.jobs[i].back.fr,.int .i64 n.jobs[i].back.un,.int .i64 n.jobs[i].back.ix,.str n.jobs[i].back.tag,.int .i64 n.jobs[i].backRid,.int .i64 n.jobs[i].backJob],[.uptr [.str n.me.name,.int .u64 (n.me.id:Int),.int .i64 n.me.fr,.int .i64 n.me.un,.int .i64 n.me.ix,.str n.me.tag,.int .i64 n.clock,.str n.psk,.int .i64 n.gateI,.str n.gateK,.bool n.ready,.slice 8 (n.pred.map Pr.cs),.slice 8 (n.list.map Pr.cs),.slice 9 (n.fingers.map Fg.cs),.usl 20 (n.sessions.map Se.cs),.usl 23 (n.pends.map Pd.cs),.slice 4 (n.items.map It.cs),.usl 29 ((n.jobs.eraseIdx i).map Jb.cs),.int .i64 n.rid,.int .i64 n.jobId,.slice 1 (n.draws.map qaw),.usl 8 (n.results.map Rs.cs),A]]):=by
 have row:=qdg n.jobs i hi
 have jl:=h.jl
 have del:=qxD n.jobs i hi h.jl
 rcases hA with _ | l
 ·rw [qaa Tryz.func213 rfl rfl Tryz.results213 qwF.1 rfl rfl (by kernel_rfl)]
  simp -implicitDefEqProofs -dsimp +contextual (maxSteps:=9999999) (disch:=first | omega | simp only [go_sem]<;>omega | refine ib ?_;kernel_rfl) only [go_sem,seval,↓reduceIte,row,del,hi]
 ·rw [qaa Tryz.func213 rfl rfl Tryz.results213 qwF.1 rfl rfl (by kernel_rfl)]
  simp -implicitDefEqProofs -dsimp +contextual (maxSteps:=9999999) (disch:=first | omega | simp only [go_sem]<;>omega | refine ib ?_;kernel_rfl) only [go_sem,seval,↓reduceIte,row,del,hi]
end Go.Proofs.YtnpkhdjgedeppaaGreatDoor
