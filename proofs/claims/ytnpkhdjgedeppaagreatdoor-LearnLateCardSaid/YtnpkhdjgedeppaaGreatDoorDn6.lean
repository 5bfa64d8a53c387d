import Derived.Test.YtnpkhdjgedeppaaGreatDoorBr2
namespace Go.Am
set_option linter.unusedSectionVars false
set_option linter.unusedVariables false
def qay (es:List (List AVal)):Bool:=decide (es.length≤1073741824)&&(es.all qbL&&qcg es)
def qbJ (st:Nat):List Nat→List AVal→Option Res:=fun _ ds=>match ds with
 | [.slice st' es]=>gu (st'=st) (gu (qay es=true) (some (.slice st es,[])))
 | _=>none
theorem qbk {α:Type} (f:α→List AVal) (h1:∀x,qbL (f x)=true) (h2:∀x,(f x).all AVal.one=true) (l:List α):qay (l.map f)=decide (l.length≤1073741824):=by
 simp [qay,qaO f h1 l,qcy f l h2]
theorem qhp (l:List UInt8):qay (l.map qab)=decide (l.length≤1073741824):=qbk _ (fun _=>rfl) (fun _=>rfl) l
theorem qB4 {β:Type} (t:Bool) (a b:Option β):@kIf _ (!t) ⟨(a,b)⟩=@kIf _ t ⟨(b,a)⟩:=by cases t<;>rfl
theorem qxw {β:Type} {p:Prop} [Decidable p] (h:p) (a b:Option β):@kIf _ (decide p) ⟨(a,b)⟩=a:=by simp [kIf,h]
theorem qxx {β:Type} {p:Prop} [Decidable p] (h:¬p) (a b:Option β):@kIf _ (decide p) ⟨(a,b)⟩=b:=by simp [kIf,h]
theorem qEZ {α β:Type} {p:Prop} [Decidable p] (h:p) (x y:Option α) (K:α→Option β):@kB _ _ (if p then x else y) ⟨K⟩=@kB _ _ x ⟨K⟩:=by simp [h]
attribute [go_sem low] qv6
attribute [go_sem high] qB4 qxw qxx qEZ
attribute [go_sem] Nat.min_self List.drop_replicate Nat.sub_self List.length_replicate List.length_set List.length_append List.length_take List.length_drop qA4 Bool.not_eq_eq_eq_not Bool.not_true Bool.not_false decide_eq_true_eq decide_eq_false_iff_not Bool.not_eq_true' Bool.and_eq_true Bool.or_eq_true List.take_length List.drop_length true_or or_true false_or or_false true_and and_true false_and and_false not_true_eq_false not_false_eq_true qhp qo7 qmg qmh
def qB5 (l:List (FuncId×(List Nat→List AVal→Option Res))):Own:=fun f=>(l.find? fun p=>p.1 == f).map (·.2)
theorem qxy {E:Env} {l:List (FuncId×(List Nat→List AVal→Option Res))} (h:∀p∈l,∀ex ds q,p.2 ex ds=some q→qdz E ex p.1 ds q.1 q.2):qfP E (qB5 l):=by
 intro f g ex ds q hf hg
 unfold qB5 at hf
 rw [Option.map_eq_some_iff]at hf
 obtain ⟨p,h1,rfl⟩:=hf
 have h2:=List.find?_some h1
 have h3:=List.mem_of_find?_eq_some h1
 simp only [beq_iff_eq]at h2
 subst h2
 exact h p h3 ex ds q hg
theorem qdF {E:Env} {ex:List Nat} {f:FuncId} {ds:List AVal} {r:AVal} {ls:List AVal} (h:Am.Spec E f ds r ls):qdz E ex f ds r ls:=by
 intro S w xs U _ hG hst hor hn hb
 exact h S w xs U (fun k hk=>by cases hk) hG hst hor hn hb
theorem qhq {E:Env} {f:FuncId} {st:Nat} (h0:Am.Spec E f [.slice st []] (.slice st []) []) (h:∀r rs,qay (r::rs)=true→Am.Spec E f [.slice st (r::rs)] (.slice st (r::rs)) []) :
  ∀ex ds q,qbJ st ex ds=some q→qdz E ex f ds q.1 q.2:=by
 intro ex ds q hq
 unfold qbJ at hq
 split at hq
 ·rename_i st' es
  simp only [qaf,Option.some.injEq]at hq
  obtain ⟨rfl,h1,rfl⟩:=hq
  refine qdF ?_
  cases es with
  | nil=>exact h0
  | cons r rs=>exact h r rs h1
 ·cases hq
theorem qaw {a b:Bool} {ls:List AVal} (h:a=true↔b=true):(some (AVal.bool a,ls):Option Res)=some (.bool b,ls):=by
 have:a=b:=by cases a<;>cases b<;>simp_all
 rw [this]
end Go.Am
namespace Go.Am
theorem qtv {α β:Type} (f:α→β) (l:List α) (n:Nat):(l.map f).take n=(l.take n).map f:=List.map_take.symm
theorem qtw {α β:Type} (f:α→β) (l:List α) (n:Nat):(l.map f).drop n=(l.drop n).map f:=List.map_drop.symm
theorem qnv {α β:Type} (f:α→β) (l m:List α):l.map f++m.map f=(l++m).map f:=List.map_append.symm
theorem qxz {α:Type} (l:List α) (n:Nat) (h:l.length≤n):l.take n=l:=List.take_of_length_le h
theorem qxA {α:Type} (l:List α) (n:Nat) (h:l.length≤n):l.drop n=[]:=List.drop_of_length_le h
theorem qtx {α:Type} (l m:List α) (n:Nat) (h:l.length=n):(l++m).take n=l:=List.take_left' h
theorem qty (a b:Nat) (h:b≤a):((a:Int) - (b:Int))=((a - b:Nat):Int):=by omega
attribute [go_sem] List.contains_cons List.contains_nil List.mem_cons List.not_mem_nil Bool.or_false Bool.false_or Bool.or_true Bool.true_or Bool.and_true Bool.true_and Bool.and_false Bool.false_and
attribute [go_sem] qtx qty Int.toNat_sub Int.cast_ofNat_Int
theorem qE0 (a b:Nat):cid a b=a * 1000+b+1:=rfl
attribute [go_sem] qE0 List.getElem_map qxz qxA Nat.min_eq_left Nat.min_eq_right Nat.sub_zero Nat.le_refl Int.le_refl List.append_nil List.nil_append qtv qtw qnv
def qqy (P:Program) (t:TypeId):Bool:=match P.underlying t with | some .bool=>true | _=>false
def qLC (P:Program) (t:TypeId):Bool:=match P.underlying t with | some (.pointer _)=>true | _=>false
theorem qnw (P:Program) (t:TypeId) (a b:Bool):qbF P .eql t (.bool a) (.bool b)=if qqy P t=true then some (.bool (decide (a=b))) else none:=by
 unfold qqy;simp only [qbF]
 cases P.underlying t with
 | none=>rfl
 | some d=>cases d<;>first | rfl | (cases a<;>cases b<;>rfl)
theorem qnx (P:Program) (t:TypeId) (a b:Bool):qbF P .neq t (.bool a) (.bool b)=if qqy P t=true then some (.bool (!decide (a=b))) else none:=by
 unfold qqy;simp only [qbF]
 cases P.underlying t with
 | none=>rfl
 | some d=>cases d<;>first | rfl | (cases a<;>cases b<;>rfl)
attribute [go_sem] qnw qnx
end Go.Am
