import Derived.Test.YtnpkhdjgedeppaaGreatDoorBr2
namespace Go.Am
set_option linter.unusedSectionVars false
set_option linter.unusedVariables false
def qav (es:List (List AVal)):Bool:=decide (es.length≤1073741824)&&(es.all qbN&&qcb es)
def qbD (st:Nat):List Nat→List AVal→Option Res:=fun _ ds=>match ds with
 | [.slice st' es]=>gu (st'=st) (gu (qav es=true) (some (.slice st es,[])))
 | _=>none
theorem qbh {α:Type} (f:α→List AVal) (h1:∀x,qbN (f x)=true) (h2:∀x,(f x).all AVal.one=true) (l:List α):qav (l.map f)=decide (l.length≤1073741824):=by
 simp [qav,qaV f h1 l,qcu f l h2]
theorem qgP (l:List UInt8):qav (l.map qab)=decide (l.length≤1073741824):=qbh _ (fun _=>rfl) (fun _=>rfl) l
theorem qAm {β:Type} (t:Bool) (a b:Option β):@kIf _ (!t) ⟨(a,b)⟩=@kIf _ t ⟨(b,a)⟩:=by cases t<;>rfl
theorem qwe {β:Type} {p:Prop} [Decidable p] (h:p) (a b:Option β):@kIf _ (decide p) ⟨(a,b)⟩=a:=by simp [kIf,h]
theorem qwf {β:Type} {p:Prop} [Decidable p] (h:¬p) (a b:Option β):@kIf _ (decide p) ⟨(a,b)⟩=b:=by simp [kIf,h]
theorem qCW {α β:Type} {p:Prop} [Decidable p] (h:p) (x y:Option α) (K:α→Option β):@kB _ _ (if p then x else y) ⟨K⟩=@kB _ _ x ⟨K⟩:=by simp [h]
attribute [go_sem low] quP
attribute [go_sem high] qAm qwe qwf qCW
attribute [go_sem] Nat.min_self List.drop_replicate Nat.sub_self List.length_replicate List.length_set List.length_append List.length_take List.length_drop qzl Bool.not_eq_eq_eq_not Bool.not_true Bool.not_false decide_eq_true_eq decide_eq_false_iff_not Bool.not_eq_true' Bool.and_eq_true Bool.or_eq_true List.take_length List.drop_length true_or or_true false_or or_false true_and and_true false_and and_false not_true_eq_false not_false_eq_true qgP qoa qk4 qk5
def qAn (l:List (FuncId×(List Nat→List AVal→Option Res))):Own:=fun f=>(l.find? fun p=>p.1 == f).map (·.2)
theorem qwg {E:Env} {l:List (FuncId×(List Nat→List AVal→Option Res))} (h:∀p∈l,∀ex ds q,p.2 ex ds=some q→qdl E ex p.1 ds q.1 q.2):qgN E (qAn l):=by
 intro f g ex ds q hf hg
 unfold qAn at hf
 rw [Option.map_eq_some_iff]at hf
 obtain ⟨p,h1,rfl⟩:=hf
 have h2:=List.find?_some h1
 have h3:=List.mem_of_find?_eq_some h1
 simp only [beq_iff_eq]at h2
 subst h2
 exact h p h3 ex ds q hg
theorem qdr {E:Env} {ex:List Nat} {f:FuncId} {ds:List AVal} {r:AVal} {ls:List AVal} (h:Am.Spec E f ds r ls):qdl E ex f ds r ls:=by
 intro S w xs U _ hG hst hor hn hb
 exact h S w xs U (fun k hk=>by cases hk) hG hst hor hn hb
theorem qgQ {E:Env} {f:FuncId} {st:Nat} (h0:Am.Spec E f [.slice st []] (.slice st []) []) (h:∀r rs,qav (r::rs)=true→Am.Spec E f [.slice st (r::rs)] (.slice st (r::rs)) []) :
  ∀ex ds q,qbD st ex ds=some q→qdl E ex f ds q.1 q.2:=by
 intro ex ds q hq
 unfold qbD at hq
 split at hq
 ·rename_i st' es
  simp only [qag,Option.some.injEq]at hq
  obtain ⟨rfl,h1,rfl⟩:=hq
  refine qdr ?_
  cases es with
  | nil=>exact h0
  | cons r rs=>exact h r rs h1
 ·cases hq
theorem qas {a b:Bool} {ls:List AVal} (h:a=true↔b=true):(some (AVal.bool a,ls):Option Res)=some (.bool b,ls):=by
 have:a=b:=by cases a<;>cases b<;>simp_all
 rw [this]
end Go.Am
namespace Go.Am
theorem qsn {α β:Type} (f:α→β) (l:List α) (n:Nat):(l.map f).take n=(l.take n).map f:=List.map_take.symm
theorem qso {α β:Type} (f:α→β) (l:List α) (n:Nat):(l.map f).drop n=(l.drop n).map f:=List.map_drop.symm
theorem qmn {α β:Type} (f:α→β) (l m:List α):l.map f++m.map f=(l++m).map f:=List.map_append.symm
theorem qwh {α:Type} (l:List α) (n:Nat) (h:l.length≤n):l.take n=l:=List.take_of_length_le h
theorem qwi {α:Type} (l:List α) (n:Nat) (h:l.length≤n):l.drop n=[]:=List.drop_of_length_le h
theorem qsp {α:Type} (l m:List α) (n:Nat) (h:l.length=n):(l++m).take n=l:=List.take_left' h
theorem qsq (a b:Nat) (h:b≤a):((a:Int) - (b:Int))=((a - b:Nat):Int):=by omega
attribute [go_sem] List.contains_cons List.contains_nil List.mem_cons List.not_mem_nil Bool.or_false Bool.false_or Bool.or_true Bool.true_or Bool.and_true Bool.true_and Bool.and_false Bool.false_and
attribute [go_sem] qsp qsq Int.toNat_sub Int.cast_ofNat_Int
theorem qCX (a b:Nat):cid a b=a * 1000+b+1:=rfl
attribute [go_sem] qCX List.getElem_map qwh qwi Nat.min_eq_left Nat.min_eq_right Nat.sub_zero Nat.le_refl Int.le_refl List.append_nil List.nil_append qsn qso qmn
def qpC (P:Program) (t:TypeId):Bool:=match P.underlying t with | some .bool=>true | _=>false
def qIV (P:Program) (t:TypeId):Bool:=match P.underlying t with | some (.pointer _)=>true | _=>false
theorem qmo (P:Program) (t:TypeId) (a b:Bool):qbG P .eql t (.bool a) (.bool b)=if qpC P t=true then some (.bool (decide (a=b))) else none:=by
 unfold qpC;simp only [qbG]
 cases P.underlying t with
 | none=>rfl
 | some d=>cases d<;>first | rfl | (cases a<;>cases b<;>rfl)
theorem qmp (P:Program) (t:TypeId) (a b:Bool):qbG P .neq t (.bool a) (.bool b)=if qpC P t=true then some (.bool (!decide (a=b))) else none:=by
 unfold qpC;simp only [qbG]
 cases P.underlying t with
 | none=>rfl
 | some d=>cases d<;>first | rfl | (cases a<;>cases b<;>rfl)
attribute [go_sem] qmo qmp
end Go.Am
