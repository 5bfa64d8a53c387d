import Derived.Test.YtnpkhdjgedeppaaGreatDoorTCop6
namespace Go.Proofs.YtnpkhdjgedeppaaGreatDoor
set_option maxHeartbeats 64000000
open Go.Am
set_option linter.unusedSimpArgs false
set_option linter.unusedVariables false
set_option maxRecDepth 100000
theorem Jb_app (n : Nd) (x : It) (back : En) (rid job : Int) : n.jobs.map Jb.cs ++ [[.int .i64 (nextI n.jobId),.int .i64 4,.int .i64 0,.int .i64 0,.int .i64 0,.int .i64 (n.clock + 192),.str [],.str [],.str [],.int .u64 0,.int .i64 0,.int .i64 0,.int .i64 0,.str [],.str x.k,.str x.v,.int .i64 x.n,.bool x.g,.int .i64 0,.int .i64 0,.slice 1 [],.str back.name,.int .u64 (back.id : Int),.int .i64 back.fr,.int .i64 back.un,.int .i64 back.ix,.str back.tag,.int .i64 rid,.int .i64 job]] = (n.jobs ++ [copyJ n x back rid job]).map Jb.cs := by rw [List.map_append]; rfl
theorem Jb_appN (n : Nd) (x : It) (back : En) (rid job : Int) : n.jobs.map Jb.cs ++ [[.int .i64 (nextI n.jobId),.int .i64 4,.int .i64 0,.int .i64 0,.int .i64 0,.int .i64 (n.clock + 192),.str [],.str [],.str [],.int .u64 0,.int .i64 0,.int .i64 0,.int .i64 0,.str [],.str x.k,.str x.v,.int .i64 x.n,.bool x.g,.int .i64 0,.int .i64 0,.sc (.slice none 0 0),.str back.name,.int .u64 (back.id : Int),.int .i64 back.fr,.int .i64 back.un,.int .i64 back.ix,.str back.tag,.int .i64 rid,.int .i64 job]] = rowsG (n.jobs ++ [copyJ n x back rid job]) n.jobs.length [.int .i64 (nextI n.jobId),.int .i64 4,.int .i64 0,.int .i64 0,.int .i64 0,.int .i64 (n.clock + 192),.str [],.str [],.str [],.int .u64 0,.int .i64 0,.int .i64 0,.int .i64 0,.str [],.str x.k,.str x.v,.int .i64 x.n,.bool x.g,.int .i64 0,.int .i64 0,.sc (.slice none 0 0),.str back.name,.int .u64 (back.id : Int),.int .i64 back.fr,.int .i64 back.un,.int .i64 back.ix,.str back.tag,.int .i64 rid,.int .i64 job] := by
 unfold rowsG
 rw [List.map_append,List.set_append_right _ _ (by simp)]
 simp [copyJ,jbZ,enZ]
theorem rowsG_app (n : Nd) (i : Nat) (hi : i < n.jobs.length) (R : List AVal) (x : It) (back : En) (rid job : Int) : rowsG n.jobs i R ++ [[.int .i64 (nextI n.jobId),.int .i64 4,.int .i64 0,.int .i64 0,.int .i64 0,.int .i64 (n.clock + 192),.str [],.str [],.str [],.int .u64 0,.int .i64 0,.int .i64 0,.int .i64 0,.str [],.str x.k,.str x.v,.int .i64 x.n,.bool x.g,.int .i64 0,.int .i64 0,.slice 1 [],.str back.name,.int .u64 (back.id : Int),.int .i64 back.fr,.int .i64 back.un,.int .i64 back.ix,.str back.tag,.int .i64 rid,.int .i64 job]] = rowsG (n.jobs ++ [copyJ n x back rid job]) i R := by
 unfold rowsG
 rw [List.map_append,List.set_append_left _ _ (by simpa using hi)]
 rfl
@[go_sem] theorem nlBg : M.nl 109 = [] := Eq.trans rfl rfl
theorem eBeginE0 (n : Nd) (key val : List UInt8) (gone : Bool) (back : En) (rid job : Int) (h : n.mid 90000) (hk : key.length ≤ 9223372036854775807) (hc : 0 ≤ n.clock ∧ n.clock ≤ 1099511627776) (he : ¬ beginE n key val gone = 0) (hj : job = 0) :
  fn (C1 (-1)) 109 [] [(aNd n),.str key,.str val,.bool gone,.agg [.str back.name,.int .u64 (back.id : Int),.int .i64 back.fr,.int .i64 back.un,.int .i64 back.ix,.str back.tag],.int .i64 rid,.int .i64 job] = ndRes (n,[doneA back rid zeroIt (beginE n key val gone)]) := by
 obtain ⟨g,hg⟩ : ∃ g : Int,g = -1 := ⟨_,rfl⟩
 rw [← hg]
 have nl := nlB_B g (by omega)
 have il := h.il
 have jl := h.jl
 have pu := e164 n.items key val gone (by omega) hk
 have tw := fun e => tellW0 n _ _ .nil back rid zeroIt false e (h.le (by omega)) (by simp)
 simp only [aNd,zeroIt_k,zeroIt_v,zeroIt_n,zeroIt_g] at tw
 subst hj
 rw [fn_textN (C := C1 g) Tryz.func109 rfl rfl Tryz.results109 (show (C1 g).M.loc 109 = _ from fq109.1) rfl rfl (by kernel_rfl)]
 simp -implicitDefEqProofs -dsimp +contextual (maxSteps := 9999999) (disch := first | omega | simp only [go_sem] <;> omega | refine ib ?_; kernel_rfl) only [go_sem,seval,↓reduceIte,nl]
 refine il_on0 n (h.le (by omega)) g (by omega) _ ?_ _ _ fun H' W hfr => ?_
 ·intro o ho; repeat (first | rfl | rw [Heap.set_ne _ _ (by omega)])
 obtain ⟨W1,W2,W3,W4,W5⟩ := W
 have g4 : (H' 114).gen = 1 := by rw [hfr 114 (by omega)]; rfl
 have m4 : (H' 114).mode = .live := by rw [hfr 114 (by omega)]; rfl
 obtain ⟨r,hr,H4r⟩ : ∃ r : List AVal,r.length = 22 ∧ (H' 114).rows = [r] := by rw [hfr 114 (by omega)]; exact ⟨_,rfl,rfl⟩
 have h11 : H' 111 = ⟨1,.live,6,[[.str back.name,.int .u64 (back.id : Int),.int .i64 back.fr,.int .i64 back.un,.int .i64 back.ix,.str back.tag]],false⟩ := by rw [hfr 111 (by omega)]; rfl
 have h18 : H' 118 = ⟨0,.dead,0,[],false⟩ := by rw [hfr 118 (by omega)]; rfl
 by_cases h8 : 8 ≤ n.jobs.length
 ·have hb : beginE n key val gone = 41 := by unfold beginE; rw [if_pos h8]
  rw [hb] at he ⊢
  clear hb
  have tw := tw 41
  simp -implicitDefEqProofs -dsimp +contextual (maxSteps := 9999999) (disch := first | omega | simp only [go_sem] <;> omega | refine ib ?_; kernel_rfl) only [go_sem,seval,↓reduceIte,nl,W1,W2,W3,W4,W5,pu,h11,h18,g4,m4,hr,H4r,h8,tw]
  rw [il_text (C := C1 g) Tryz.func166 rfl Tryz.results166 (show (C1 g).M.loc 166 = _ from fq166.1) (by kernel_rfl)]
  simp -implicitDefEqProofs -dsimp +contextual (maxSteps := 9999999) (disch := first | omega | simp only [go_sem] <;> omega | refine ib ?_; kernel_rfl) only [go_sem,seval,↓reduceIte,nl,W1,W2,W3,W4,W5,g4,m4,hr,H4r]
  rfl
 ·have hb : beginE n key val gone = (putR n.items key val gone).2.2 := by unfold beginE; rw [if_neg h8]
  rw [hb] at he ⊢
  clear hb
  have tw := tw (putR n.items key val gone).2.2
  generalize putR n.items key val gone = p at *
  obtain ⟨p1,p2,p3⟩ := p
  try simp only at he tw pu ⊢
  simp -implicitDefEqProofs -dsimp +contextual (maxSteps := 9999999) (disch := first | omega | simp only [go_sem] <;> omega | refine ib ?_; kernel_rfl) only [go_sem,seval,↓reduceIte,nl,W1,W2,W3,W4,W5,pu,h11,h18,g4,m4,hr,H4r,h8,tw,he]
  rw [il_text (C := C1 g) Tryz.func166 rfl Tryz.results166 (show (C1 g).M.loc 166 = _ from fq166.1) (by kernel_rfl)]
  simp -implicitDefEqProofs -dsimp +contextual (maxSteps := 9999999) (disch := first | omega | simp only [go_sem] <;> omega | refine ib ?_; kernel_rfl) only [go_sem,seval,↓reduceIte,nl,W1,W2,W3,W4,W5,g4,m4,hr,H4r]
  rfl
theorem eBeginE1 (n : Nd) (key val : List UInt8) (gone : Bool) (back : En) (rid job : Int) (h : n.mid 90000) (hk : key.length ≤ 9223372036854775807) (hc : 0 ≤ n.clock ∧ n.clock ≤ 1099511627776) (he : ¬ beginE n key val gone = 0) (hj : ¬ job = 0) :
  fn (C1 (-1)) 109 [] [(aNd n),.str key,.str val,.bool gone,.agg [.str back.name,.int .u64 (back.id : Int),.int .i64 back.fr,.int .i64 back.un,.int .i64 back.ix,.str back.tag],.int .i64 rid,.int .i64 job] = ndRes (settleR n job zeroIt false (beginE n key val gone),[]) := by
 obtain ⟨g,hg⟩ : ∃ g : Int,g = -1 := ⟨_,rfl⟩
 rw [← hg]
 have nl := nlB_B g (by omega)
 have il := h.il
 have jl := h.jl
 have pu := e164 n.items key val gone (by omega) hk
 have tw := fun e => tellW1 n _ _ .nil back rid job zeroIt false e hj (h.le (by omega))
 simp only [aNd,zeroIt_k,zeroIt_v,zeroIt_n,zeroIt_g] at tw
 rw [fn_textN (C := C1 g) Tryz.func109 rfl rfl Tryz.results109 (show (C1 g).M.loc 109 = _ from fq109.1) rfl rfl (by kernel_rfl)]
 simp -implicitDefEqProofs -dsimp +contextual (maxSteps := 9999999) (disch := first | omega | simp only [go_sem] <;> omega | refine ib ?_; kernel_rfl) only [go_sem,seval,↓reduceIte,nl]
 refine il_on0 n (h.le (by omega)) g (by omega) _ ?_ _ _ fun H' W hfr => ?_
 ·intro o ho; repeat (first | rfl | rw [Heap.set_ne _ _ (by omega)])
 obtain ⟨W1,W2,W3,W4,W5⟩ := W
 have g4 : (H' 114).gen = 1 := by rw [hfr 114 (by omega)]; rfl
 have m4 : (H' 114).mode = .live := by rw [hfr 114 (by omega)]; rfl
 obtain ⟨r,hr,H4r⟩ : ∃ r : List AVal,r.length = 22 ∧ (H' 114).rows = [r] := by rw [hfr 114 (by omega)]; exact ⟨_,rfl,rfl⟩
 have h11 : H' 111 = ⟨1,.live,6,[[.str back.name,.int .u64 (back.id : Int),.int .i64 back.fr,.int .i64 back.un,.int .i64 back.ix,.str back.tag]],false⟩ := by rw [hfr 111 (by omega)]; rfl
 have h18 : H' 118 = ⟨0,.dead,0,[],false⟩ := by rw [hfr 118 (by omega)]; rfl
 by_cases h8 : 8 ≤ n.jobs.length
 ·have hb : beginE n key val gone = 41 := by unfold beginE; rw [if_pos h8]
  rw [hb] at he ⊢
  clear hb
  have tw := tw 41
  obtain ⟨js,rs,hs⟩ := settle_eta n job zeroIt false 41
  rw [hs] at tw ⊢
  try simp only at tw
  simp -implicitDefEqProofs -dsimp +contextual (maxSteps := 9999999) (disch := first | omega | simp only [go_sem] <;> omega | refine ib ?_; kernel_rfl) only [go_sem,seval,↓reduceIte,nl,W1,W2,W3,W4,W5,pu,h11,h18,g4,m4,hr,H4r,h8,tw]
  rw [il_text (C := C1 g) Tryz.func166 rfl Tryz.results166 (show (C1 g).M.loc 166 = _ from fq166.1) (by kernel_rfl)]
  simp -implicitDefEqProofs -dsimp +contextual (maxSteps := 9999999) (disch := first | omega | simp only [go_sem] <;> omega | refine ib ?_; kernel_rfl) only [go_sem,seval,↓reduceIte,nl,W1,W2,W3,W4,W5,g4,m4,hr,H4r]
  rfl
 ·have hb : beginE n key val gone = (putR n.items key val gone).2.2 := by unfold beginE; rw [if_neg h8]
  rw [hb] at he ⊢
  clear hb
  have tw := tw (putR n.items key val gone).2.2
  generalize putR n.items key val gone = p at *
  obtain ⟨p1,p2,p3⟩ := p
  try simp only at he tw pu ⊢
  obtain ⟨js,rs,hs⟩ := settle_eta n job zeroIt false p3
  rw [hs] at tw ⊢
  try simp only at tw
  simp -implicitDefEqProofs -dsimp +contextual (maxSteps := 9999999) (disch := first | omega | simp only [go_sem] <;> omega | refine ib ?_; kernel_rfl) only [go_sem,seval,↓reduceIte,nl,W1,W2,W3,W4,W5,pu,h11,h18,g4,m4,hr,H4r,h8,tw,he]
  rw [il_text (C := C1 g) Tryz.func166 rfl Tryz.results166 (show (C1 g).M.loc 166 = _ from fq166.1) (by kernel_rfl)]
  simp -implicitDefEqProofs -dsimp +contextual (maxSteps := 9999999) (disch := first | omega | simp only [go_sem] <;> omega | refine ib ?_; kernel_rfl) only [go_sem,seval,↓reduceIte,nl,W1,W2,W3,W4,W5,g4,m4,hr,H4r]
  rfl
theorem eBeginN (n : Nd) (key val : List UInt8) (gone : Bool) (back : En) (rid job : Int) (h : n.mid 90000) (hk : key.length ≤ 9223372036854775807) (hc : 0 ≤ n.clock ∧ n.clock ≤ 1099511627776) (he : beginE n key val gone = 0) (hcop : copR (begunR n key val gone back rid job).jobs (nextI n.jobId) = -1) :
  fn (C1 (-1)) 109 [] [(aNd n),.str key,.str val,.bool gone,.agg [.str back.name,.int .u64 (back.id : Int),.int .i64 back.fr,.int .i64 back.un,.int .i64 back.ix,.str back.tag],.int .i64 rid,.int .i64 job] = ndRes (begunR n key val gone back rid job,[]) := by
 obtain ⟨g,hg⟩ : ∃ g : Int,g = -1 := ⟨_,rfl⟩
 rw [← hg]
 have nl := nlB_B g (by omega)
 have il := h.il
 have jl := h.jl
 have pu := e164 n.items key val gone (by omega) hk
 have hb : beginE n key val gone = (putR n.items key val gone).2.2 := by
  unfold beginE at he ⊢
  split at he
  ·omega
  ·rw [if_neg (by assumption)]
 have h8 : ¬ 8 ≤ n.jobs.length := by
  intro h8; unfold beginE at he; rw [if_pos h8] at he; omega
 rw [hb] at he
 clear hb
 have hmid : (begunR n key val gone back rid job).mid 100000 := (mid_begun key val gone back rid job hk h).le (by omega)
 rw [fn_textN (C := C1 g) Tryz.func109 rfl rfl Tryz.results109 (show (C1 g).M.loc 109 = _ from fq109.1) rfl rfl (by kernel_rfl)]
 simp -implicitDefEqProofs -dsimp +contextual (maxSteps := 9999999) (disch := first | omega | simp only [go_sem] <;> omega | refine ib ?_; kernel_rfl) only [go_sem,seval,↓reduceIte,nl]
 refine il_on0 n (h.le (by omega)) g (by omega) _ ?_ _ _ fun H' W hfr => ?_
 ·intro o ho; repeat (first | rfl | rw [Heap.set_ne _ _ (by omega)])
 obtain ⟨W1,W2,W3,W4,W5⟩ := W
 have g4 : (H' 114).gen = 1 := by rw [hfr 114 (by omega)]; rfl
 have m4 : (H' 114).mode = .live := by rw [hfr 114 (by omega)]; rfl
 obtain ⟨r,hr,H4r⟩ : ∃ r : List AVal,r.length = 22 ∧ (H' 114).rows = [r] := by rw [hfr 114 (by omega)]; exact ⟨_,rfl,rfl⟩
 have h11 : H' 111 = ⟨1,.live,6,[[.str back.name,.int .u64 (back.id : Int),.int .i64 back.fr,.int .i64 back.un,.int .i64 back.ix,.str back.tag]],false⟩ := by rw [hfr 111 (by omega)]; rfl
 have h18 : H' 118 = ⟨0,.dead,0,[],false⟩ := by rw [hfr 118 (by omega)]; rfl
 have hx := Jb_app n (putR n.items key val gone).2.1 back rid job
 simp -implicitDefEqProofs -dsimp +contextual (maxSteps := 9999999) (disch := first | omega | simp only [go_sem] <;> omega | refine ib ?_; kernel_rfl) only [go_sem,seval,↓reduceIte,nl,W1,W2,W3,W4,W5,pu,h11,h18,g4,m4,hr,H4r,h8,he,hx]
 refine il_more_none g (begunR n key val gone back rid job) (nextI n.jobId) 2 hcop hmid _ ?_ ?_ ?_ ?_ ?_ _ _ ?_
 ·rw [begunR]; simp -implicitDefEqProofs -dsimp +contextual (maxSteps := 9999999) (disch := first | omega | simp only [go_sem] <;> omega | refine ib ?_; kernel_rfl) only [go_sem,seval,↓reduceIte,List.length_append,List.length_singleton]
 ·exact W2
 ·exact W3
 ·rfl
 ·exact W5
 rw [begunR]
 simp -implicitDefEqProofs -dsimp +contextual (maxSteps := 9999999) (disch := first | omega | simp only [go_sem] <;> omega | refine ib ?_; kernel_rfl) only [go_sem,seval,↓reduceIte]
 rw [il_text (C := C1 g) Tryz.func166 rfl Tryz.results166 (show (C1 g).M.loc 166 = _ from fq166.1) (by kernel_rfl)]
 simp -implicitDefEqProofs -dsimp +contextual (maxSteps := 9999999) (disch := first | omega | simp only [go_sem] <;> omega | refine ib ?_; kernel_rfl) only [go_sem,seval,↓reduceIte,nl,W1,W2,W3,W4,W5,g4,m4,hr,H4r,List.length_append,List.length_singleton]
 rfl
theorem eBeginB (n : Nd) (key val : List UInt8) (gone : Bool) (back : En) (rid job : Int) (h : n.mid 90000) (hk : key.length ≤ 9223372036854775807) (hc : 0 ≤ n.clock ∧ n.clock ≤ 1099511627776) (he : beginE n key val gone = 0) (i : Nat) (hi : i < n.jobs.length) (hcop : copR (begunR n key val gone back rid job).jobs (nextI n.jobId) = (i : Int)) :
  fn (C1 (i : Int)) 109 [] [(aNd n),.str key,.str val,.bool gone,.agg [.str back.name,.int .u64 (back.id : Int),.int .i64 back.fr,.int .i64 back.un,.int .i64 back.ix,.str back.tag],.int .i64 rid,.int .i64 job] = ndRes (moreFin (begunR n key val gone back rid job) i (askR (nextI n.jobId) (begunR n key val gone back rid job).list n.jobs[i])) := by
 obtain ⟨g,hg⟩ : ∃ g : Int,g = (i : Int) := ⟨_,rfl⟩
 have on := il_on1 n (h.le (by omega)) i hi
 rw [← hg] at on ⊢
 have nl := nlB_B g (by omega)
 have il := h.il
 have jl := h.jl
 have pu := e164 n.items key val gone (by omega) hk
 have hb : beginE n key val gone = (putR n.items key val gone).2.2 := by
  unfold beginE at he ⊢
  split at he
  ·omega
  ·rw [if_neg (by assumption)]
 have h8 : ¬ 8 ≤ n.jobs.length := by
  intro h8; unfold beginE at he; rw [if_pos h8] at he; omega
 rw [hb] at he
 clear hb
 have hmid : (begunR n key val gone back rid job).mid 100000 := (mid_begun key val gone back rid job hk h).le (by omega)
 rw [fn_textN (C := C1 g) Tryz.func109 rfl rfl Tryz.results109 (show (C1 g).M.loc 109 = _ from fq109.1) rfl rfl (by kernel_rfl)]
 simp -implicitDefEqProofs -dsimp +contextual (maxSteps := 9999999) (disch := first | omega | simp only [go_sem] <;> omega | refine ib ?_; kernel_rfl) only [go_sem,seval,↓reduceIte,nl]
 refine on _ ?_ _ _ fun H' W W6 hfr => ?_
 ·intro o ho; repeat (first | rfl | rw [Heap.set_ne _ _ (by omega)])
 obtain ⟨W1,W2,W3,W4,W5⟩ := W
 have g4 : (H' 114).gen = 1 := by rw [hfr 114 (by omega)]; rfl
 have m4 : (H' 114).mode = .live := by rw [hfr 114 (by omega)]; rfl
 obtain ⟨r,hr,H4r⟩ : ∃ r : List AVal,r.length = 22 ∧ (H' 114).rows = [r] := by rw [hfr 114 (by omega)]; exact ⟨_,rfl,rfl⟩
 have h11 : H' 111 = ⟨1,.live,6,[[.str back.name,.int .u64 (back.id : Int),.int .i64 back.fr,.int .i64 back.un,.int .i64 back.ix,.str back.tag]],false⟩ := by rw [hfr 111 (by omega)]; rfl
 have h18 : H' 118 = ⟨0,.dead,0,[],false⟩ := by rw [hfr 118 (by omega)]; rfl
 have hx := rowsG_app n i hi [.int .i64 n.jobs[i].id,.int .i64 n.jobs[i].kind,.int .i64 n.jobs[i].phase,.int .i64 n.jobs[i].hops,.int .i64 n.jobs[i].tries,.int .i64 n.jobs[i].til,.str n.jobs[i].key,.str n.jobs[i].val,.str n.jobs[i].owner.name,.int .u64 (n.jobs[i].owner.id : Int),.int .i64 n.jobs[i].owner.fr,.int .i64 n.jobs[i].owner.un,.int .i64 n.jobs[i].owner.ix,.str n.jobs[i].owner.tag,.str n.jobs[i].item.k,.str n.jobs[i].item.v,.int .i64 n.jobs[i].item.n,.bool n.jobs[i].item.g,.int .i64 n.jobs[i].acks,.int .i64 n.jobs[i].waits,.osl 60155 1 0 n.jobs[i].asked.length,.str n.jobs[i].back.name,.int .u64 (n.jobs[i].back.id : Int),.int .i64 n.jobs[i].back.fr,.int .i64 n.jobs[i].back.un,.int .i64 n.jobs[i].back.ix,.str n.jobs[i].back.tag,.int .i64 n.jobs[i].backRid,.int .i64 n.jobs[i].backJob] (putR n.items key val gone).2.1 back rid job
 simp -implicitDefEqProofs -dsimp +contextual (maxSteps := 9999999) (disch := first | omega | simp only [go_sem] <;> omega | refine ib ?_; kernel_rfl) only [go_sem,seval,↓reduceIte,nl,W1,W2,W3,W4,W5,pu,h11,h18,g4,m4,hr,H4r,h8,he,hx]
 clear hx
 have him : i < (begunR n key val gone back rid job).jobs.length := by simp [begunR]; omega
 have hmj : (begunR n key val gone back rid job).jobs[i] = n.jobs[i] := List.getElem_append_left hi
 refine il_moreA g (begunR n key val gone back rid job) (nextI n.jobId) i 2 n.jobs[i] (.osl 60155 1 0 n.jobs[i].asked.length) him (by rw [← hmj,List.set_getElem_self]; exact hcop) hmid (Nat.le_trans (h.ja _ (List.getElem_mem hi)) (by omega)) _ ?_ ?_ _ _ _ rfl ?_ ?_
 ·refine ⟨?_,W2,W3,rfl,W5⟩
  rw [begunR]; simp -implicitDefEqProofs -dsimp +contextual (maxSteps := 9999999) (disch := first | omega | simp only [go_sem] <;> omega | refine ib ?_; kernel_rfl) only [go_sem,seval,↓reduceIte,List.length_append,List.length_singleton]
 ·exact ⟨1,rfl,W6⟩
 ·intro H2 A X M2 A2 X2 hf2 hw
  obtain ⟨Y1,Y2,Y3,Y4,Y5⟩ := M2
  have k4 : (H2 114).gen = 1 := by rw [hf2 114 (by omega)]; exact g4
  have n4 : (H2 114).mode = .live := by rw [hf2 114 (by omega)]; exact m4
  have r4 : (H2 114).rows = [r] := by rw [hf2 114 (by omega)]; exact H4r
  generalize askR (nextI n.jobId) (begunR n key val gone back rid job).list n.jobs[i] = q at *
  obtain ⟨j,acts⟩ := q
  have hmf : moreFin (begunR n key val gone back rid job) i (j,acts) = ({ begunR n key val gone back rid job with jobs := (begunR n key val gone back rid job).jobs.set i j },acts) := by unfold moreFin; rw [if_pos hw]
  rw [hmf]
  clear hmf hw on
  generalize begunR n key val gone back rid job = m at *
  obtain ⟨ga,rfl,ha⟩ := A2
  try simp only at Y1 Y4 ha X2
  rcases X2 with ⟨rfl,rfl⟩ | ⟨gx,rfl,hX⟩
  ·simp -implicitDefEqProofs -dsimp +contextual (maxSteps := 9999999) (disch := first | omega | simp only [go_sem] <;> omega | refine ib ?_; kernel_rfl) only [go_sem,seval,↓reduceIte]
   rw [il_text (C := C1 g) Tryz.func166 rfl Tryz.results166 (show (C1 g).M.loc 166 = _ from fq166.1) (by kernel_rfl)]
   simp -implicitDefEqProofs -dsimp +contextual (maxSteps := 9999999) (disch := first | omega | simp only [go_sem] <;> omega | refine ib ?_; kernel_rfl) only [go_sem,seval,↓reduceIte,nl,Y1,Y2,Y3,Y4,Y5,k4,n4,hr,r4,ha,k_rowsG,him]
   rfl
  ·simp -implicitDefEqProofs -dsimp +contextual (maxSteps := 9999999) (disch := first | omega | simp only [go_sem] <;> omega | refine ib ?_; kernel_rfl) only [go_sem,seval,↓reduceIte]
   rw [il_text (C := C1 g) Tryz.func166 rfl Tryz.results166 (show (C1 g).M.loc 166 = _ from fq166.1) (by kernel_rfl)]
   simp -implicitDefEqProofs -dsimp +contextual (maxSteps := 9999999) (disch := first | omega | simp only [go_sem] <;> omega | refine ib ?_; kernel_rfl) only [go_sem,seval,↓reduceIte,nl,Y1,Y2,Y3,Y4,Y5,k4,n4,hr,r4,ha,hX,k_rowsG,him]
   rfl
 ·intro H2 M2 hf2 hw
  have k4 : (H2 114).gen = 1 := by rw [hf2 114 (by omega)]; exact g4
  have n4 : (H2 114).mode = .live := by rw [hf2 114 (by omega)]; exact m4
  have r4 : (H2 114).rows = [r] := by rw [hf2 114 (by omega)]; exact H4r
  clear hw on
  generalize moreFin (begunR n key val gone back rid job) i (askR (nextI n.jobId) (begunR n key val gone back rid job).list n.jobs[i]) = q at *
  obtain ⟨m,acts⟩ := q
  unfold WorkAt at M2
  simp only [aNd,Nat.reduceMul,Nat.reduceAdd] at M2
  obtain ⟨A,a,b,c,d,X,Y1,Y2,Y3,Y4,Y5,hX⟩ := M2
  rcases hX with ⟨rfl,rfl⟩ | ⟨rfl,hX⟩
  ·simp -implicitDefEqProofs -dsimp +contextual (maxSteps := 9999999) (disch := first | omega | simp only [go_sem] <;> omega | refine ib ?_; kernel_rfl) only [go_sem,seval,↓reduceIte]
   rw [il_text (C := C1 g) Tryz.func166 rfl Tryz.results166 (show (C1 g).M.loc 166 = _ from fq166.1) (by kernel_rfl)]
   simp -implicitDefEqProofs -dsimp +contextual (maxSteps := 9999999) (disch := first | omega | simp only [go_sem] <;> omega | refine ib ?_; kernel_rfl) only [go_sem,seval,↓reduceIte,nl,Y1,Y2,Y3,Y4,Y5,k4,n4,hr,r4]
   rfl
  ·simp -implicitDefEqProofs -dsimp +contextual (maxSteps := 9999999) (disch := first | omega | simp only [go_sem] <;> omega | refine ib ?_; kernel_rfl) only [go_sem,seval,↓reduceIte]
   rw [il_text (C := C1 g) Tryz.func166 rfl Tryz.results166 (show (C1 g).M.loc 166 = _ from fq166.1) (by kernel_rfl)]
   simp -implicitDefEqProofs -dsimp +contextual (maxSteps := 9999999) (disch := first | omega | simp only [go_sem] <;> omega | refine ib ?_; kernel_rfl) only [go_sem,seval,↓reduceIte,nl,Y1,Y2,Y3,Y4,Y5,k4,n4,hr,r4,hX]
   rfl
theorem eBeginA (n : Nd) (key val : List UInt8) (gone : Bool) (back : En) (rid job : Int) (h : n.mid 90000) (hk : key.length ≤ 9223372036854775807) (hc : 0 ≤ n.clock ∧ n.clock ≤ 1099511627776) (he : beginE n key val gone = 0) (hcop : copR (begunR n key val gone back rid job).jobs (nextI n.jobId) = (n.jobs.length : Int)) :
  fn (C1 (-2)) 109 [] [(aNd n),.str key,.str val,.bool gone,.agg [.str back.name,.int .u64 (back.id : Int),.int .i64 back.fr,.int .i64 back.un,.int .i64 back.ix,.str back.tag],.int .i64 rid,.int .i64 job] = ndRes (moreFin (begunR n key val gone back rid job) n.jobs.length (askR (nextI n.jobId) (begunR n key val gone back rid job).list (copyJ n (putR n.items key val gone).2.1 back rid job))) := by
 obtain ⟨g,hg⟩ : ∃ g : Int,g = -2 := ⟨_,rfl⟩
 have nl := nlB_A
 rw [← hg] at nl ⊢
 have on : True := trivial
 have il := h.il
 have jl := h.jl
 have pu := e164 n.items key val gone (by omega) hk
 have hb : beginE n key val gone = (putR n.items key val gone).2.2 := by
  unfold beginE at he ⊢
  split at he
  ·omega
  ·rw [if_neg (by assumption)]
 have h8 : ¬ 8 ≤ n.jobs.length := by
  intro h8; unfold beginE at he; rw [if_pos h8] at he; omega
 rw [hb] at he
 clear hb
 have hmid : (begunR n key val gone back rid job).mid 100000 := (mid_begun key val gone back rid job hk h).le (by omega)
 rw [fn_textN (C := C1 g) Tryz.func109 rfl rfl Tryz.results109 (show (C1 g).M.loc 109 = _ from fq109.1) rfl rfl (by kernel_rfl)]
 simp -implicitDefEqProofs -dsimp +contextual (maxSteps := 9999999) (disch := first | omega | simp only [go_sem] <;> omega | refine ib ?_; kernel_rfl) only [go_sem,seval,↓reduceIte,nl]
 refine il_on0 n (h.le (by omega)) g (by omega) _ ?_ _ _ fun H' W hfr => ?_
 ·intro o ho; repeat (first | rfl | rw [Heap.set_ne _ _ (by omega)])
 obtain ⟨W1,W2,W3,W4,W5⟩ := W
 have g4 : (H' 114).gen = 1 := by rw [hfr 114 (by omega)]; rfl
 have m4 : (H' 114).mode = .live := by rw [hfr 114 (by omega)]; rfl
 obtain ⟨r,hr,H4r⟩ : ∃ r : List AVal,r.length = 22 ∧ (H' 114).rows = [r] := by rw [hfr 114 (by omega)]; exact ⟨_,rfl,rfl⟩
 have h11 : H' 111 = ⟨1,.live,6,[[.str back.name,.int .u64 (back.id : Int),.int .i64 back.fr,.int .i64 back.un,.int .i64 back.ix,.str back.tag]],false⟩ := by rw [hfr 111 (by omega)]; rfl
 have h18 : H' 118 = ⟨0,.dead,0,[],false⟩ := by rw [hfr 118 (by omega)]; rfl
 have hx := Jb_appN n (putR n.items key val gone).2.1 back rid job
 simp -implicitDefEqProofs -dsimp +contextual (maxSteps := 9999999) (disch := first | omega | simp only [go_sem] <;> omega | refine ib ?_; kernel_rfl) only [go_sem,seval,↓reduceIte,nl,W1,W2,W3,W4,W5,pu,h11,h18,g4,m4,hr,H4r,h8,he,hx]
 clear hx
 have him : n.jobs.length < (begunR n key val gone back rid job).jobs.length := by simp [begunR]
 have hmj : (begunR n key val gone back rid job).jobs[n.jobs.length] = copyJ n (putR n.items key val gone).2.1 back rid job := by simp [begunR]
 refine il_moreN g (begunR n key val gone back rid job) (nextI n.jobId) n.jobs.length 2 (copyJ n (putR n.items key val gone).2.1 back rid job) him hmj hcop hmid rfl rfl rfl _ ?_ _ _ _ rfl ?_ ?_
 ·refine ⟨?_,W2,W3,rfl,W5⟩
  rw [begunR]; simp -implicitDefEqProofs -dsimp +contextual (maxSteps := 9999999) (disch := first | omega | simp only [go_sem] <;> omega | refine ib ?_; kernel_rfl) only [go_sem,seval,↓reduceIte,List.length_append,List.length_singleton]
 ·intro H2 A X M2 A2 X2 hf2 hw
  obtain ⟨Y1,Y2,Y3,Y4,Y5⟩ := M2
  have k4 : (H2 114).gen = 1 := by rw [hf2 114 (by omega)]; exact g4
  have n4 : (H2 114).mode = .live := by rw [hf2 114 (by omega)]; exact m4
  have r4 : (H2 114).rows = [r] := by rw [hf2 114 (by omega)]; exact H4r
  generalize askR (nextI n.jobId) (begunR n key val gone back rid job).list (copyJ n (putR n.items key val gone).2.1 back rid job) = q at *
  obtain ⟨j,acts⟩ := q
  have hmf : moreFin (begunR n key val gone back rid job) n.jobs.length (j,acts) = ({ begunR n key val gone back rid job with jobs := (begunR n key val gone back rid job).jobs.set n.jobs.length j },acts) := by unfold moreFin; rw [if_pos hw]
  rw [hmf]
  clear hmf hw on
  generalize begunR n key val gone back rid job = m at *
  obtain ⟨ga,rfl,ha⟩ := A2
  try simp only at Y1 Y4 ha X2
  rcases X2 with ⟨rfl,rfl⟩ | ⟨gx,rfl,hX⟩
  ·simp -implicitDefEqProofs -dsimp +contextual (maxSteps := 9999999) (disch := first | omega | simp only [go_sem] <;> omega | refine ib ?_; kernel_rfl) only [go_sem,seval,↓reduceIte]
   rw [il_text (C := C1 g) Tryz.func166 rfl Tryz.results166 (show (C1 g).M.loc 166 = _ from fq166.1) (by kernel_rfl)]
   simp -implicitDefEqProofs -dsimp +contextual (maxSteps := 9999999) (disch := first | omega | simp only [go_sem] <;> omega | refine ib ?_; kernel_rfl) only [go_sem,seval,↓reduceIte,nl,Y1,Y2,Y3,Y4,Y5,k4,n4,hr,r4,ha,k_rowsG,him]
   rfl
  ·simp -implicitDefEqProofs -dsimp +contextual (maxSteps := 9999999) (disch := first | omega | simp only [go_sem] <;> omega | refine ib ?_; kernel_rfl) only [go_sem,seval,↓reduceIte]
   rw [il_text (C := C1 g) Tryz.func166 rfl Tryz.results166 (show (C1 g).M.loc 166 = _ from fq166.1) (by kernel_rfl)]
   simp -implicitDefEqProofs -dsimp +contextual (maxSteps := 9999999) (disch := first | omega | simp only [go_sem] <;> omega | refine ib ?_; kernel_rfl) only [go_sem,seval,↓reduceIte,nl,Y1,Y2,Y3,Y4,Y5,k4,n4,hr,r4,ha,hX,k_rowsG,him]
   rfl
 ·intro H2 M2 hf2 hw
  have k4 : (H2 114).gen = 1 := by rw [hf2 114 (by omega)]; exact g4
  have n4 : (H2 114).mode = .live := by rw [hf2 114 (by omega)]; exact m4
  have r4 : (H2 114).rows = [r] := by rw [hf2 114 (by omega)]; exact H4r
  clear hw on
  generalize moreFin (begunR n key val gone back rid job) n.jobs.length (askR (nextI n.jobId) (begunR n key val gone back rid job).list (copyJ n (putR n.items key val gone).2.1 back rid job)) = q at *
  obtain ⟨m,acts⟩ := q
  unfold WorkAt at M2
  simp only [aNd,Nat.reduceMul,Nat.reduceAdd] at M2
  obtain ⟨A,a,b,c,d,X,Y1,Y2,Y3,Y4,Y5,hX⟩ := M2
  rcases hX with ⟨rfl,rfl⟩ | ⟨rfl,hX⟩
  ·simp -implicitDefEqProofs -dsimp +contextual (maxSteps := 9999999) (disch := first | omega | simp only [go_sem] <;> omega | refine ib ?_; kernel_rfl) only [go_sem,seval,↓reduceIte]
   rw [il_text (C := C1 g) Tryz.func166 rfl Tryz.results166 (show (C1 g).M.loc 166 = _ from fq166.1) (by kernel_rfl)]
   simp -implicitDefEqProofs -dsimp +contextual (maxSteps := 9999999) (disch := first | omega | simp only [go_sem] <;> omega | refine ib ?_; kernel_rfl) only [go_sem,seval,↓reduceIte,nl,Y1,Y2,Y3,Y4,Y5,k4,n4,hr,r4]
   rfl
  ·simp -implicitDefEqProofs -dsimp +contextual (maxSteps := 9999999) (disch := first | omega | simp only [go_sem] <;> omega | refine ib ?_; kernel_rfl) only [go_sem,seval,↓reduceIte]
   rw [il_text (C := C1 g) Tryz.func166 rfl Tryz.results166 (show (C1 g).M.loc 166 = _ from fq166.1) (by kernel_rfl)]
   simp -implicitDefEqProofs -dsimp +contextual (maxSteps := 9999999) (disch := first | omega | simp only [go_sem] <;> omega | refine ib ?_; kernel_rfl) only [go_sem,seval,↓reduceIte,nl,Y1,Y2,Y3,Y4,Y5,k4,n4,hr,r4,hX]
   rfl
def jId (j : Jb) : Jb := { jbZ with id := j.id,kind := j.kind }
def jRow (r : List AVal) : Jb := match r with | .int _ a :: .int _ b :: _ => { jbZ with id := a,kind := b } | _ => jbZ
def itRow (r : List AVal) : It := match r with | [.str k,.str v,.int _ n,.bool g] => ⟨k,v,n,g⟩ | _ => zeroIt
def rowsA (v : AVal) (i : Nat) : List (List AVal) := match v with | .agg cs => (match cs[i]? with | some (.slice _ rows) => rows | _ => []) | _ => []
def intA (v : AVal) (i : Nat) : Int := match v with | .agg cs => (match cs[i]? with | some (.int _ n) => n | _ => 0) | _ => 0
def ndZ : Nd := ⟨enZ,0,[],0,[],false,[],[],[],[],[],[],[],0,0,[],[]⟩
def ndA (v : AVal) : Nd := { ndZ with items := (rowsA v 16).map itRow,jobs := (rowsA v 17).map jRow,jobId := intA v 19 }
def gmM (ds : List AVal) : Int := match ds with | v :: .int _ id :: _ => copR (ndA v).jobs id | _ => -1
def gmB (ds : List AVal) : Int := match ds with
 | v :: .str k :: .str x :: .bool g :: _ => if beginE (ndA v) k x g = 0 then
   (if copR (begunR (ndA v) k x g enZ 0 0).jobs (nextI (ndA v).jobId) = ((ndA v).jobs.length : Int) then -2 else copR (begunR (ndA v) k x g enZ 0 0).jobs (nextI (ndA v).jobId)) else -1
 | _ => -1
theorem placeG_map {α β : Type} (f : α → β) (q : β → Bool) (l : List α) : placeG q (l.map f) = placeG (fun a => q (f a)) l := by
 unfold placeG
 rw [List.findIdx_map,List.length_map]
 rfl
theorem copR_map (f : Jb → Jb) (h1 : ∀ j,(f j).id = j.id) (h2 : ∀ j,(f j).kind = j.kind) (l : List Jb) (id : Int) : copR (l.map f) id = copR l id := by
 have e : findR (l.map f) id = findR l id := by
  unfold findR
  rw [placeG_map]
  congr 1
  funext j
  simp [jobAt,h1]
 unfold copR
 rw [e]
 rcases findR_cases l id with ⟨i,hi,_,_,hf⟩ | ⟨_,hf⟩
 ·have e2 : (jobG (l.map f) (findR l id).toNat).kind = (jobG l (findR l id).toNat).kind := by
   rw [hf,Int.toNat_natCast,jobG_at hi,jobG_at (by simpa using hi),List.getElem_map,h2]
  rw [e2]
 ·rw [hf]; simp
theorem jRow_map (l : List Jb) : (l.map Jb.cs).map jRow = l.map jId := by
 rw [List.map_map]; rfl
theorem itRow_map (l : List It) : (l.map It.cs).map itRow = l := by
 rw [List.map_map]
 exact List.map_id l
theorem gmB_eq (n : Nd) (k x : List UInt8) (g : Bool) (back : En) (rid job : Int) (rest : List AVal) : gmB (((aNd n)) :: .str k :: .str x :: .bool g :: rest) =
  if beginE n k x g = 0 then (if copR (begunR n k x g back rid job).jobs (nextI n.jobId) = (n.jobs.length : Int) then -2 else copR (begunR n k x g back rid job).jobs (nextI n.jobId)) else -1 := by
 have e0 : ndA ((aNd n)) = { ndZ with items := n.items,jobs := n.jobs.map jId,jobId := n.jobId } := by
  show ({ ndZ with items := (n.items.map It.cs).map itRow,jobs := (n.jobs.map Jb.cs).map jRow,jobId := n.jobId } : Nd) = _
  rw [itRow_map,jRow_map]
 show (if beginE (ndA ((aNd n))) k x g = 0 then _ else _) = _
 rw [e0]
 have e1 : beginE { ndZ with items := n.items,jobs := n.jobs.map jId,jobId := n.jobId } k x g = beginE n k x g := by
  unfold beginE; simp
 rw [e1]
 have e2 : copR (begunR { ndZ with items := n.items,jobs := n.jobs.map jId,jobId := n.jobId } k x g enZ 0 0).jobs (nextI n.jobId) = copR (begunR n k x g back rid job).jobs (nextI n.jobId) := by
  rw [← copR_map jId (fun _ => rfl) (fun _ => rfl),← copR_map jId (fun _ => rfl) (fun _ => rfl) (begunR n k x g back rid job).jobs]
  congr 1
  simp [begunR,copyJ,jId,jbZ]
 simp only [e2,List.length_map]
noncomputable def own2 : Own := fun f => if f = 109 then some (fun ex ds => fn (C1 (gmB ds)) f ex ds) else if f = 999999 then some (fun ex ds => fn (C1 (gmM ds)) f ex ds) else if f = 203 then some (fun ex ds => fn (C1 (gmM ds)) f ex ds)
 else if f ∈ [999999,999999,999999,999999,999999,243,135] then none else some (fun ex ds => fn C f ex ds)
theorem own2_ok : OwnOk E own2 := by
 intro f g ex ds q hf hg
 unfold own2 at hf
 split at hf
 ·simp only [aNd,Option.some.injEq] at hf
  subst hf
  exact fnE_sound mixed own1_ok hg
 ·split at hf
  ·simp only [aNd,Option.some.injEq] at hf
   subst hf
   exact fnE_sound mixed own1_ok hg
  ·split at hf
   ·simp only [aNd,Option.some.injEq] at hf
    subst hf
    exact fnE_sound mixed own1_ok hg
   ·split at hf
    ·cases hf
    ·simp only [aNd,Option.some.injEq] at hf
     subst hf
     exact fnE_sound mixed own_ok hg
noncomputable def C2 : Cf := ⟨E,M,own2⟩
@[go_sem] theorem C2_E : C2.E = E := rfl
@[go_sem] theorem C2_M : C2.M = M := rfl
theorem c2_fn (f : FuncId) (h1 : f ≠ 109) (h2 : f ≠ 999999) (h3 : f ≠ 203) (h4 : f ∉ [999999,999999,999999,999999,999999,243,135]) (ex ds) : fn C2 f ex ds = fn C f ex ds :=
 fn_own (g := fun ex ds => fn C f ex ds) (by show own2 f = _; unfold own2; rw [if_neg h1,if_neg h2,if_neg h3,if_neg h4]) ex ds
theorem eBegin (n : Nd) (key val : List UInt8) (gone : Bool) (back : En) (rid job : Int) (h : n.mid 90000) (hk : key.length ≤ 9223372036854775807) (hc : 0 ≤ n.clock ∧ n.clock ≤ 1099511627776) :
  fn C2 109 [] [(aNd n),.str key,.str val,.bool gone,.agg [.str back.name,.int .u64 (back.id : Int),.int .i64 back.fr,.int .i64 back.un,.int .i64 back.ix,.str back.tag],.int .i64 rid,.int .i64 job] = ndRes (beginR n key val gone back rid job) := by
 rw [fn_own (g := fun ex ds => fn (C1 (gmB ds)) 109 ex ds) (by show own2 109 = _; unfold own2; rw [if_pos rfl])]
 rw [gmB_eq n key val gone back rid job]
 unfold beginR
 by_cases he : beginE n key val gone = 0
 ·rw [if_pos he,if_pos he]
  have hlen : (begunR n key val gone back rid job).jobs.length = n.jobs.length + 1 := by simp [begunR]
  rcases copR_cases (begunR n key val gone back rid job).jobs (nextI n.jobId) with ⟨i,hi,hc1⟩ | hc1
  ·rw [moreR_at hi hc1,hc1]
   by_cases hl : i = n.jobs.length
   ·subst hl
    rw [if_pos rfl,eBeginA n key val gone back rid job h hk hc he hc1]
    have e : (begunR n key val gone back rid job).jobs[n.jobs.length] = copyJ n (putR n.items key val gone).2.1 back rid job := by simp [begunR]
    rw [e]
   ·have hi' : i < n.jobs.length := by omega
    rw [if_neg (by omega),eBeginB n key val gone back rid job h hk hc he i hi' hc1]
    have e : (begunR n key val gone back rid job).jobs[i] = n.jobs[i] := List.getElem_append_left hi'
    rw [e]
  ·rw [moreR_none hc1,hc1,if_neg (by omega)]
   exact eBeginN n key val gone back rid job h hk hc he hc1
 ·rw [if_neg he,if_neg he]
  unfold tellR
  split
  ·rename_i hj; subst hj; exact eBeginE0 n key val gone back rid 0 h hk hc he rfl
  ·rename_i hj; exact eBeginE1 n key val gone back rid job h hk hc he hj
def okC2 (f : FuncId) : Bool := decide (f ≠ 109) && decide (f ≠ 999999) && decide (f ≠ 203) && decide (f ∉ [999999,999999,999999,999999,999999,243,135])
theorem C2_C (f : FuncId) (h : okC2 f = true) (ex ds) : fn C2 f ex ds = fn C f ex ds := by
 simp only [okC2,Bool.and_eq_true,decide_eq_true_eq] at h
 exact c2_fn f h.1.1.1 h.1.1.2 h.1.2 h.2 ex ds
def zeroPr : Pr := ⟨⟨[],0,0,0,0,[]⟩,0,0⟩
@[go_sem] theorem distR_le (a b : Nat) : distR a b ≤ 18446744073709551615 := by unfold distR; omega
@[go_sem] theorem e101 (a b : Nat) (ha : a ≤ 18446744073709551615) (hb : b ≤ 18446744073709551615) : fn C 101 [] [.int .u64 (a : Int),.int .u64 (b : Int)] = some (.int .u64 (distR a b : Int),[]) := by
 rw [fn_text Tryz.func101 rfl rfl Tryz.results101 fq101.1 rfl rfl (by kernel_rfl)]
 by_cases h : a ≤ b
 ·have e : IntKind.u64.wrap ((b : Int) - a) = ((distR a b : Nat) : Int) := by rw [IntKind.wrap_u64,distR]; omega
  simp -implicitDefEqProofs -dsimp +contextual (maxSteps := 9999999) (disch := first | omega | simp only [go_sem] <;> omega | refine ib ?_; kernel_rfl) only [go_sem,seval,↓reduceIte,h,e]
  rw [show b - a = distR a b by unfold distR; omega]
 ·have e1 : IntKind.u64.wrap (18446744073709551615 - (a : Int)) = ((18446744073709551615 - a : Nat) : Int) := by rw [IntKind.wrap_u64]; omega
  have e2 : IntKind.u64.wrap (((18446744073709551615 - a + b : Nat) : Int)) = ((18446744073709551615 - a + b : Nat) : Int) := by rw [IntKind.wrap_u64]; omega
  have e3 : IntKind.u64.wrap (((18446744073709551615 - a + b + 1 : Nat) : Int)) = ((distR a b : Nat) : Int) := by rw [IntKind.wrap_u64,distR]; omega
  simp -implicitDefEqProofs -dsimp +contextual (maxSteps := 9999999) (disch := first | omega | simp only [go_sem] <;> omega | refine ib ?_; kernel_rfl) only [go_sem,seval,↓reduceIte,h,e1,e2,e3]
end Go.Proofs.YtnpkhdjgedeppaaGreatDoor
namespace Go.Proofs.YtnpkhdjgedeppaaGreatDoor
set_option maxHeartbeats 64000000
open Go.Am
set_option linter.unusedSimpArgs false
set_option linter.unusedVariables false
set_option maxRecDepth 100000
attribute [local irreducible] distR
def bestS (key : Nat) (b : En) (p : Pr) : En := if distR key p.e.id < distR key b.id then p.e else b
def ownerR (me : En) (l : List Pr) (key : Nat) : En := l.foldl (bestS key) me
theorem ownerR_eq (me : En) (l : List Pr) (key : Nat) : ownerR me l key = l.foldl (bestS key) me := rfl
theorem foldl_take_succ {α β : Type} (f : β → α → β) (b : β) (l : List α) (i : Nat) (h : i < l.length) : (l.take (i + 1)).foldl f b = f ((l.take i).foldl f b) l[i] := by
 rw [List.take_succ_eq_append_getElem h,List.foldl_append]; rfl
theorem best_succ (me : En) (l : List Pr) (key i : Nat) (h : i < l.length) : (l.take (i + 1)).foldl (bestS key) me = bestS key ((l.take i).foldl (bestS key) me) l[i] := foldl_take_succ (bestS key) me l i h
theorem best_id (key : Nat) (l : List Pr) (hp : ∀ p ∈ l,p.e.id ≤ 18446744073709551615) (me : En) (hm : me.id ≤ 18446744073709551615) : (l.foldl (bestS key) me).id ≤ 18446744073709551615 := by
 induction l generalizing me with
 | nil => exact hm
 | cons p l ih =>
  refine ih (fun q hq => hp q (List.mem_cons_of_mem _ hq)) _ ?_
  unfold bestS
  split
  ·exact hp p (List.mem_cons_self ..)
  ·exact hm
@[go_sem] theorem e128 (me : En) (l : List Pr) (key : Nat) (hk : key ≤ 18446744073709551615) (hm : me.id ≤ 18446744073709551615) (hl : l.length ≤ 9223372036854775807) (hp : ∀ p ∈ l,p.e.id ≤ 18446744073709551615) : fn C 128 [] [.agg [.str me.name,.int .u64 (me.id : Int),.int .i64 me.fr,.int .i64 me.un,.int .i64 me.ix,.str me.tag],.slice 8 (l.map Pr.cs),.int .u64 (key : Int)] = some (.agg [.str (ownerR me l key).name,.int .u64 ((ownerR me l key).id : Int),.int .i64 (ownerR me l key).fr,.int .i64 (ownerR me l key).un,.int .i64 (ownerR me l key).ix,.str (ownerR me l key).tag],[]) := by
 rw [fn_text Tryz.func128 rfl rfl Tryz.results128 fq128.1 rfl rfl (by kernel_rfl)]
 rw [ownerR_eq]
 simp -implicitDefEqProofs -dsimp +contextual (maxSteps := 9999999) (disch := first | omega | simp only [go_sem] <;> omega | refine ib ?_; kernel_rfl) only [go_sem,seval,↓reduceIte]
 refine kFor l.length (fun i f H => f 2 = .int .u64 (key : Int) ∧ f 6 = .ptr 106 1 0 0 ∧ f 7 = .ptr 107 1 0 0 ∧ f 11 = .slice 8 (l.map Pr.cs) ∧ f 12 = .int .i64 l.length ∧ f 13 = .int .i64 (i : Nat) ∧ H 107 = ⟨1,.live,6,[((l.take i).foldl (bestS key) me).cs],false⟩ ∧ (H 106).gen = 1 ∧ (H 106).mode = .live ∧ (∃ r : List AVal,r.length = 6 ∧ (H 106).rows = [r])) ?_ ?_ (by exact ⟨rfl,rfl,rfl,rfl,rfl,rfl,rfl,rfl,rfl,⟨_,rfl,rfl⟩⟩)
 ·rintro i f H hi ⟨f2,f6,f7,f11,f12,f13,H7,H6g,H6m,H6⟩ ih
  have row := pr_row l i hi
  have hb := best_succ me l key i hi
  have h1 := hp _ (List.getElem_mem hi)
  have h2 := best_id key (l.take i) (fun q hq => hp q (List.mem_of_mem_take hq)) me hm
  generalize (l.take i).foldl (bestS key) me = b at *
  simp -implicitDefEqProofs -dsimp +contextual (maxSteps := 9999999) (disch := first | omega | simp only [go_sem] <;> omega | refine ib ?_; kernel_rfl) only [go_sem,seval,↓reduceIte,f2,f6,f7,f11,f12,f13,H7,hi,row,h1,h2]
  (repeat' (refine kD_intro (fun _ => ?_) (fun _ => ?_)))
  ·rename_i hd
   refine ih _ _ ⟨f2,f6,f7,f11,f12,rfl,?_,by simpa [Heap.set] using H6g,by simpa [Heap.set] using H6m,by simpa [Heap.set] using H6⟩
   rw [hb,bestS,if_pos hd]; rfl
  ·rename_i hd
   refine ih _ _ ⟨f2,f6,f7,f11,f12,rfl,?_,by simpa [Heap.set] using H6g,by simpa [Heap.set] using H6m,by simpa [Heap.set] using H6⟩
   rw [hb,bestS,if_neg hd]; simp [Heap.set,H7]
 ·rintro f H ⟨f2,f6,f7,f11,f12,f13,H7,H6g,H6m,r,hr,H6⟩
  rw [List.take_length] at H7
  simp -implicitDefEqProofs -dsimp +contextual (maxSteps := 9999999) (disch := first | omega | simp only [go_sem] <;> omega | refine ib ?_; kernel_rfl) only [go_sem,seval,↓reduceIte,f2,f6,f7,f11,f12,f13,H7,H6g,H6m,H6,hr]
end Go.Proofs.YtnpkhdjgedeppaaGreatDoor
namespace Go.Proofs.YtnpkhdjgedeppaaGreatDoor
set_option maxHeartbeats 64000000
open Go.Am
set_option linter.unusedSimpArgs false
set_option linter.unusedVariables false
set_option maxRecDepth 100000
def keyI (k : List UInt8) : Nat := idB (keyS ++ k)
def mineJ (j : Jb) : Bool := decide (j.kind = 1) || decide (j.kind = 2) || decide (j.kind = 3)
def cliP (l : List Jb) (id : Int) : Int := if 0 ≤ findR l id ∧ mineJ (jobG l (findR l id).toNat) = true then findR l id else -1
def findM (k : List UInt8) : Ms := { msZ with kind := 6,id := keyI k }
def actM (j : Jb) : Ms := if j.kind = 3 then { msZ with kind := 10,key := j.key } else { msZ with kind := 8,key := j.key,val := j.val,gone := decide (j.kind = 2) }
def askC (n : Nd) (i : Nat) (j : Jb) (to : En) (id : Int) : Nd × List Ac := ({ n with jobs := n.jobs.set i { j with phase := 1,owner := to } },[⟨false,to,findM j.key,5,id⟩])
def seekC (n : Nd) (i : Nat) (id : Int) : Nd × List Ac :=
 if ownerR n.me n.list (keyI (jobG n.jobs i).key) = n.me then
  if (jobG n.jobs i).kind = 3 then (settleR n id (getR n.items (jobG n.jobs i).key).1 ((getR n.items (jobG n.jobs i).key).2 && !(getR n.items (jobG n.jobs i).key).1.g) 0,[])
  else beginR { n with jobs := n.jobs.set i { jobG n.jobs i with phase := 2 } } (jobG n.jobs i).key (jobG n.jobs i).val (decide ((jobG n.jobs i).kind = 2)) enZ 0 id
 else askC n i (jobG n.jobs i) (ownerR n.me n.list (keyI (jobG n.jobs i).key)) id
def seekR (n : Nd) (id : Int) : Nd × List Ac := if 0 ≤ cliP n.jobs id then seekC n (cliP n.jobs id).toNat id else (n,[])
def newC (n : Nd) (kind : Int) (key val : List UInt8) : Jb := { jbZ with id := nextI n.jobId,kind := kind,key := key,val := if kind = 1 then val else [],til := n.clock + 480 }
def addC (n : Nd) (kind : Int) (key val : List UInt8) : Nd := { n with jobId := nextI n.jobId,jobs := n.jobs ++ [newC n kind key val] }
def begE (n : Nd) (kind : Int) (key val : List UInt8) : Int :=
 if kind < 1 ∨ 3 < kind ∨ keyR key = false ∨ 32 < val.length then 2 else if n.ready = false ∨ 8 ≤ n.jobs.length ∨ n.jobs.any mineJ = true then 41 else 0
def begC (n : Nd) (kind : Int) (key val : List UInt8) : Nd × List Ac := if begE n kind key val = 0 then seekR (addC n kind key val) (nextI n.jobId) else (n,[])
def failC (n : Nd) (id e : Int) : Nd × List Ac := (settleR n id zeroIt false e,[])
def againC (n : Nd) (i : Nat) (id why : Int) : Nd × List Ac :=
 if 3 ≤ (jobG n.jobs i).tries then failC n id why else seekC { n with jobs := n.jobs.set i { jobG n.jobs i with tries := (jobG n.jobs i).tries + 1 } } i id
def failedC (n : Nd) (id : Int) : Nd × List Ac := if 0 ≤ cliP n.jobs id then againC n (cliP n.jobs id).toNat id 43 else (n,[])
end Go.Proofs.YtnpkhdjgedeppaaGreatDoor
namespace Go.Proofs.YtnpkhdjgedeppaaGreatDoor
set_option maxHeartbeats 64000000
open Go.Am
set_option linter.unusedSimpArgs false
set_option linter.unusedVariables false
set_option maxRecDepth 100000
attribute [local irreducible] distR idB sumB
theorem cliP_cases (l : List Jb) (id : Int) : (∃ i : Nat,∃ h : i < l.length,l[i].id = id ∧ mineJ l[i] = true ∧ findR l id = (i : Int) ∧ cliP l id = (i : Int)) ∨ (cliP l id = -1 ∧ ((findR l id = -1) ∨ ∃ i : Nat,∃ h : i < l.length,findR l id = (i : Int) ∧ mineJ l[i] = false)) := by
 unfold cliP
 rcases findR_cases l id with ⟨i,hi,hid,_,hf⟩ | ⟨_,hf⟩
 ·cases hm : mineJ l[i] with
  | true => left; exact ⟨i,hi,hid,hm,hf,by rw [hf,Int.toNat_natCast,jobG_at hi,if_pos ⟨by omega,hm⟩]⟩
  | false => right; exact ⟨by rw [hf,Int.toNat_natCast,jobG_at hi,if_neg (by simp [hm])],.inr ⟨i,hi,hf,hm⟩⟩
 ·right; exact ⟨by rw [hf,if_neg (by omega)],.inl hf⟩
theorem mineJ_iff (j : Jb) : mineJ j = true ↔ j.kind = 1 ∨ j.kind = 2 ∨ j.kind = 3 := by
 unfold mineJ; simp [or_assoc]
theorem seekR_at {n : Nd} {id : Int} {i : Nat} (h : cliP n.jobs id = (i : Int)) : seekR n id = seekC n i id := by
 rw [seekR,h,if_pos (by omega),Int.toNat_natCast]
theorem seekR_none {n : Nd} {id : Int} (h : cliP n.jobs id = -1) : seekR n id = (n,[]) := by
 rw [seekR,h,if_neg (by omega)]
theorem failedC_at {n : Nd} {id : Int} {i : Nat} (h : cliP n.jobs id = (i : Int)) : failedC n id = againC n i id 43 := by
 rw [failedC,h,if_pos (by omega),Int.toNat_natCast]
theorem nextI_pos (a : Int) : 1 ≤ nextI a := by unfold nextI; split <;> omega
theorem nextI_ne (a : Int) : nextI (nextI a) ≠ nextI a := by
 have := nextI_pos a
 generalize nextI a = b at *
 unfold nextI; split <;> omega
theorem findR_one {j : Jb} {id : Int} (h : j.id = id) : findR [j] id = ((0 : Nat) : Int) := placeG_at (i := 0) (by simp) (by simp) (by simp [jobAt,h])
def doneN (n : Nd) (k : Int) (key val : List UInt8) (x : It) (has : Bool) : List Rs := lastR (n.results ++ [resR (nextI n.jobId) (newC n k key val) x has 0])
theorem settle_one {n : Nd} {id : Int} {j : Jb} (hj : n.jobs = [j]) (h : j.id = id) (x : It) (has : Bool) (e : Int) : settleR n id x has e = { n with jobs := [],results := lastR (n.results ++ [resR id j x has e]) } := by
 unfold settleR
 rw [hj,findR_one h,if_pos (by omega)]
 rfl
theorem begC_ok {n : Nd} {k : Int} {key val : List UInt8} (hj : n.jobs = []) (hr : n.ready = true) (hk : 1 ≤ k ∧ k ≤ 3) (h1 : keyR key = true) (h2 : val.length ≤ 32) : begC n k key val = seekC (addC n k key val) 0 (nextI n.jobId) := by
 have e : begE n k key val = 0 := by
  unfold begE
  rw [if_neg (by rw [h1]; simp; omega),if_neg (by rw [hj,hr]; simp)]
 rw [begC,if_pos e]
 refine seekR_at ?_
 have hm : mineJ (newC n k key val) = true := (mineJ_iff _).2 (by show k = 1 ∨ k = 2 ∨ k = 3; omega)
 have ej : (addC n k key val).jobs = [newC n k key val] := by unfold addC; simp [hj]
 have hf : findR [newC n k key val] (nextI n.jobId) = ((0 : Nat) : Int) := findR_one rfl
 rw [ej]
 unfold cliP
 rw [hf,if_pos ⟨by omega,hm⟩]
theorem alone_put {n : Nd} {k : Int} {key val : List UInt8} (hl : n.list = []) (hj : n.jobs = []) (hr : n.ready = true) (hk : k = 1 ∨ k = 2) (h1 : keyR key = true) (h2 : val.length ≤ 32)
  (hp : (putR n.items key (if k = 1 then val else []) (decide (k = 2))).2.2 = 0) :
  begC n k key val = ({ n with items := (putR n.items key (if k = 1 then val else []) (decide (k = 2))).1,jobId := nextI (nextI n.jobId),results := doneN n k key val (putR n.items key (if k = 1 then val else []) (decide (k = 2))).2.1 (!(putR n.items key (if k = 1 then val else []) (decide (k = 2))).2.1.g) },[]) := by
 rw [begC_ok hj hr (by omega) h1 h2]
 have ej : (addC n k key val).jobs = [newC n k key val] := by unfold addC; simp [hj]
 unfold seekC
 rw [ej]
 have eg : jobG [newC n k key val] 0 = newC n k key val := rfl
 have el : (addC n k key val).list = [] := hl
 have ek : ¬ (newC n k key val).kind = 3 := by show ¬ k = 3; omega
 have eo : ownerR (addC n k key val).me (addC n k key val).list (keyI (newC n k key val).key) = (addC n k key val).me := by rw [el]; rfl
 rw [eg,if_pos eo,if_neg ek]
 obtain ⟨J,hJ⟩ : ∃ J : Jb,J = { newC n k key val with phase := 2 } := ⟨_,rfl⟩
 have hJi : J.id = nextI n.jobId := by rw [hJ]; rfl
 have hJk : (newC n k key val).key = key := rfl
 have hJv : (newC n k key val).val = if k = 1 then val else [] := rfl
 have hJd : (newC n k key val).kind = k := rfl
 have hset : [newC n k key val].set 0 { newC n k key val with phase := 2 } = [J] := by rw [hJ]; rfl
 rw [hset,hJk,hJv,hJd]
 generalize hw : (if k = 1 then val else []) = w at *
 generalize decide (k = 2) = g at *
 have he : beginE { addC n k key val with jobs := [J] } key w g = 0 := by
  unfold beginE
  rw [if_neg (by simp)]
  exact hp
 rw [beginR,if_pos he]
 obtain ⟨cj,hcj⟩ : ∃ cj : Jb,cj = copyJ { addC n k key val with jobs := [J] } (putR n.items key w g).2.1 enZ 0 (nextI n.jobId) := ⟨_,rfl⟩
 have hb : begunR { addC n k key val with jobs := [J] } key w g enZ 0 (nextI n.jobId) = { n with items := (putR n.items key w g).1,jobId := nextI (nextI n.jobId),jobs := [J,cj] } := by
  rw [hcj]; rfl
 rw [hb]
 have hcid : cj.id = nextI (nextI n.jobId) := by rw [hcj]; rfl
 have hck : cj.kind = 4 := by rw [hcj]; rfl
 have hcop : copR [J,cj] (nextI (nextI n.jobId)) = ((1 : Nat) : Int) := by
  refine copR_at (i := 1) (by simp) (placeG_at (i := 1) (by simp) ?_ (by simp [jobAt,hcid])) hck
  have := nextI_ne n.jobId
  simp [jobAt,hJi,this.symm]
 show moreR _ (nextI (nextI n.jobId)) = _
 rw [moreR_at (i := 1) (by simp) hcop]
 have ha : askR (nextI (nextI n.jobId)) n.list cj = (cj,[]) := by rw [hl]; rfl
 show moreFin _ 1 (askR _ n.list cj) = _
 rw [ha]
 have hw0 : ¬ 0 < cj.waits := by rw [hcj]; exact Int.lt_irrefl 0
 unfold moreFin
 rw [if_neg hw0]
 have hbj : cj.backJob = nextI n.jobId := by rw [hcj]; rfl
 have hit : cj.item = (putR n.items key w g).2.1 := by rw [hcj]; rfl
 have hne : ¬ nextI n.jobId = 0 := by have := nextI_pos n.jobId; omega
 have hpos : ¬ cj.backJob = 0 := by rw [hbj]; exact hne
 simp only [tellR,hbj,if_neg hne,List.append_nil,hit]
 rw [settle_one (j := J) (by rfl) hJi]
 show (_,_) = (_,_)
 congr 1
 unfold doneN resR
 rw [hJ,hj]
end Go.Proofs.YtnpkhdjgedeppaaGreatDoor
namespace Go.Proofs.YtnpkhdjgedeppaaGreatDoor
set_option maxHeartbeats 64000000
open Go.Am
set_option linter.unusedSimpArgs false
set_option linter.unusedVariables false
set_option maxRecDepth 100000
noncomputable def own4 : Own := fun f => if f ∈ [14,16,27,23,25,20,12,999999,999999,3,4] then none else some (fun ex ds => fn C2 f ex ds)
theorem own4_ok : OwnOk E own4 := by
 intro f g ex ds q hf hg
 unfold own4 at hf
 split at hf
 ·cases hf
 ·simp only [Option.some.injEq] at hf
  subst hf
  exact fnE_sound mixed own2_ok hg
noncomputable def M4 : Mds := { M with inls := [(69,60000),(149,80000),(70,100000),(71,120000),(105,140000),(91,160000),(94,200000),(92,220000),(93,240000),(103,260000),(104,280000)] }
noncomputable def C4 : Cf := ⟨E,M4,own4⟩
@[go_sem] theorem C4_E : C4.E = E := rfl
@[go_sem] theorem C4_M : C4.M = M4 := rfl
@[go_sem] theorem M4_par : M4.par = M.par := Eq.trans rfl rfl
@[go_sem] theorem M4_res : M4.res = M.res := Eq.trans rfl rfl
@[go_sem] theorem M4_loc : M4.loc = M.loc := Eq.trans rfl rfl
@[go_sem] theorem M4_nl : M4.nl = M.nl := Eq.trans rfl rfl
@[go_sem] theorem M4_cur : M4.cur = [] := Eq.trans rfl rfl
@[go_sem] theorem M4_base : M4.base = 0 := Eq.trans rfl rfl
@[go_sem] theorem M4_gh : M4.gh = none := Eq.trans rfl rfl
@[go_sem] theorem M4_inls : M4.inls = [(69,60000),(149,80000),(70,100000),(71,120000),(105,140000),(91,160000),(94,200000),(92,220000),(93,240000),(103,260000),(104,280000)] := Eq.trans rfl rfl
theorem c4_c2 (f : FuncId) (h : f ∉ [14,16,27,23,25,20,12,999999,999999,3,4]) (ex ds) : fn C4 f ex ds = fn C2 f ex ds :=
 fn_own (g := fun ex ds => fn C2 f ex ds) (by show own4 f = _; unfold own4; rw [if_neg h]) ex ds
def okC4 (f : FuncId) : Bool := decide (f ∉ [14,16,27,23,25,20,12,999999,999999,3,4]) && okC2 f
theorem c4_c (f : FuncId) (h : okC4 f = true) (ex ds) : fn C4 f ex ds = fn C f ex ds := by
 simp only [okC4,Bool.and_eq_true,decide_eq_true_eq] at h
 exact (c4_c2 f h.1 ex ds).trans (C2_C f h.2 ex ds)
@[go_sem] theorem c4_copies_Copy (ex ds) : fn C4 13 ex ds = fn C 13 ex ds := c4_c _ (by decide) ex ds
@[go_sem] theorem c4_copies_Find (ex ds) : fn C4 150 ex ds = fn C 150 ex ds := c4_c _ (by decide) ex ds
@[go_sem] theorem c4_copies_Settle (ex ds) : fn C4 86 ex ds = fn C 86 ex ds := c4_c _ (by decide) ex ds
@[go_sem] theorem c4_client_mine (ex ds) : fn C4 63 ex ds = fn C 63 ex ds := c4_c _ (by decide) ex ds
@[go_sem] theorem c4_label_Key (ex ds) : fn C4 64 ex ds = fn C 64 ex ds := c4_c _ (by decide) ex ds
@[go_sem] theorem c4_label_Val (ex ds) : fn C4 65 ex ds = fn C 65 ex ds := c4_c _ (by decide) ex ds
@[go_sem] theorem c4_peers_Owner (ex ds) : fn C4 128 ex ds = fn C 128 ex ds := c4_c _ (by decide) ex ds
@[go_sem] theorem c4_store_Get (ex ds) : fn C4 151 ex ds = fn C 151 ex ds := c4_c _ (by decide) ex ds
@[go_sem] theorem c4_Contains (ex ds) : fn C4 66 ex ds = fn C 66 ex ds := c4_c _ (by decide) ex ds
@[go_sem] theorem c4_gate_Take (ex ds) : fn C4 45 ex ds = fn C 45 ex ds := c4_c _ (by decide) ex ds
@[go_sem] theorem c4_arc_Dist (ex ds) : fn C4 158 ex ds = fn C 158 ex ds := c4_c _ (by decide) ex ds
@[go_sem] theorem c4_entry_Who (ex ds) : fn C4 88 ex ds = fn C 88 ex ds := c4_c _ (by decide) ex ds
@[go_sem] theorem c4_density_Check (ex ds) : fn C4 89 ex ds = fn C 89 ex ds := c4_c _ (by decide) ex ds
@[go_sem] theorem nl_on : M.nl 69 = [] := Eq.trans rfl rfl
@[go_sem] theorem nl_send : M.nl 149 = [] := Eq.trans rfl rfl
@[go_sem] theorem nl_seek : M.nl 70 = [] := Eq.trans rfl rfl
@[go_sem] theorem nl_done : M.nl 71 = [] := Eq.trans rfl rfl
@[go_sem] theorem nl_settle : M.nl 105 = [] := Eq.trans rfl rfl
@[go_sem] theorem nl_fail : M.nl 91 = [] := Eq.trans rfl rfl
@[go_sem] theorem c4_place (ex ds) : fn C4 90 ex ds = fn C 90 ex ds := c4_c _ (by decide) ex ds
@[go_sem] theorem nl_again : M.nl 103 = [] := Eq.trans rfl rfl
@[go_sem] theorem nl_nearer : M.nl 93 = [] := Eq.trans rfl rfl
@[go_sem] theorem nl_result : M.nl 104 = [] := Eq.trans rfl rfl
@[go_sem] theorem e63 (j : Jb) : fn C 63 [] [.agg [.int .i64 j.id,.int .i64 j.kind,.int .i64 j.phase,.int .i64 j.hops,.int .i64 j.tries,.int .i64 j.til,.str j.key,.str j.val,.str j.owner.name,.int .u64 (j.owner.id : Int),.int .i64 j.owner.fr,.int .i64 j.owner.un,.int .i64 j.owner.ix,.str j.owner.tag,.str j.item.k,.str j.item.v,.int .i64 j.item.n,.bool j.item.g,.int .i64 j.acks,.int .i64 j.waits,.slice 1 (j.asked.map strRow),.str j.back.name,.int .u64 (j.back.id : Int),.int .i64 j.back.fr,.int .i64 j.back.un,.int .i64 j.back.ix,.str j.back.tag,.int .i64 j.backRid,.int .i64 j.backJob]] = some (.bool (mineJ j),[]) := by
 rw [fn_text Tryz.func63 rfl rfl Tryz.results63 fq63.1 rfl rfl (by kernel_rfl)]
 simp -implicitDefEqProofs -dsimp +contextual (maxSteps := 9999999) (disch := first | omega | simp only [go_sem] <;> omega | refine ib ?_; kernel_rfl) only [go_sem,seval,↓reduceIte]
 (repeat' (refine kD_intro (fun _ => ?_) (fun _ => ?_))) <;> exact Res_bool (by unfold mineJ; simp [*])
theorem ePlace (c0 c1 c2 c3 c4 c5 c6 c7 c8 c9 c10 c11 c12 c13 c14 c15 c16 c17 c18 c19 c20 c21 r0 r1 r2 r3 r4 r5 r7 r8 r9 r10 r11 r12 r13 r14 r15 r16 r17 r18 r19 r20 r21 r22 r23 r24 r25 r26 r27 r28 X F : AVal) (key : List UInt8) (hk : key.length ≤ 10000) : fn C 90 [] [.iptr [c0,c1,c2,c3,c4,c5,c6,c7,c8,c9,c10,c11,c12,c13,c14,c15,c16,c17,c18,c19,c20,c21,.iptr [r0,r1,r2,r3,r4,r5,.str key,r7,r8,r9,r10,r11,r12,r13,r14,r15,r16,r17,r18,r19,r20,r21,r22,r23,r24,r25,r26,r27,r28],X,F]] = some (.int .u64 (keyI key : Int),[]) := by
 have li := e129 key hk
 rw [keyI]
 rw [fn_text Tryz.func90 rfl rfl Tryz.results90 fq90.1 rfl rfl (by kernel_rfl)]
 simp -implicitDefEqProofs -dsimp +contextual (maxSteps := 9999999) (disch := first | omega | simp only [go_sem] <;> omega | refine ib ?_; kernel_rfl) only [go_sem,seval,↓reduceIte,li]
def FreshC (H : Heap) : Prop := ∀ o,80000 ≤ o → (o < 60000000 ∨ 61000000 ≤ o) → H o = ⟨0,.dead,0,[],false⟩
def FreR (H : Heap) (lo : Nat) : Prop := ∀ o,(lo ≤ o ∧ o < lo + 20000) ∨ (lo * 1000 ≤ o ∧ o < (lo + 20000) * 1000) → H o = ⟨0,.dead,0,[],false⟩
structure WorkC (H : Heap) (n : Nd) (id : Int) (J : AVal) : Prop where
 w : H 60111 = ⟨1,.live,25,[[.str n.me.name,.int .u64 (n.me.id : Int),.int .i64 n.me.fr,.int .i64 n.me.un,.int .i64 n.me.ix,.str n.me.tag,.int .i64 n.clock,.str n.psk,.int .i64 n.gateI,.str n.gateK,.bool n.ready,.slice 8 (n.pred.map Pr.cs),.slice 8 (n.list.map Pr.cs),.slice 9 (n.fingers.map Fg.cs),.osl 60109015 1 0 n.sessions.length,.osl 60109016 1 0 n.pends.length,.slice 4 (n.items.map It.cs),.osl 60109018 1 0 n.jobs.length,.int .i64 n.rid,.int .i64 n.jobId,.slice 1 (n.draws.map u64Row),.osl 60109022 1 0 n.results.length,J,.sc (.slice none 0 0),.fn (.func 149) [] [.ptr 60106 1 0 0,.ptr 60103 1 0 0]]],false⟩
 v : H 60106 = ⟨1,.live,1,[[.ptr 60111 1 0 0]],false⟩
 d : H 60103 = ⟨1,.live,1,[[.int .i64 id]],false⟩
 s : H 60109015 = ⟨1,.live,20,n.sessions.map Se.cs,false⟩
 p : H 60109016 = ⟨1,.live,23,n.pends.map Pd.cs,false⟩
 j : H 60109018 = ⟨1,.live,29,n.jobs.map Jb.cs,false⟩
 r : H 60109022 = ⟨1,.live,8,n.results.map Rs.cs,false⟩
def EndC (q : Nd × List Ac) (H : Heap) : Prop := ∃ (a b c d ga gb gc gd : Nat) (J X F : AVal),1000000 ≤ a ∧ 1000000 ≤ b ∧ 1000000 ≤ c ∧ 1000000 ≤ d ∧
 H 60111 = ⟨1,.live,25,[[.str q.1.me.name,.int .u64 (q.1.me.id : Int),.int .i64 q.1.me.fr,.int .i64 q.1.me.un,.int .i64 q.1.me.ix,.str q.1.me.tag,.int .i64 q.1.clock,.str q.1.psk,.int .i64 q.1.gateI,.str q.1.gateK,.bool q.1.ready,.slice 8 (q.1.pred.map Pr.cs),.slice 8 (q.1.list.map Pr.cs),.slice 9 (q.1.fingers.map Fg.cs),.osl a ga 0 q.1.sessions.length,.osl b gb 0 q.1.pends.length,.slice 4 (q.1.items.map It.cs),.osl c gc 0 q.1.jobs.length,.int .i64 q.1.rid,.int .i64 q.1.jobId,.slice 1 (q.1.draws.map u64Row),.osl d gd 0 q.1.results.length,J,X,F]],false⟩ ∧
 H a = ⟨ga,.live,20,q.1.sessions.map Se.cs,false⟩ ∧ H b = ⟨gb,.live,23,q.1.pends.map Pd.cs,false⟩ ∧ H c = ⟨gc,.live,29,q.1.jobs.map Jb.cs,false⟩ ∧ H d = ⟨gd,.live,8,q.1.results.map Rs.cs,false⟩ ∧
 ((X = .sc (.slice none 0 0) ∧ q.2 = []) ∨ (∃ x gx : Nat,X = .osl x gx 0 q.2.length ∧ 80000 ≤ x ∧ ¬ x = 120102 ∧ H x = ⟨gx,.live,20,q.2.map Ac.cs,false⟩))
theorem WorkC.far {H H' : Heap} {n : Nd} {id : Int} {J : AVal} (h : WorkC H n id J) (hf : ∀ o,(60000 ≤ o ∧ o < 80000) ∨ (60000000 ≤ o ∧ o < 61000000) → H' o = H o) : WorkC H' n id J :=
 ⟨(hf _ (by omega)).trans h.w,(hf _ (by omega)).trans h.v,(hf _ (by omega)).trans h.d,(hf _ (by omega)).trans h.s,(hf _ (by omega)).trans h.p,(hf _ (by omega)).trans h.j,(hf _ (by omega)).trans h.r⟩
theorem FreshC.fre {H : Heap} (h : FreshC H) (lo : Nat) (hl : 80000 ≤ lo) (hl2 : lo ≤ 1000000) : FreR H lo := fun o ho => h o (by omega) (by omega)
theorem WorkC.fin {H : Heap} {n : Nd} {id : Int} {J : AVal} (h : WorkC H n id J) : EndC (n,[]) H :=
 ⟨_,_,_,_,_,_,_,_,_,_,_,by omega,by omega,by omega,by omega,h.w,h.s,h.p,h.j,h.r,.inl ⟨rfl,rfl⟩⟩
theorem il_onC (n : Nd) (id : Int) (h : n.mid 1000000) (H : Heap) (hH : ∀ o,60000 ≤ o → H o = ⟨0,.dead,0,[],false⟩) (K : AVal × Heap → Option Res) (R : Option Res)
  (k1 : ∀ i H',i < n.jobs.length → cliP n.jobs id = (i : Int) → WorkC H' n id (.ptr 60109018 1 i 0) → FreshC H' → (∀ o,o < 60000 → H' o = H o) → K (.tup [.ptr 60111 1 0 0,.bool true],H') = R)
  (k0 : ∀ H',cliP n.jobs id = -1 → WorkC H' n id (.sc (.pointer none)) → FreshC H' → (∀ o,o < 60000 → H' o = H o) → K (.tup [.ptr 60111 1 0 0,.bool false],H') = R) : @kB _ _ (il C4 69 [(aNd n),.int .i64 id] H) ⟨K⟩ = R := by
 have jl := h.jl
 have g1 := hH 60102 (by omega); have g2 := hH 60103 (by omega); have g3 := hH 60106 (by omega); have g4 := hH 60111 (by omega); have g5 := hH 60109015 (by omega); have g6 := hH 60109016 (by omega); have g7 := hH 60109018 (by omega); have g8 := hH 60109022 (by omega)
 have cp := e13 n h
 rcases cliP_cases n.jobs id with ⟨i,hi,hid,hm,hf,hc⟩ | ⟨hc,hf | ⟨i,hi,hf,hm⟩⟩
 ·have row := jb_row n.jobs i hi
  have mi := e63 n.jobs[i]
  rw [hm] at mi
  rw [il_text (C := C4) Tryz.func69 rfl Tryz.results69 (show (C4).M.loc 69 = _ from fq69.1) (by kernel_rfl)]
  simp -implicitDefEqProofs -dsimp +contextual (maxSteps := 9999999) (disch := first | omega | simp only [go_sem] <;> omega | refine ib ?_; kernel_rfl) only [go_sem,seval,↓reduceIte,g1,g2,g3,g4,g5,g6,g7,g8,cp,hf,row,mi,Nat.not_lt_zero]
  exact k1 i _ hi hc ⟨rfl,rfl,rfl,rfl,rfl,rfl,rfl⟩ (fun o h1 h2 => by repeat (first | exact hH o (by omega) | rw [Heap.set_ne _ _ (by omega)])) (fun o ho => by repeat (first | rfl | rw [Heap.set_ne _ _ (by omega)]))
 ·rw [il_text (C := C4) Tryz.func69 rfl Tryz.results69 (show (C4).M.loc 69 = _ from fq69.1) (by kernel_rfl)]
  simp -implicitDefEqProofs -dsimp +contextual (maxSteps := 9999999) (disch := first | omega | simp only [go_sem] <;> omega | refine ib ?_; kernel_rfl) only [go_sem,seval,↓reduceIte,g1,g2,g3,g4,g5,g6,g7,g8,cp,hf]
  exact k0 _ hc ⟨rfl,rfl,rfl,rfl,rfl,rfl,rfl⟩ (fun o h1 h2 => by repeat (first | exact hH o (by omega) | rw [Heap.set_ne _ _ (by omega)])) (fun o ho => by repeat (first | rfl | rw [Heap.set_ne _ _ (by omega)]))
 ·have row := jb_row n.jobs i hi
  have mi := e63 n.jobs[i]
  rw [hm] at mi
  rw [il_text (C := C4) Tryz.func69 rfl Tryz.results69 (show (C4).M.loc 69 = _ from fq69.1) (by kernel_rfl)]
  simp -implicitDefEqProofs -dsimp +contextual (maxSteps := 9999999) (disch := first | omega | simp only [go_sem] <;> omega | refine ib ?_; kernel_rfl) only [go_sem,seval,↓reduceIte,g1,g2,g3,g4,g5,g6,g7,g8,cp,hf,row,mi,Nat.not_lt_zero]
  exact k0 _ hc ⟨rfl,rfl,rfl,rfl,rfl,rfl,rfl⟩ (fun o h1 h2 => by repeat (first | exact hH o (by omega) | rw [Heap.set_ne _ _ (by omega)])) (fun o ho => by repeat (first | rfl | rw [Heap.set_ne _ _ (by omega)]))
theorem il_settleC (n : Nd) (id : Int) (i : Nat) (hi : i < n.jobs.length) (hid : n.jobs[i].id = id) (h : n.mid 1000000) (x : It) (has : Bool) (e : Int) (H : Heap) (hW : WorkC H n id (.ptr 60109018 1 i 0)) (hF : FreR H 140000) (K : AVal × Heap → Option Res) (R : Option Res)
  (k : ∀ H',EndC (settleR n id x has e,[]) H' → (∀ o,o < 60000 → H' o = H o) → K (.tup [],H') = R) : @kB _ _ (il C4 105 [.ptr 60111 1 0 0,.agg [.str x.k,.str x.v,.int .i64 x.n,.bool x.g],.bool has,.int .i64 e] H) ⟨K⟩ = R := by
 obtain ⟨W1,W2,W3,W4,W5,W6,W7⟩ := hW
 have row := jb_row n.jobs i hi
 have se := e86 n id x has e h
 obtain ⟨js,rs,hs⟩ := settle_eta n id x has e
 rw [hs] at se k
 rw [Nd.ocs_eq] at se
 have g1 := hF 140105 (by omega)
 have g2 := hF 140123015 (by omega); have g3 := hF 140123016 (by omega); have g4 := hF 140123018 (by omega); have g5 := hF 140123022 (by omega)
 rw [il_text (C := C4) Tryz.func105 rfl Tryz.results105 (show (C4).M.loc 105 = _ from fq105.1) (by kernel_rfl)]
 simp -implicitDefEqProofs -dsimp +contextual (maxSteps := 9999999) (disch := first | omega | simp only [go_sem] <;> omega | refine ib ?_; kernel_rfl) only [go_sem,seval,↓reduceIte,W1,W2,W3,W4,W5,W6,W7,row,hid,se,g1,g2,g3,g4,g5]
 exact k _ ⟨140123015,140123016,140123018,140123022,1,1,1,1,_,_,_,by omega,by omega,by omega,by omega,rfl,rfl,rfl,rfl,rfl,.inl ⟨rfl,rfl⟩⟩ (fun o ho => by repeat (first | rfl | rw [Heap.set_ne _ _ (by omega)]))
end Go.Proofs.YtnpkhdjgedeppaaGreatDoor
namespace Go.Proofs.YtnpkhdjgedeppaaGreatDoor
set_option maxHeartbeats 64000000
open Go.Am
set_option linter.unusedSimpArgs false
set_option linter.unusedVariables false
set_option maxRecDepth 100000
attribute [local irreducible] distR idB sumB
theorem enEq (x y : En) : (x.name = y.name ∧ x.id = y.id ∧ x.fr = y.fr ∧ x.un = y.un ∧ x.ix = y.ix ∧ x.tag = y.tag) = (x = y) := propext (En.eq_iff x y).symm
structure CliK (n : Nd) : Prop where
 md : n.mid 80000
 me : n.me.id ≤ 18446744073709551615
 li : ∀ p ∈ n.list,p.e.id ≤ 18446744073709551615
 clock : 0 ≤ n.clock ∧ n.clock ≤ 1099511627776
 jk : ∀ j ∈ n.jobs,j.key.length ≤ 10000 ∧ j.val.length ≤ 10000
 ji : ∀ j ∈ n.jobs,-9223372036854775808 ≤ j.tries ∧ -9223372036854775808 ≤ j.hops
theorem mid_setj {n : Nd} {k : Nat} (i : Nat) (j j' : Jb) (h : n.mid k) (hj : j ∈ n.jobs) (ha : j'.asked = j.asked) : ({ n with jobs := n.jobs.set i j' } : Nd).mid k :=
 mid_set i j' h (by rw [ha]; exact h.ja j hj)
theorem set_at (l : List Jb) (i : Nat) (J : Jb) (h : i < l.length) : ((l.set i J).map Jb.cs)[i]? = some [.int .i64 J.id,.int .i64 J.kind,.int .i64 J.phase,.int .i64 J.hops,.int .i64 J.tries,.int .i64 J.til,.str J.key,.str J.val,.str J.owner.name,.int .u64 (J.owner.id : Int),.int .i64 J.owner.fr,.int .i64 J.owner.un,.int .i64 J.owner.ix,.str J.owner.tag,.str J.item.k,.str J.item.v,.int .i64 J.item.n,.bool J.item.g,.int .i64 J.acks,.int .i64 J.waits,.slice 1 (J.asked.map strRow),.str J.back.name,.int .u64 (J.back.id : Int),.int .i64 J.back.fr,.int .i64 J.back.un,.int .i64 J.back.ix,.str J.back.tag,.int .i64 J.backRid,.int .i64 J.backJob] := by
 rw [List.getElem?_map,List.getElem?_set_self h]; rfl
theorem set_cs (l : List Jb) (i : Nat) (j : Jb) : (l.map Jb.cs).set i [.int .i64 j.id,.int .i64 j.kind,.int .i64 j.phase,.int .i64 j.hops,.int .i64 j.tries,.int .i64 j.til,.str j.key,.str j.val,.str j.owner.name,.int .u64 (j.owner.id : Int),.int .i64 j.owner.fr,.int .i64 j.owner.un,.int .i64 j.owner.ix,.str j.owner.tag,.str j.item.k,.str j.item.v,.int .i64 j.item.n,.bool j.item.g,.int .i64 j.acks,.int .i64 j.waits,.slice 1 (j.asked.map strRow),.str j.back.name,.int .u64 (j.back.id : Int),.int .i64 j.back.fr,.int .i64 j.back.un,.int .i64 j.back.ix,.str j.back.tag,.int .i64 j.backRid,.int .i64 j.backJob] = (l.set i j).map Jb.cs := by rw [List.map_set]; rfl
theorem il_failC (n : Nd) (id : Int) (i : Nat) (hi : i < n.jobs.length) (hid : n.jobs[i].id = id) (h : n.mid 1000000) (e : Int) (H : Heap) (hW : WorkC H n id (.ptr 60109018 1 i 0)) (hF : FreR H 140000) (K : AVal × Heap → Option Res) (R : Option Res)
  (k : ∀ H',EndC (failC n id e) H' → (∀ o,o < 60000 → H' o = H o) → K (.tup [],H') = R) : @kB _ _ (il C4 91 [.ptr 60111 1 0 0,.int .i64 e] H) ⟨K⟩ = R := by
 rw [il_text (C := C4) Tryz.func91 rfl Tryz.results91 (show (C4).M.loc 91 = _ from fq91.1) (by kernel_rfl)]
 simp -implicitDefEqProofs -dsimp +contextual (maxSteps := 9999999) (disch := first | omega | simp only [go_sem] <;> omega | refine ib ?_; kernel_rfl) only [go_sem,seval,↓reduceIte]
 refine il_settleC n id i hi hid h zeroIt false e _ hW hF _ _ fun H' hE hfr => ?_
 simp -implicitDefEqProofs -dsimp +contextual (maxSteps := 9999999) (disch := first | omega | simp only [go_sem] <;> omega | refine ib ?_; kernel_rfl) only [go_sem,seval,↓reduceIte]
 exact k _ hE hfr
theorem il_askC (n : Nd) (id : Int) (i : Nat) (hi : i < n.jobs.length) (hid : n.jobs[i].id = id) (h : n.mid 1000000) (hk : n.jobs[i].key.length ≤ 10000) (to : En) (H : Heap) (hW : WorkC H n id (.ptr 60109018 1 i 0)) (hF : FreR H 200000) (hG : FreR H 80000) (K : AVal × Heap → Option Res) (R : Option Res)
  (k : ∀ H',EndC (askC n i n.jobs[i] to id) H' → (∀ o,o < 60000 → H' o = H o) → K (.tup [],H') = R) : @kB _ _ (il C4 94 [.ptr 60111 1 0 0,.agg [.str to.name,.int .u64 (to.id : Int),.int .i64 to.fr,.int .i64 to.un,.int .i64 to.ix,.str to.tag]] H) ⟨K⟩ = R := by
 obtain ⟨W1,W2,W3,W4,W5,W6,W7⟩ := hW
 have jl := h.jl
 have row := jb_row n.jobs i hi
 have hrow := fun J => set_at n.jobs i J hi
 have g1 := hF 200103 (by omega)
 have g2 := hG 80105 (by omega); have g3 := hG 80106 (by omega); have g4 := hG 80118 (by omega); have g5 := hG 80119 (by omega)
 generalize hj : n.jobs[i] = j at *
 rw [il_text (C := C4) Tryz.func94 rfl Tryz.results94 (show (C4).M.loc 94 = _ from fq94.1) (by kernel_rfl)]
 simp -implicitDefEqProofs -dsimp +contextual (maxSteps := 9999999) (disch := first | omega | simp only [go_sem] <;> omega | refine ib ?_; kernel_rfl) only [go_sem,seval,↓reduceIte,W1,W2,W3,W4,W5,W6,W7,row,hi,g1,rowsG_start,hrow,List.set_set,ePlace]
 rw [il_text (C := C4) Tryz.func149 rfl Tryz.results149 (show (C4).M.loc 149 = _ from fq149.1) (by kernel_rfl)]
 simp -implicitDefEqProofs -dsimp +contextual (maxSteps := 9999999) (disch := first | omega | simp only [go_sem] <;> omega | refine ib ?_; kernel_rfl) only [go_sem,seval,↓reduceIte,W1,W2,W3,W4,W5,W6,W7,g2,g3,g4,g5]
 have jn : (askC n i j to id).1.jobs.length = n.jobs.length := by simp [askC]
 refine k _ ⟨60109015,60109016,60109018,60109022,1,1,1,1,.ptr 60109018 1 i 0,.osl 80119 1 0 1,.fn (.func 149) [] [.ptr 60106 1 0 0,.ptr 60103 1 0 0],by omega,by omega,by omega,by omega,?_,W4,W5,rfl,W7,.inr ⟨80119,1,rfl,by omega,by omega,rfl⟩⟩ (fun o ho => by repeat (first | rfl | rw [Heap.set_ne _ _ (by omega)]))
 simp only [jn]
 rfl
theorem askR_len (id : Int) : ∀ (l : List Pr) (j : Jb),(askR id l j).2.length ≤ l.length
 | [],_ => Nat.le_refl _
 | p :: l,j => by
  unfold askR
  split
  ·exact Nat.zero_le _
  ·split
   ·exact Nat.le_succ_of_le (askR_len id l j)
   ·exact Nat.succ_le_succ (askR_len id l _)
theorem tell_len (n : Nd) (back : En) (rid job : Int) (x : It) (has : Bool) (e : Int) : (tellR n back rid job x has e).2.length ≤ 1 := by
 unfold tellR; split <;> simp
theorem begin_len (n : Nd) (key val : List UInt8) (gone : Bool) (back : En) (rid job : Int) : (beginR n key val gone back rid job).2.length ≤ n.list.length + 1 := by
 unfold beginR
 split
 ·rcases copR_cases (begunR n key val gone back rid job).jobs (nextI n.jobId) with ⟨i,hi,hc⟩ | hc
  ·rw [moreR_at hi hc]
   have h1 := askR_len (nextI n.jobId) (begunR n key val gone back rid job).list (begunR n key val gone back rid job).jobs[i]
   have h2 : (begunR n key val gone back rid job).list = n.list := rfl
   rw [h2] at h1 ⊢
   unfold moreFin
   split
   ·exact Nat.le_succ_of_le h1
   ·rw [List.length_append]
    exact Nat.add_le_add h1 (tell_len _ _ _ _ _ _ _)
  ·rw [moreR_none hc]; exact Nat.zero_le _
 ·exact Nat.le_trans (tell_len _ _ _ _ _ _ _) (by omega)
theorem WorkC.set {H H' : Heap} {n : Nd} {id : Int} {J : AVal} (h : WorkC H n id J) (i : Nat) (j' : Jb) (hj : H' 60109018 = ⟨1,.live,29,(n.jobs.set i j').map Jb.cs,false⟩) (hf : ∀ o,o ≠ 60109018 → H' o = H o) : WorkC H' { n with jobs := n.jobs.set i j' } id J :=
 ⟨by rw [hf _ (by omega),h.w]; simp only [List.length_set],(hf _ (by omega)).trans h.v,(hf _ (by omega)).trans h.d,(hf _ (by omega)).trans h.s,(hf _ (by omega)).trans h.p,hj,(hf _ (by omega)).trans h.r⟩
theorem clik_set {n : Nd} (h : CliK n) (i : Nat) (j j' : Jb) (hj : j ∈ n.jobs) (ha : j'.asked = j.asked) (hk : j'.key = j.key) (hv : j'.val = j.val) (hi : -9223372036854775808 ≤ j'.tries ∧ -9223372036854775808 ≤ j'.hops) : CliK { n with jobs := n.jobs.set i j' } :=
 ⟨mid_setj i j j' h.md hj ha,h.me,h.li,h.clock,fun x hx => by
  rcases List.mem_or_eq_of_mem_set hx with hx | rfl
  ·exact h.jk x hx
  ·rw [hk,hv]; exact h.jk j hj,fun x hx => by
  rcases List.mem_or_eq_of_mem_set hx with hx | rfl
  ·exact h.ji x hx
  ·exact hi⟩
theorem il_seekC (n : Nd) (id : Int) (i : Nat) (hi : i < n.jobs.length) (hid : n.jobs[i].id = id) (h : CliK n) (H : Heap) (hW : WorkC H n id (.ptr 60109018 1 i 0)) (hF : FreshC H) (K : AVal × Heap → Option Res) (R : Option Res)
  (k : ∀ H',EndC (seekC n i id) H' → (∀ o,o < 60000 → H' o = H o) → K (.tup [],H') = R) : @kB _ _ (il C4 70 [.ptr 60111 1 0 0] H) ⟨K⟩ = R := by
 have hW' := hW
 obtain ⟨W1,W2,W3,W4,W5,W6,W7⟩ := hW'
 have jl := h.md.jl
 have il := h.md.il
 obtain ⟨k1,k2⟩ := h.jk _ (List.getElem_mem hi)
 have row := jb_row n.jobs i hi
 have hrow := fun J => set_at n.jobs i J hi
 have ow := e128 n.me n.list (keyI n.jobs[i].key) (idB_lt _) h.me (Nat.le_trans h.md.ll (by decide)) h.li
 have e3 := enEq (ownerR n.me n.list (keyI n.jobs[i].key)) n.me
 have ge := e151 n.items n.jobs[i].key (by omega)
 have g1 := hF 100102 (by omega) (by omega); have g2 := hF 100103 (by omega) (by omega); have g3 := hF 100105 (by omega) (by omega); have g4 := hF 100106 (by omega) (by omega)
 have be := (c4_c2 109 (by decide) [] _).trans (eBegin { n with jobs := n.jobs.set i { n.jobs[i] with phase := 2 } } n.jobs[i].key n.jobs[i].val (decide (n.jobs[i].kind = 2)) enZ 0 id ((mid_setj i n.jobs[i] { n.jobs[i] with phase := 2 } h.md (List.getElem_mem hi) rfl).le (show 80000 ≤ 90000 by omega)) (Nat.le_trans k1 (by decide)) h.clock)
 try simp only at be
 unfold seekC at k
 rw [jobG_at hi] at k
 by_cases ho : ownerR n.me n.list (keyI n.jobs[i].key) = n.me
 ·rw [if_pos ho] at k
  have ho' := eq_true ho
  by_cases k3 : n.jobs[i].kind = 3
  ·rw [if_pos k3] at k
   have hs := il_settleC n id i hi hid (h.md.le (by omega)) (getR n.items n.jobs[i].key).1 ((getR n.items n.jobs[i].key).2 && !(getR n.items n.jobs[i].key).1.g) 0
   generalize hj : n.jobs[i] = j at *
   generalize getR n.items j.key = q at *
   obtain ⟨x,b⟩ := q
   cases b
   all_goals
    simp only [Bool.true_and,Bool.false_and] at hs k
    rw [il_text (C := C4) Tryz.func70 rfl Tryz.results70 (show (C4).M.loc 70 = _ from fq70.1) (by kernel_rfl)]
    simp -implicitDefEqProofs -dsimp +contextual (maxSteps := 9999999) (disch := first | omega | simp only [go_sem] <;> omega | refine ib ?_; kernel_rfl) only [go_sem,seval,↓reduceIte,W1,W2,W3,W4,W5,W6,W7,hi,row,ePlace,ow,e3,ho',k3,ge,g1,g2]
    refine hs _ (hW.far ?_) ?_ _ _ fun H' hE hfr => ?_
    ·intro o ho; repeat (first | rfl | rw [Heap.set_ne _ _ (by omega)])
    ·intro o ho; repeat (first | exact hF o (by omega) (by omega) | rw [Heap.set_ne _ _ (by omega)])
    simp -implicitDefEqProofs -dsimp +contextual (maxSteps := 9999999) (disch := first | omega | simp only [go_sem] <;> omega | refine ib ?_; kernel_rfl) only [go_sem,seval,↓reduceIte]
    exact k _ hE (fun o ho => (hfr o ho).trans (by repeat (first | rfl | rw [Heap.set_ne _ _ (by omega)])))
  ·rw [if_neg k3] at k
   have bl := begin_len { n with jobs := n.jobs.set i { n.jobs[i] with phase := 2 } } n.jobs[i].key n.jobs[i].val (decide (n.jobs[i].kind = 2)) enZ 0 id
   have ll := h.md.ll
   subst hid
   have k3' := eq_false k3
   generalize beginR _ _ _ _ _ _ _ = q at *
   obtain ⟨d,acts⟩ := q
   try simp only at bl
   simp only [enZ,Int.cast_ofNat_Int] at be
   unfold ndRes at be
   rw [Nd.ocs_eq] at be
   generalize hj : n.jobs[i] = j at *
   rw [il_text (C := C4) Tryz.func70 rfl Tryz.results70 (show (C4).M.loc 70 = _ from fq70.1) (by kernel_rfl)]
   simp -implicitDefEqProofs -dsimp +contextual (maxSteps := 9999999) (disch := first | omega | simp only [go_sem] <;> omega | refine ib ?_; kernel_rfl) only [go_sem,seval,↓reduceIte,W1,W2,W3,W4,W5,W6,W7,row,hi,ePlace,ow,e3,ho',k3',g1,g2,g3,g4,rowsG_start,hrow,List.set_set,be]
   exact k _ ⟨100148001015,100148001016,100148001018,100148001022,_,_,_,_,_,_,_,by omega,by omega,by omega,by omega,rfl,rfl,rfl,rfl,rfl,.inr ⟨100159,_,rfl,by omega,by omega,rfl⟩⟩ (fun o ho => by repeat (first | rfl | rw [Heap.set_ne _ _ (by omega)]))
 ·rw [if_neg ho] at k
  have ho' := eq_false ho
  have ha := il_askC n id i hi hid (h.md.le (by omega)) k1 (ownerR n.me n.list (keyI n.jobs[i].key))
  generalize hj : n.jobs[i] = j at *
  generalize ownerR n.me n.list (keyI j.key) = o at *
  rw [il_text (C := C4) Tryz.func70 rfl Tryz.results70 (show (C4).M.loc 70 = _ from fq70.1) (by kernel_rfl)]
  simp -implicitDefEqProofs -dsimp +contextual (maxSteps := 9999999) (disch := first | omega | simp only [go_sem] <;> omega | refine ib ?_; kernel_rfl) only [go_sem,seval,↓reduceIte,W1,W2,W3,W4,W5,W6,W7,row,hi,ePlace,ow,e3,ho',g1]
  refine ha _ (hW.far ?_) ?_ ?_ _ _ fun H' hE hfr => ?_
  ·intro o ho; repeat (first | rfl | rw [Heap.set_ne _ _ (by omega)])
  ·intro o ho; repeat (first | exact hF o (by omega) (by omega) | rw [Heap.set_ne _ _ (by omega)])
  ·intro o ho; repeat (first | exact hF o (by omega) (by omega) | rw [Heap.set_ne _ _ (by omega)])
  simp -implicitDefEqProofs -dsimp +contextual (maxSteps := 9999999) (disch := first | omega | simp only [go_sem] <;> omega | refine ib ?_; kernel_rfl) only [go_sem,seval,↓reduceIte]
  exact k _ hE (fun o ho => (hfr o ho).trans (by repeat (first | rfl | rw [Heap.set_ne _ _ (by omega)])))
theorem il_againC (n : Nd) (id why : Int) (i : Nat) (hi : i < n.jobs.length) (hid : n.jobs[i].id = id) (h : CliK n) (H : Heap) (hW : WorkC H n id (.ptr 60109018 1 i 0)) (hF : FreshC H) (K : AVal × Heap → Option Res) (R : Option Res)
  (k : ∀ H',EndC (againC n i id why) H' → (∀ o,o < 60000 → H' o = H o) → K (.tup [],H') = R) : @kB _ _ (il C4 103 [.ptr 60111 1 0 0,.int .i64 why] H) ⟨K⟩ = R := by
 have hW' := hW
 obtain ⟨W1,W2,W3,W4,W5,W6,W7⟩ := hW'
 have jl := h.md.jl
 have row := jb_row n.jobs i hi
 have hrow := fun J => set_at n.jobs i J hi
 have hf := il_failC n id i hi hid (h.md.le (by omega)) why
 have hs := fun H => il_seekC { n with jobs := n.jobs.set i { n.jobs[i] with tries := n.jobs[i].tries + 1 } } id i (by simpa using hi) (by simpa using hid) (clik_set h i n.jobs[i] _ (List.getElem_mem hi) rfl rfl rfl ⟨by show _ ≤ n.jobs[i].tries + 1; have := (h.ji _ (List.getElem_mem hi)).1; omega,(h.ji _ (List.getElem_mem hi)).2⟩) H
 have hji := h.ji _ (List.getElem_mem hi)
 unfold againC at k
 rw [jobG_at hi] at k
 by_cases ht : 3 ≤ n.jobs[i].tries
 ·rw [if_pos ht] at k
  have ht' := eq_true ht
  generalize hj : n.jobs[i] = j at *
  rw [il_text (C := C4) Tryz.func103 rfl Tryz.results103 (show (C4).M.loc 103 = _ from fq103.1) (by kernel_rfl)]
  simp -implicitDefEqProofs -dsimp +contextual (maxSteps := 9999999) (disch := first | omega | simp only [go_sem] <;> omega | refine ib ?_; kernel_rfl) only [go_sem,seval,↓reduceIte,W1,W2,W3,W4,W5,W6,W7,row,hi,ht']
  refine hf _ hW (hF.fre _ (by omega) (by omega)) _ _ fun H' hE hfr => ?_
  simp -implicitDefEqProofs -dsimp +contextual (maxSteps := 9999999) (disch := first | omega | simp only [go_sem] <;> omega | refine ib ?_; kernel_rfl) only [go_sem,seval,↓reduceIte]
  exact k _ hE hfr
 ·rw [if_neg ht] at k
  have ht' := eq_false ht
  generalize hj : n.jobs[i] = j at *
  rw [il_text (C := C4) Tryz.func103 rfl Tryz.results103 (show (C4).M.loc 103 = _ from fq103.1) (by kernel_rfl)]
  simp -implicitDefEqProofs -dsimp +contextual (maxSteps := 9999999) (disch := first | omega | simp only [go_sem] <;> omega | refine ib ?_; kernel_rfl) only [go_sem,seval,↓reduceIte,W1,W2,W3,W4,W5,W6,W7,row,hi,ht',rowsG_start,hrow]
  refine hs _ (hW.set i _ ?_ ?_) ?_ _ _ fun H' hE hfr => ?_
  ·rfl
  ·intro o ho; exact Heap.set_ne _ _ ho
  ·intro o h1 h2; rw [Heap.set_ne _ _ (by omega)]; exact hF o h1 h2
  simp -implicitDefEqProofs -dsimp +contextual (maxSteps := 9999999) (disch := first | omega | simp only [go_sem] <;> omega | refine ib ?_; kernel_rfl) only [go_sem,seval,↓reduceIte]
  exact k _ hE (fun o ho => (hfr o ho).trans (Heap.set_ne _ _ (by omega)))
theorem cli_id {l : List Jb} {id : Int} {i : Nat} (hi : i < l.length) (hc : cliP l id = (i : Int)) : l[i].id = id := by
 rcases cliP_cases l id with ⟨i',hi',hid,_,_,hc'⟩ | ⟨hc',_⟩
 ·obtain rfl : i' = i := by omega
  exact hid
 ·omega
theorem eSeek (n : Nd) (id : Int) (h : CliK n) : fn C4 16 [] [(aNd n),.int .i64 id] = some (.tup [.agg (seekR n id).1.cs,.slice 20 ((seekR n id).2.map Ac.cs)],[]) := by
 rw [fn_text (C := C4) Tryz.func16 rfl rfl Tryz.results16 (show (C4).M.loc 16 = _ from fq16.1) rfl rfl (by kernel_rfl)]
 simp -implicitDefEqProofs -dsimp +contextual (maxSteps := 9999999) (disch := first | omega | simp only [go_sem] <;> omega | refine ib ?_; kernel_rfl) only [go_sem,seval,↓reduceIte]
 refine il_onC n id (h.md.le (by omega)) _ ?_ _ _ ?_ ?_
 ·intro o ho; repeat (first | rfl | rw [Heap.set_ne _ _ (by omega)])
 ·intro i H' hi hc W F hfr
  rw [seekR_at hc]
  have hid := cli_id hi hc
  simp -implicitDefEqProofs -dsimp +contextual (maxSteps := 9999999) (disch := first | omega | simp only [go_sem] <;> omega | refine ib ?_; kernel_rfl) only [go_sem,seval,↓reduceIte]
  refine il_seekC n id i hi hid h _ W F _ _ fun H2 hE hfr2 => ?_
  obtain ⟨a,b,c,d,ga,gb,gc,gd,J,X,F',A1,A2,A3,A4,Y1,Y2,Y3,Y4,Y5,hX⟩ := hE
  have g4 : (H2 104).gen = 1 := by rw [hfr2 104 (by omega),hfr 104 (by omega)]; rfl
  have m4 : (H2 104).mode = .live := by rw [hfr2 104 (by omega),hfr 104 (by omega)]; rfl
  obtain ⟨r,hr,H4r⟩ : ∃ r : List AVal,r.length = 22 ∧ (H2 104).rows = [r] := by rw [hfr2 104 (by omega),hfr 104 (by omega)]; exact ⟨_,rfl,rfl⟩
  generalize seekC n i id = q at *
  obtain ⟨m,acts⟩ := q
  try simp only at Y1 Y2 Y3 Y4 Y5 hX
  have na : (a = 120102) = False := eq_false (by omega); have nb : (b = 120102) = False := eq_false (by omega); have nc : (c = 120102) = False := eq_false (by omega); have nd : (d = 120102) = False := eq_false (by omega)
  have na' : (a = 104) = False := eq_false (by omega); have nb' : (b = 104) = False := eq_false (by omega); have nc' : (c = 104) = False := eq_false (by omega); have nd' : (d = 104) = False := eq_false (by omega)
  rcases hX with ⟨rfl,rfl⟩ | ⟨x,gx,rfl,hx1,hx2,hX⟩
  ·simp -implicitDefEqProofs -dsimp +contextual (maxSteps := 9999999) (disch := first | omega | simp only [go_sem] <;> omega | refine ib ?_; kernel_rfl) only [go_sem,seval,↓reduceIte]
   rw [il_text (C := C4) Tryz.func71 rfl Tryz.results71 (show (C4).M.loc 71 = _ from fq71.1) (by kernel_rfl)]
   simp -implicitDefEqProofs -dsimp +contextual (maxSteps := 9999999) (disch := first | omega | simp only [go_sem] <;> omega | refine ib ?_; kernel_rfl) only [go_sem,seval,↓reduceIte,Y1,Y2,Y3,Y4,Y5,g4,m4,hr,H4r,na,nb,nc,nd,na',nb',nc',nd']
  ·have nx : (x = 120102) = False := eq_false (by omega); have nx' : (x = 104) = False := eq_false (by omega)
   simp -implicitDefEqProofs -dsimp +contextual (maxSteps := 9999999) (disch := first | omega | simp only [go_sem] <;> omega | refine ib ?_; kernel_rfl) only [go_sem,seval,↓reduceIte]
   rw [il_text (C := C4) Tryz.func71 rfl Tryz.results71 (show (C4).M.loc 71 = _ from fq71.1) (by kernel_rfl)]
   simp -implicitDefEqProofs -dsimp +contextual (maxSteps := 9999999) (disch := first | omega | simp only [go_sem] <;> omega | refine ib ?_; kernel_rfl) only [go_sem,seval,↓reduceIte,Y1,Y2,Y3,Y4,Y5,g4,m4,hr,H4r,na,nb,nc,nd,na',nb',nc',nd',nx,nx',hX]
 ·intro H' hc W F hfr
  rw [seekR_none hc]
  obtain ⟨Y1,W2,W3,Y2,Y3,Y4,Y5⟩ := W
  have f1 := F 120102 (by omega) (by omega)
  have g4 : (H' 104).gen = 1 := by rw [hfr 104 (by omega)]; rfl
  have m4 : (H' 104).mode = .live := by rw [hfr 104 (by omega)]; rfl
  obtain ⟨r,hr,H4r⟩ : ∃ r : List AVal,r.length = 22 ∧ (H' 104).rows = [r] := by rw [hfr 104 (by omega)]; exact ⟨_,rfl,rfl⟩
  simp -implicitDefEqProofs -dsimp +contextual (maxSteps := 9999999) (disch := first | omega | simp only [go_sem] <;> omega | refine ib ?_; kernel_rfl) only [go_sem,seval,↓reduceIte]
  rw [il_text (C := C4) Tryz.func71 rfl Tryz.results71 (show (C4).M.loc 71 = _ from fq71.1) (by kernel_rfl)]
  simp -implicitDefEqProofs -dsimp +contextual (maxSteps := 9999999) (disch := first | omega | simp only [go_sem] <;> omega | refine ib ?_; kernel_rfl) only [go_sem,seval,↓reduceIte,Y1,Y2,Y3,Y4,Y5,g4,m4,hr,H4r]
theorem failedC_none {n : Nd} {id : Int} (h : cliP n.jobs id = -1) : failedC n id = (n,[]) := by
 rw [failedC,h,if_neg (by omega)]
theorem eFailed (n : Nd) (id : Int) (h : CliK n) : fn C4 27 [] [(aNd n),.int .i64 id] = some (.tup [.agg (failedC n id).1.cs,.slice 20 ((failedC n id).2.map Ac.cs)],[]) := by
 rw [fn_text (C := C4) Tryz.func27 rfl rfl Tryz.results27 (show (C4).M.loc 27 = _ from fq27.1) rfl rfl (by kernel_rfl)]
 simp -implicitDefEqProofs -dsimp +contextual (maxSteps := 9999999) (disch := first | omega | simp only [go_sem] <;> omega | refine ib ?_; kernel_rfl) only [go_sem,seval,↓reduceIte]
 refine il_onC n id (h.md.le (by omega)) _ ?_ _ _ ?_ ?_
 ·intro o ho; repeat (first | rfl | rw [Heap.set_ne _ _ (by omega)])
 ·intro i H' hi hc W F hfr
  rw [failedC_at hc]
  have hid := cli_id hi hc
  simp -implicitDefEqProofs -dsimp +contextual (maxSteps := 9999999) (disch := first | omega | simp only [go_sem] <;> omega | refine ib ?_; kernel_rfl) only [go_sem,seval,↓reduceIte]
  refine il_againC n id 43 i hi hid h _ W F _ _ fun H2 hE hfr2 => ?_
  obtain ⟨a,b,c,d,ga,gb,gc,gd,J,X,F',A1,A2,A3,A4,Y1,Y2,Y3,Y4,Y5,hX⟩ := hE
  have g4 : (H2 104).gen = 1 := by rw [hfr2 104 (by omega),hfr 104 (by omega)]; rfl
  have m4 : (H2 104).mode = .live := by rw [hfr2 104 (by omega),hfr 104 (by omega)]; rfl
  obtain ⟨r,hr,H4r⟩ : ∃ r : List AVal,r.length = 22 ∧ (H2 104).rows = [r] := by rw [hfr2 104 (by omega),hfr 104 (by omega)]; exact ⟨_,rfl,rfl⟩
  generalize againC n i id 43 = q at *
  obtain ⟨m,acts⟩ := q
  try simp only at Y1 Y2 Y3 Y4 Y5 hX
  have na : (a = 120102) = False := eq_false (by omega); have nb : (b = 120102) = False := eq_false (by omega); have nc : (c = 120102) = False := eq_false (by omega); have nd : (d = 120102) = False := eq_false (by omega)
  have na' : (a = 104) = False := eq_false (by omega); have nb' : (b = 104) = False := eq_false (by omega); have nc' : (c = 104) = False := eq_false (by omega); have nd' : (d = 104) = False := eq_false (by omega)
  rcases hX with ⟨rfl,rfl⟩ | ⟨x,gx,rfl,hx1,hx2,hX⟩
  ·simp -implicitDefEqProofs -dsimp +contextual (maxSteps := 9999999) (disch := first | omega | simp only [go_sem] <;> omega | refine ib ?_; kernel_rfl) only [go_sem,seval,↓reduceIte]
   rw [il_text (C := C4) Tryz.func71 rfl Tryz.results71 (show (C4).M.loc 71 = _ from fq71.1) (by kernel_rfl)]
   simp -implicitDefEqProofs -dsimp +contextual (maxSteps := 9999999) (disch := first | omega | simp only [go_sem] <;> omega | refine ib ?_; kernel_rfl) only [go_sem,seval,↓reduceIte,Y1,Y2,Y3,Y4,Y5,g4,m4,hr,H4r,na,nb,nc,nd,na',nb',nc',nd']
  ·have nx : (x = 120102) = False := eq_false (by omega); have nx' : (x = 104) = False := eq_false (by omega)
   simp -implicitDefEqProofs -dsimp +contextual (maxSteps := 9999999) (disch := first | omega | simp only [go_sem] <;> omega | refine ib ?_; kernel_rfl) only [go_sem,seval,↓reduceIte]
   rw [il_text (C := C4) Tryz.func71 rfl Tryz.results71 (show (C4).M.loc 71 = _ from fq71.1) (by kernel_rfl)]
   simp -implicitDefEqProofs -dsimp +contextual (maxSteps := 9999999) (disch := first | omega | simp only [go_sem] <;> omega | refine ib ?_; kernel_rfl) only [go_sem,seval,↓reduceIte,Y1,Y2,Y3,Y4,Y5,g4,m4,hr,H4r,na,nb,nc,nd,na',nb',nc',nd',nx,nx',hX]
 ·intro H' hc W F hfr
  rw [failedC_none hc]
  obtain ⟨Y1,W2,W3,Y2,Y3,Y4,Y5⟩ := W
  have f1 := F 120102 (by omega) (by omega)
  have g4 : (H' 104).gen = 1 := by rw [hfr 104 (by omega)]; rfl
  have m4 : (H' 104).mode = .live := by rw [hfr 104 (by omega)]; rfl
  obtain ⟨r,hr,H4r⟩ : ∃ r : List AVal,r.length = 22 ∧ (H' 104).rows = [r] := by rw [hfr 104 (by omega)]; exact ⟨_,rfl,rfl⟩
  simp -implicitDefEqProofs -dsimp +contextual (maxSteps := 9999999) (disch := first | omega | simp only [go_sem] <;> omega | refine ib ?_; kernel_rfl) only [go_sem,seval,↓reduceIte]
  rw [il_text (C := C4) Tryz.func71 rfl Tryz.results71 (show (C4).M.loc 71 = _ from fq71.1) (by kernel_rfl)]
  simp -implicitDefEqProofs -dsimp +contextual (maxSteps := 9999999) (disch := first | omega | simp only [go_sem] <;> omega | refine ib ?_; kernel_rfl) only [go_sem,seval,↓reduceIte,Y1,Y2,Y3,Y4,Y5,g4,m4,hr,H4r]
theorem eIdxMine (l : List Jb) (hl : l.length ≤ 9223372036854775807) : fn C 84 [] [.slice 29 (l.map Jb.cs),.fn (.func 63) [] []] = some (.int .i64 (placeG mineJ l),[]) := by
 rw [fn_text Tryz.func84 rfl rfl Tryz.results84 fq84.1 rfl rfl (by kernel_rfl)]
 simp -implicitDefEqProofs -dsimp +contextual (maxSteps := 9999999) (disch := first | omega | simp only [go_sem] <;> omega | refine ib ?_; kernel_rfl) only [go_sem,seval,↓reduceIte]
 refine kFor l.length (fun i f H => f 0 = .slice 29 (l.map Jb.cs) ∧ f 1 = .fn (.func 63) [] [] ∧ f 7 = .int .i64 l.length ∧ f 8 = .int .i64 (i : Nat) ∧ H = Heap.nil ∧ (l.take i).any mineJ = false) ?_ ?_ (by exact ⟨rfl,rfl,rfl,rfl,rfl,rfl⟩)
 ·rintro i f _ hi ⟨f0,f1,f7,f8,rfl,ha⟩ ih
  have row := jb_row l i hi
  have e1 := e63 l[i]
  cases h : mineJ l[i] with
  | true =>
   rw [h] at e1
   simp -implicitDefEqProofs -dsimp +contextual (maxSteps := 9999999) (disch := first | omega | simp only [go_sem] <;> omega | refine ib ?_; kernel_rfl) only [go_sem,seval,↓reduceIte,f0,f1,f7,f8,hi,row,e1]
   rw [placeG_at hi ha h]
  | false =>
   rw [h] at e1
   simp -implicitDefEqProofs -dsimp +contextual (maxSteps := 9999999) (disch := first | omega | simp only [go_sem] <;> omega | refine ib ?_; kernel_rfl) only [go_sem,seval,↓reduceIte,f0,f1,f7,f8,hi,row,e1]
   exact ih _ _ ⟨f0,f1,f7,rfl,rfl,any_take hi ha h⟩
 ·rintro f _ ⟨f0,f1,f7,f8,rfl,ha⟩
  simp -implicitDefEqProofs -dsimp +contextual (maxSteps := 9999999) (disch := first | omega | simp only [go_sem] <;> omega | refine ib ?_; kernel_rfl) only [go_sem,seval,↓reduceIte,f0,f1,f7,f8]
  rw [placeG_none (any_end ha)]
theorem eHasMine (l : List Jb) (hl : l.length ≤ 9223372036854775807) : fn C 66 [] [.slice 29 (l.map Jb.cs),.fn (.func 63) [] []] = some (.bool (l.any mineJ),[]) := by
 rw [fn_text Tryz.func66 rfl rfl Tryz.results66 fq66.1 rfl rfl (by kernel_rfl)]
 have e1 := eIdxMine l hl
 rcases placeG_cases mineJ l with ⟨j,hj,hq,hn,hp⟩ | ⟨hn,hp⟩
 ·rw [hp] at e1
  have ha : l.any mineJ = true := List.any_eq_true.2 ⟨_,List.getElem_mem hj,hq⟩
  rw [ha]
  simp -implicitDefEqProofs -dsimp +contextual (maxSteps := 9999999) (disch := first | omega | simp only [go_sem] <;> omega | refine ib ?_; kernel_rfl) only [go_sem,seval,↓reduceIte,e1,Nat.not_lt_zero]
 ·rw [hp] at e1
  rw [hn]
  simp -implicitDefEqProofs -dsimp +contextual (maxSteps := 9999999) (disch := first | omega | simp only [go_sem] <;> omega | refine ib ?_; kernel_rfl) only [go_sem,seval,↓reduceIte,e1]
theorem clik_add {n : Nd} (kind : Int) (key val : List UInt8) (h : CliK n) (hm : n.mid 70000) (hk : key.length ≤ 10000) (hv : val.length ≤ 10000) : CliK (addC n kind key val) := by
 have m := hm.le (show 70000 ≤ 80000 by omega)
 refine ⟨⟨m.pl,m.ll,m.fl,m.sl,m.dl,m.il,?_,m.wl,m.rl,m.pe,m.pi,fun j hj => ?_,m.ik⟩,h.me,h.li,h.clock,fun j hj => ?_,fun j hj => ?_⟩
 ·have := hm.jl
  show (n.jobs ++ [_]).length ≤ 80000
  simp; omega
 ·rcases List.mem_append.1 hj with hj | hj
  ·exact m.ja j hj
  ·rw [List.mem_singleton] at hj; rw [hj]; exact Nat.zero_le _
 ·rcases List.mem_append.1 hj with hj | hj
  ·exact h.jk j hj
  ·rw [List.mem_singleton] at hj
   rw [hj]
   refine ⟨hk,?_⟩
   show (if kind = 1 then val else []).length ≤ 10000
   split
   ·exact hv
   ·exact Nat.zero_le _
 ·rcases List.mem_append.1 hj with hj | hj
  ·exact h.ji j hj
  ·rw [List.mem_singleton] at hj
   rw [hj]
   exact ⟨by show (-9223372036854775808 : Int) ≤ 0; decide,by show (-9223372036854775808 : Int) ≤ 0; decide⟩
def tripB (q : Nd × List Ac) (e : Int) : Option Res := some (.tup [.agg q.1.cs,.slice 20 (q.2.map Ac.cs),.int .i64 e],[])
theorem eBegin31 (n : Nd) (kind : Int) (key val : List UInt8) (h : CliK n) (hm : n.mid 70000) (hk : key.length ≤ 10000) (hv : val.length ≤ 10000) (hj : -9223372036854775808 ≤ n.jobId) : fn C4 14 [] [(aNd n),.int .i64 kind,.str key,.str val] = tripB (begC n kind key val) (begE n kind key val) := by
 have jl := h.md.jl
 have cp := e13 n (h.md.le (by omega))
 have ky := e64 key (by omega)
 have vl := e65 val
 have hc := h.clock
 have mi := e63 { jbZ with kind := kind,key := key,til := n.clock + 480 }
 have hb := eHasMine n.jobs (by omega)
 simp only [aNd,jbZ,enZ,zeroIt,List.map_nil,Int.cast_ofNat_Int] at mi
 have mk : mineJ ⟨0,kind,0,0,0,n.clock + 480,key,[],⟨[],0,0,0,0,[]⟩,⟨[],[],0,false⟩,0,0,[],⟨[],0,0,0,0,[]⟩,0,0⟩ = (decide (kind = 1) || decide (kind = 2) || decide (kind = 3)) := rfl
 rw [mk] at mi
 by_cases hb1 : kind < 1 ∨ 3 < kind ∨ keyR key = false ∨ 32 < val.length
 ·have e : begE n kind key val = 2 := by unfold begE; rw [if_pos hb1]
  rw [begC,e,if_neg (by decide)]
  unfold tripB
  by_cases hkd : 1 ≤ kind ∧ kind ≤ 3
  ·have m1 : (decide (kind = 1) || decide (kind = 2) || decide (kind = 3)) = true := by simp; omega
   rw [m1] at mi
   cases hkk : keyR key with
   | false =>
    rw [hkk] at ky
    rw [fn_textN (C := C4) Tryz.func14 rfl rfl Tryz.results14 (show (C4).M.loc 14 = _ from fq14.1) rfl rfl (by kernel_rfl)]
    simp -implicitDefEqProofs -dsimp +contextual (maxSteps := 9999999) (disch := first | omega | simp only [go_sem] <;> omega | refine ib ?_; kernel_rfl) only [go_sem,seval,↓reduceIte,mi,ky,cp]
   | true =>
    rw [hkk] at ky
    have hvv : ¬ val.length ≤ 32 := by
     rcases hb1 with hb1 | hb1 | hb1 | hb1
     ·omega
     ·omega
     ·rw [hkk] at hb1; cases hb1
     ·omega
    rw [decide_eq_false hvv] at vl
    rw [fn_textN (C := C4) Tryz.func14 rfl rfl Tryz.results14 (show (C4).M.loc 14 = _ from fq14.1) rfl rfl (by kernel_rfl)]
    simp -implicitDefEqProofs -dsimp +contextual (maxSteps := 9999999) (disch := first | omega | simp only [go_sem] <;> omega | refine ib ?_; kernel_rfl) only [go_sem,seval,↓reduceIte,mi,ky,vl,cp]
  ·have m1 : (decide (kind = 1) || decide (kind = 2) || decide (kind = 3)) = false := by simp; omega
   rw [m1] at mi
   rw [fn_textN (C := C4) Tryz.func14 rfl rfl Tryz.results14 (show (C4).M.loc 14 = _ from fq14.1) rfl rfl (by kernel_rfl)]
   simp -implicitDefEqProofs -dsimp +contextual (maxSteps := 9999999) (disch := first | omega | simp only [go_sem] <;> omega | refine ib ?_; kernel_rfl) only [go_sem,seval,↓reduceIte,mi,cp]
 ·have m1 : (decide (kind = 1) || decide (kind = 2) || decide (kind = 3)) = true := by simp; omega
  rw [m1] at mi
  have hkk : keyR key = true := by
   cases hq : keyR key with
   | true => rfl
   | false => exact absurd (.inr (.inr (.inl hq))) hb1
  rw [hkk] at ky
  rw [decide_eq_true (show val.length ≤ 32 by omega)] at vl
  by_cases hb2 : n.ready = false ∨ 8 ≤ n.jobs.length ∨ n.jobs.any mineJ = true
  ·have e : begE n kind key val = 41 := by unfold begE; rw [if_neg hb1,if_pos hb2]
   rw [begC,e,if_neg (by decide)]
   unfold tripB
   cases hr : n.ready with
   | false =>
    simp only [aNd] at cp
    rw [hr] at cp
    rw [fn_textN (C := C4) Tryz.func14 rfl rfl Tryz.results14 (show (C4).M.loc 14 = _ from fq14.1) rfl rfl (by kernel_rfl)]
    simp -implicitDefEqProofs -dsimp +contextual (maxSteps := 9999999) (disch := first | omega | simp only [go_sem] <;> omega | refine ib ?_; kernel_rfl) only [go_sem,seval,↓reduceIte,mi,ky,vl,cp,hr]
   | true =>
    simp only [aNd] at cp
    rw [hr] at cp
    by_cases h8 : 8 ≤ n.jobs.length
    ·have h8' := eq_true h8
     rw [fn_textN (C := C4) Tryz.func14 rfl rfl Tryz.results14 (show (C4).M.loc 14 = _ from fq14.1) rfl rfl (by kernel_rfl)]
     simp -implicitDefEqProofs -dsimp +contextual (maxSteps := 9999999) (disch := first | omega | simp only [go_sem] <;> omega | refine ib ?_; kernel_rfl) only [go_sem,seval,↓reduceIte,mi,ky,vl,cp,hr,h8']
    ·have h8' := eq_false h8
     have ha : n.jobs.any mineJ = true := by
      rcases hb2 with hb2 | hb2 | hb2
      ·rw [hr] at hb2; cases hb2
      ·omega
      ·exact hb2
     rw [ha] at hb
     rw [fn_textN (C := C4) Tryz.func14 rfl rfl Tryz.results14 (show (C4).M.loc 14 = _ from fq14.1) rfl rfl (by kernel_rfl)]
     simp -implicitDefEqProofs -dsimp +contextual (maxSteps := 9999999) (disch := first | omega | simp only [go_sem] <;> omega | refine ib ?_; kernel_rfl) only [go_sem,seval,↓reduceIte,mi,ky,vl,cp,hr,h8',hb]
  ·have e : begE n kind key val = 0 := by unfold begE; rw [if_neg hb1,if_neg hb2]
   rw [begC,e,if_pos rfl]
   unfold tripB
   have hr : n.ready = true := by
    cases hq : n.ready with
    | true => rfl
    | false => exact absurd (.inl hq) hb2
   have h8 : ¬ 8 ≤ n.jobs.length := fun h' => hb2 (.inr (.inl h'))
   have h8' := eq_false h8
   have ha : n.jobs.any mineJ = false := Bool.eq_false_iff.2 fun h' => hb2 (.inr (.inr h'))
   rw [ha] at hb
   have sk := eSeek (addC n kind key val) (nextI n.jobId) (clik_add kind key val h hm hk hv)
   generalize seekR (addC n kind key val) (nextI n.jobId) = q at *
   obtain ⟨d,acts⟩ := q
   simp only [aNd] at sk
   rw [Nd.cs] at sk
   unfold addC newC at sk
   simp only [aNd,jbZ,enZ,zeroIt,List.map_nil,Int.cast_ofNat_Int,List.map_append,List.map_cons,Jb.cs] at sk
   simp only [aNd] at cp
   rw [hr] at sk cp
   clear hb1 hb2 e m1 mk h8
   have n1 : ∀ _ : n.jobId < 0,nextI n.jobId = 1 := fun h' => by unfold nextI; rw [if_pos (.inl h')]
   by_cases g1 : n.jobId < 0
   ·rw [n1 g1] at sk
    by_cases k1 : kind = 1
    ·rw [k1] at sk mi ⊢
     simp only [aNd,eq_self,if_true] at sk
     rw [fn_textN (C := C4) Tryz.func14 rfl rfl Tryz.results14 (show (C4).M.loc 14 = _ from fq14.1) rfl rfl (by kernel_rfl)]
     simp -implicitDefEqProofs -dsimp +contextual (maxSteps := 9999999) (disch := first | omega | simp only [go_sem] <;> omega | refine ib ?_; kernel_rfl) only [go_sem,seval,↓reduceIte,mi,ky,vl,cp,hr,h8',hb,g1,sk]
    ·have k1' := eq_false k1
     simp only [aNd,k1',if_false] at sk
     rw [fn_textN (C := C4) Tryz.func14 rfl rfl Tryz.results14 (show (C4).M.loc 14 = _ from fq14.1) rfl rfl (by kernel_rfl)]
     simp -implicitDefEqProofs -dsimp +contextual (maxSteps := 9999999) (disch := first | omega | simp only [go_sem] <;> omega | refine ib ?_; kernel_rfl) only [go_sem,seval,↓reduceIte,mi,ky,vl,cp,hr,h8',hb,g1,sk,k1']
   ·by_cases g2 : 1073741824 ≤ n.jobId
    ·have n2 : nextI n.jobId = 1 := by unfold nextI; rw [if_pos (.inr g2)]
     rw [n2] at sk
     by_cases k1 : kind = 1
     ·rw [k1] at sk mi ⊢
      simp only [aNd,eq_self,if_true] at sk
      rw [fn_textN (C := C4) Tryz.func14 rfl rfl Tryz.results14 (show (C4).M.loc 14 = _ from fq14.1) rfl rfl (by kernel_rfl)]
      simp -implicitDefEqProofs -dsimp +contextual (maxSteps := 9999999) (disch := first | omega | simp only [go_sem] <;> omega | refine ib ?_; kernel_rfl) only [go_sem,seval,↓reduceIte,mi,ky,vl,cp,hr,h8',hb,g1,g2,sk]
     ·have k1' := eq_false k1
      simp only [aNd,k1',if_false] at sk
      rw [fn_textN (C := C4) Tryz.func14 rfl rfl Tryz.results14 (show (C4).M.loc 14 = _ from fq14.1) rfl rfl (by kernel_rfl)]
      simp -implicitDefEqProofs -dsimp +contextual (maxSteps := 9999999) (disch := first | omega | simp only [go_sem] <;> omega | refine ib ?_; kernel_rfl) only [go_sem,seval,↓reduceIte,mi,ky,vl,cp,hr,h8',hb,g1,g2,sk,k1']
    ·have n3 : nextI n.jobId = n.jobId + 1 := by unfold nextI; rw [if_neg (by omega)]
     rw [n3] at sk
     by_cases k1 : kind = 1
     ·rw [k1] at sk mi ⊢
      simp only [aNd,eq_self,if_true] at sk
      rw [fn_textN (C := C4) Tryz.func14 rfl rfl Tryz.results14 (show (C4).M.loc 14 = _ from fq14.1) rfl rfl (by kernel_rfl)]
      simp -implicitDefEqProofs -dsimp +contextual (maxSteps := 9999999) (disch := first | omega | simp only [go_sem] <;> omega | refine ib ?_; kernel_rfl) only [go_sem,seval,↓reduceIte,mi,ky,vl,cp,hr,h8',hb,g1,g2,sk]
     ·have k1' := eq_false k1
      simp only [aNd,k1',if_false] at sk
      rw [fn_textN (C := C4) Tryz.func14 rfl rfl Tryz.results14 (show (C4).M.loc 14 = _ from fq14.1) rfl rfl (by kernel_rfl)]
      simp -implicitDefEqProofs -dsimp +contextual (maxSteps := 9999999) (disch := first | omega | simp only [go_sem] <;> omega | refine ib ?_; kernel_rfl) only [go_sem,seval,↓reduceIte,mi,ky,vl,cp,hr,h8',hb,g1,g2,sk,k1']
end Go.Proofs.YtnpkhdjgedeppaaGreatDoor
namespace Go.Proofs.YtnpkhdjgedeppaaGreatDoor
set_option maxHeartbeats 64000000
open Go.Am
set_option linter.unusedSimpArgs false
set_option linter.unusedVariables false
set_option maxRecDepth 100000
def AccE (f : Nat → AVal) (H : Heap) (t o st : Nat) (r : List (List AVal)) : Prop := ∃ g,f t = .osl o g 0 r.length ∧ H o = ⟨g,.live,st,r,false⟩
theorem map_take_succ {α β : Type} (f : α → β) (l : List α) (i : Nat) (h : i < l.length) : (l.take (i + 1)).map f = (l.take i).map f ++ [f l[i]] := by
 rw [List.take_succ_eq_append_getElem h,List.map_append]; rfl
def entR (p : Pr) : List AVal := p.e.cs
theorem entR_map (l : List Pr) : l.map entR = (l.map Pr.e).map En.cs := by rw [List.map_map]; rfl
@[go_sem] theorem e121 (l : List Pr) (hl : l.length ≤ 1000000) : fn C 121 [] [.slice 8 (l.map Pr.cs)] = some (.slice 6 ((l.map Pr.e).map En.cs),[]) := by
 rw [fn_textN Tryz.func121 rfl rfl Tryz.results121 fq121.1 rfl rfl (by kernel_rfl)]
 simp -implicitDefEqProofs -dsimp +contextual (maxSteps := 9999999) (disch := first | omega | simp only [go_sem] <;> omega | refine ib ?_; kernel_rfl) only [go_sem,seval,↓reduceIte]
 refine kFor l.length (fun i f H => f 0 = .slice 8 (l.map Pr.cs) ∧ f 4 = .int .i64 (i : Nat) ∧ AccE f H 3 103 6 ((l.take i).map entR)) ?_ ?_ (by exact ⟨rfl,rfl,⟨_,rfl,rfl⟩⟩)
 ·rintro i f H hi ⟨f0,f4,g,f3,hA⟩ ih
  have hm := map_take_succ entR l i hi
  have row := pr_row l i hi
  have hn : ((l.take i).map entR).length ≤ 1000000 := by simp; omega
  generalize (l.take i).map entR = r at *
  simp -implicitDefEqProofs -dsimp +contextual (maxSteps := 9999999) (disch := first | omega | simp only [go_sem] <;> omega | refine ib ?_; kernel_rfl) only [go_sem,seval,↓reduceIte,f0,f4,f3,hA,hi,row]
  exact ih _ _ ⟨f0,rfl,by rw [hm]; exact ⟨_,by rw [List.length_append]; rfl,rfl⟩⟩
 ·rintro f H ⟨f0,f4,g,f3,hA⟩
  rw [List.take_length,entR_map] at f3 hA
  simp -implicitDefEqProofs -dsimp +contextual (maxSteps := 9999999) (disch := first | omega | simp only [go_sem] <;> omega | refine ib ?_; kernel_rfl) only [go_sem,seval,↓reduceIte,f0,f4,f3,hA]
end Go.Proofs.YtnpkhdjgedeppaaGreatDoor
namespace Go.Proofs.YtnpkhdjgedeppaaGreatDoor
set_option maxHeartbeats 64000000
open Go.Am
set_option linter.unusedSimpArgs false
set_option linter.unusedVariables false
set_option maxRecDepth 100000
attribute [local irreducible] distR
theorem en_row (l : List En) (i : Nat) (h : i < l.length) : (l.map En.cs)[i]? = some [.str l[i].name,.int .u64 (l[i].id : Int),.int .i64 l[i].fr,.int .i64 l[i].un,.int .i64 l[i].ix,.str l[i].tag] := by
 rw [List.getElem?_map,List.getElem?_eq_getElem h]; rfl
@[go_sem] theorem e113 (me : En) (l : List Pr) (key : Nat) (hk : key ≤ 18446744073709551615) (hm : me.id ≤ 18446744073709551615) (hl : l.length ≤ 1000000) (hp : ∀ p ∈ l,p.e.id ≤ 18446744073709551615) : fn C 113 [] [.agg [.str me.name,.int .u64 (me.id : Int),.int .i64 me.fr,.int .i64 me.un,.int .i64 me.ix,.str me.tag],.slice 8 (l.map Pr.cs),.int .u64 (key : Int)] = some (.agg [.str (ownerR me l key).name,.int .u64 ((ownerR me l key).id : Int),.int .i64 (ownerR me l key).fr,.int .i64 (ownerR me l key).un,.int .i64 (ownerR me l key).ix,.str (ownerR me l key).tag],[]) := by
 rw [fn_text Tryz.func113 rfl rfl Tryz.results113 fq113.1 rfl rfl (by kernel_rfl)]
 rw [ownerR_eq]
 simp -implicitDefEqProofs -dsimp +contextual (maxSteps := 9999999) (disch := first | omega | simp only [go_sem] <;> omega | refine ib ?_; kernel_rfl) only [go_sem,seval,↓reduceIte]
 obtain ⟨all,hall⟩ : ∃ all : List En,all = me :: l.map Pr.e := ⟨_,rfl⟩
 have hrows : [.str me.name,.int .u64 (me.id : Int),.int .i64 me.fr,.int .i64 me.un,.int .i64 me.ix,.str me.tag] :: (l.map Pr.e).map En.cs = all.map En.cs := by rw [hall]; rfl
 have hn : all.length = l.length + 1 := by simp [hall]
 have hid : ∀ e ∈ all,e.id ≤ 18446744073709551615 := by
  intro e he
  rw [hall] at he
  rcases List.mem_cons.1 he with rfl | he
  ·exact hm
  ·obtain ⟨p,hp',rfl⟩ := List.mem_map.1 he
   exact hp p hp'
 have hat : ∀ (i : Nat) (h : i + 1 < all.length),all[i + 1] = (l[i]'(by omega)).e := by
  intro i h; subst hall; simp
 have h0 : all[0]'(by omega) = me := by subst hall; rfl
 rw [hrows]
 refine kFor all.length (fun i f H => f 2 = .int .u64 (key : Int) ∧ f 6 = .ptr 106 1 0 0 ∧ f 7 = .osl 111 2 0 all.length ∧ f 9 = .int .i64 (i : Nat) ∧ H 111 = ⟨2,.live,6,all.map En.cs,false⟩ ∧ (H 106).gen = 1 ∧ (H 106).mode = .live ∧ (∃ r : List AVal,r.length = 6 ∧ (H 106).rows = [r]) ∧ ∃ (j : Nat) (hj : j < all.length),f 8 = .int .i64 (j : Nat) ∧ all[j] = (l.take (i - 1)).foldl (bestS key) me) ?_ ?_ ?_
 ·rintro i f H hi ⟨f2,f6,f7,f9,hH,H6g,H6m,H6,j,hj,f8,hb⟩ ih
  have ri := en_row all i hi
  have rj := en_row all j hj
  have i1 := hid _ (List.getElem_mem hi)
  have i2 := hid _ (List.getElem_mem hj)
  have next : (if distR key all[i].id < distR key all[j].id then all[i] else all[j]) = (l.take (i + 1 - 1)).foldl (bestS key) me := by
   cases i with
   | zero =>
    rw [h0,hb]
    simp
   | succ i =>
    have := hat i hi
    rw [Nat.add_sub_cancel,best_succ me l key i (by omega),hb,Nat.add_sub_cancel,this]
    rfl
  simp -implicitDefEqProofs -dsimp +contextual (maxSteps := 9999999) (disch := first | omega | simp only [go_sem] <;> omega | refine ib ?_; kernel_rfl) only [go_sem,seval,↓reduceIte,f2,f6,f7,f8,f9,hH,hi,hj,ri,rj,i1,i2]
  (repeat' (refine kD_intro (fun _ => ?_) (fun _ => ?_)))
  ·rename_i hd
   rw [if_pos hd] at next
   exact ih _ _ ⟨f2,f6,f7,rfl,hH,H6g,H6m,H6,i,hi,rfl,next⟩
  ·rename_i hd
   rw [if_neg hd] at next
   exact ih _ _ ⟨f2,f6,f7,rfl,hH,H6g,H6m,H6,j,hj,f8,next⟩
 ·rintro f H ⟨f2,f6,f7,f9,hH,H6g,H6m,⟨r,hr,H6⟩,j,hj,f8,hb⟩
  have rj := en_row all j hj
  rw [hn,Nat.add_sub_cancel,List.take_length] at hb
  rw [hb] at rj
  simp -implicitDefEqProofs -dsimp +contextual (maxSteps := 9999999) (disch := first | omega | simp only [go_sem] <;> omega | refine ib ?_; kernel_rfl) only [go_sem,seval,↓reduceIte,f2,f6,f7,f8,f9,hH,hj,rj,H6g,H6m,H6,hr]
 ·refine ⟨rfl,rfl,?_,rfl,rfl,rfl,rfl,⟨_,rfl,rfl⟩,0,by omega,rfl,?_⟩
  ·rw [hn]; first | rfl | (rw [Nat.add_comm]; rfl)
  ·simpa using h0
end Go.Proofs.YtnpkhdjgedeppaaGreatDoor
namespace Go.Proofs.YtnpkhdjgedeppaaGreatDoor
set_option maxHeartbeats 64000000
open Go.Am
set_option linter.unusedSimpArgs false
set_option linter.unusedVariables false
set_option maxRecDepth 100000
def rightE (e : En) : Bool := nameR e.name && decide (0 ≤ e.fr) && decide (e.fr ≤ e.un) && decide (e.un ≤ 1073741824) && decide (0 ≤ e.ix) && decide (e.ix ≤ 64) && decide (e.tag.length = 32)
def signB (k : List UInt8) (e : En) : List UInt8 := macB k (bodyB e)
def validR (gi : Int) (gk : List UInt8) (e : En) (now : Int) : Int :=
 if rightE e = true then if e.ix < gi then 33 else if gi < e.ix then 34 else if e.tag = signB gk e then if now < e.fr ∨ e.un < now then 32 else 0 else 20 else 11
def takenP (gi : Int) (gk : List UInt8) (e : En) (now : Int) : Pr := if validR gi gk e now = 0 then ⟨e,now,gi⟩ else zeroPr
@[go_sem] theorem e200 (e : En) (hn : e.name.length ≤ 1000000000000) : fn C 200 [] [.agg [.str e.name, .int .u64 (e.id : Int), .int .i64 e.fr, .int .i64 e.un, .int .i64 e.ix, .str e.tag]] = some (.bool (rightE e), []) := by
  rw [fn_text Tryz.func200 rfl rfl Tryz.results200 fq200.1 rfl rfl (by kernel_rfl)]
  simp -implicitDefEqProofs -dsimp +contextual (maxSteps := 9999999) (disch := first | omega | simp only [go_sem] <;> omega | refine ib ?_; kernel_rfl) only [go_sem, seval, ↓reduceIte]
  (repeat' (refine kD_intro (fun _ => ?_) (fun _ => ?_))) <;> exact Res_bool (by simp [rightE, *])
@[go_sem] theorem e220 (e : En) (hn : e.name.length ≤ 1000000000000) : fn C 220 [] [.agg [.str e.name, .int .u64 (e.id : Int), .int .i64 e.fr, .int .i64 e.un, .int .i64 e.ix, .str e.tag]] = some (.bool (rightE e), []) := by
  rw [fn_text Tryz.func220 rfl rfl Tryz.results220 fq220.1 rfl rfl (by kernel_rfl)]
  simp -implicitDefEqProofs -dsimp +contextual (maxSteps := 9999999) (disch := first | omega | simp only [go_sem] <;> omega | refine ib ?_; kernel_rfl) only [go_sem, seval, ↓reduceIte]
  (repeat' (refine kD_intro (fun _ => ?_) (fun _ => ?_))) <;> exact Res_bool (by simp [rightE, *])
@[go_sem] theorem e246 (k m t : List UInt8) (h : k.length ≤ 1000000) (hf : m.length ≤ 500000) (ht : t.length ≤ 1000000) : fn C 246 [] [.slice 1 (k.map byteRow),.slice 1 (m.map byteRow),.slice 1 (t.map byteRow)] = some (.bool (decide (macB k m = t)),[]) := by
 rw [fn_text Tryz.func246 rfl rfl Tryz.results246 fq246.1 rfl rfl (by kernel_rfl)]
 have hl := macB_len k m
 simp -implicitDefEqProofs -dsimp +contextual (maxSteps := 9999999) (disch := first | omega | simp only [go_sem] <;> omega | refine ib ?_; kernel_rfl) only [go_sem,seval,↓reduceIte]
@[go_sem] theorem e202 (k : List UInt8) (e : En) (h : e.ok) (hn : e.name.length ≤ 10000) (ht : e.tag.length ≤ 10000) (hk : k.length ≤ 10000) : fn C 202 [] [.str k,.agg [.str e.name,.int .u64 (e.id : Int),.int .i64 e.fr,.int .i64 e.un,.int .i64 e.ix,.str e.tag]] = some (.bool (decide (e.tag = signB k e)),[]) := by
 rw [fn_text Tryz.func202 rfl rfl Tryz.results202 fq202.1 rfl rfl (by kernel_rfl)]
 have e1 := e192 e h (by omega)
 have e2 := e246 k (bodyB e) e.tag (by omega) (by rw [bodyB_len]; omega) (by omega)
 simp -implicitDefEqProofs -dsimp +contextual (maxSteps := 9999999) (disch := first | omega | simp only [go_sem] <;> omega | refine ib ?_; kernel_rfl) only [go_sem,seval,↓reduceIte,e1,e2]
 refine Res_bool ?_
 rw [signB,decide_eq_true_iff,decide_eq_true_iff]
 exact eq_comm
@[go_sem] theorem e245 (a : Int) : fn C 245 [] [.int .i64 a] = some (.bool false,[]) := by
 rw [fn_text Tryz.func245 rfl rfl Tryz.results245 fq245.1 rfl rfl (by kernel_rfl)]
 simp -implicitDefEqProofs -dsimp +contextual (maxSteps := 9999999) (disch := first | omega | simp only [go_sem] <;> omega | refine ib ?_; kernel_rfl) only [go_sem,seval,↓reduceIte]
@[go_sem] theorem e201 (a b : Int) : fn C 201 [] [.int .i64 a,.int .i64 b] = some (.int .i64 (if a < b then -1 else if b < a then 1 else 0),[]) := by
 rw [fn_text Tryz.func201 rfl rfl Tryz.results201 fq201.1 rfl rfl (by kernel_rfl)]
 by_cases h1 : a < b
 ·simp -implicitDefEqProofs -dsimp +contextual (maxSteps := 9999999) (disch := first | omega | simp only [go_sem] <;> omega | refine ib ?_; kernel_rfl) only [go_sem,seval,↓reduceIte,h1]
 ·by_cases h2 : b < a
  ·simp -implicitDefEqProofs -dsimp +contextual (maxSteps := 9999999) (disch := first | omega | simp only [go_sem] <;> omega | refine ib ?_; kernel_rfl) only [go_sem,seval,↓reduceIte,h1,h2]
  ·simp -implicitDefEqProofs -dsimp +contextual (maxSteps := 9999999) (disch := first | omega | simp only [go_sem] <;> omega | refine ib ?_; kernel_rfl) only [go_sem,seval,↓reduceIte,h1,h2]
@[go_sem] theorem e134 (gi : Int) (gk : List UInt8) (e : En) (now : Int) (h : e.ok) (hn : e.name.length ≤ 10000) (ht : e.tag.length ≤ 10000) (hk : gk.length ≤ 10000) : fn C 134 [] [.agg [.int .i64 gi,.str gk],.agg [.str e.name,.int .u64 (e.id : Int),.int .i64 e.fr,.int .i64 e.un,.int .i64 e.ix,.str e.tag],.int .i64 now] = some (.int .i64 (validR gi gk e now),[]) := by
 rw [fn_text Tryz.func134 rfl rfl Tryz.results134 fq134.1 rfl rfl (by kernel_rfl)]
 have e0 := e200 e (by omega)
 have e1 := e202 gk e h hn ht hk
 have e2 := e201 e.ix gi
 rw [validR]
 by_cases h0 : rightE e = true
 ·by_cases h1 : e.ix < gi
  ·simp only [h1,if_true] at e2
   simp -implicitDefEqProofs -dsimp +contextual (maxSteps := 9999999) (disch := first | omega | simp only [go_sem] <;> omega | refine ib ?_; kernel_rfl) only [go_sem,seval,↓reduceIte,e0,e2,h0,h1]
  ·by_cases h2 : gi < e.ix
   ·simp only [h1,h2,if_true,if_false] at e2
    simp -implicitDefEqProofs -dsimp +contextual (maxSteps := 9999999) (disch := first | omega | simp only [go_sem] <;> omega | refine ib ?_; kernel_rfl) only [go_sem,seval,↓reduceIte,e0,e2,h0,h1,h2]
   ·simp only [h1,h2,if_false] at e2
    by_cases h3 : e.tag = signB gk e
    ·rw [decide_eq_true h3] at e1
     rw [if_pos h3]
     by_cases h4 : now < e.fr
     ·simp -implicitDefEqProofs -dsimp +contextual (maxSteps := 9999999) (disch := first | omega | simp only [go_sem] <;> omega | refine ib ?_; kernel_rfl) only [go_sem,seval,↓reduceIte,e0,e1,e2,h0,h1,h2,h4]
     ·by_cases h5 : e.un < now
      ·simp -implicitDefEqProofs -dsimp +contextual (maxSteps := 9999999) (disch := first | omega | simp only [go_sem] <;> omega | refine ib ?_; kernel_rfl) only [go_sem,seval,↓reduceIte,e0,e1,e2,h0,h1,h2,h4,h5]
      ·simp -implicitDefEqProofs -dsimp +contextual (maxSteps := 9999999) (disch := first | omega | simp only [go_sem] <;> omega | refine ib ?_; kernel_rfl) only [go_sem,seval,↓reduceIte,e0,e1,e2,h0,h1,h2,h4,h5]
    ·rw [decide_eq_false h3] at e1
     rw [if_neg h3]
     simp -implicitDefEqProofs -dsimp +contextual (maxSteps := 9999999) (disch := first | omega | simp only [go_sem] <;> omega | refine ib ?_; kernel_rfl) only [go_sem,seval,↓reduceIte,e0,e1,e2,h0,h1,h2]
 ·simp -implicitDefEqProofs -dsimp +contextual (maxSteps := 9999999) (disch := first | omega | simp only [go_sem] <;> omega | refine ib ?_; kernel_rfl) only [go_sem,seval,↓reduceIte,e0,h0]
@[go_sem] theorem e45 (gi : Int) (gk : List UInt8) (e : En) (now : Int) (h : e.ok) (hn : e.name.length ≤ 10000) (ht : e.tag.length ≤ 10000) (hk : gk.length ≤ 10000) : fn C 45 [] [.agg [.int .i64 gi,.str gk],.agg [.str e.name,.int .u64 (e.id : Int),.int .i64 e.fr,.int .i64 e.un,.int .i64 e.ix,.str e.tag],.int .i64 now] = some (.tup [.agg [.str (takenP gi gk e now).e.name,.int .u64 ((takenP gi gk e now).e.id : Int),.int .i64 (takenP gi gk e now).e.fr,.int .i64 (takenP gi gk e now).e.un,.int .i64 (takenP gi gk e now).e.ix,.str (takenP gi gk e now).e.tag,.int .i64 (takenP gi gk e now).since,.int .i64 (takenP gi gk e now).under],.int .i64 (validR gi gk e now)],[]) := by
 rw [fn_text Tryz.func45 rfl rfl Tryz.results45 fq45.1 rfl rfl (by kernel_rfl)]
 have e0 := e134 gi gk e now h hn ht hk
 rw [takenP]
 by_cases h0 : validR gi gk e now = 0
 ·simp -implicitDefEqProofs -dsimp +contextual (maxSteps := 9999999) (disch := first | omega | simp only [go_sem] <;> omega | refine ib ?_; kernel_rfl) only [go_sem,seval,↓reduceIte,e0,h0]
 ·simp -implicitDefEqProofs -dsimp +contextual (maxSteps := 9999999) (disch := first | omega | simp only [go_sem] <;> omega | refine ib ?_; kernel_rfl) only [go_sem,seval,↓reduceIte,e0,h0]
  rfl
@[go_sem] theorem e221 (k : List UInt8) (e : En) (h : e.ok) (hn : e.name.length ≤ 10000) (ht : e.tag.length ≤ 10000) (hk : k.length ≤ 10000) : fn C 221 [] [.str k,.agg [.str e.name,.int .u64 (e.id : Int),.int .i64 e.fr,.int .i64 e.un,.int .i64 e.ix,.str e.tag]] = some (.bool (decide (e.tag = signB k e)),[]) := by
 rw [fn_text Tryz.func221 rfl rfl Tryz.results221 fq221.1 rfl rfl (by kernel_rfl)]
 have e1 : fn C 256 [] [.str k,.agg [.str e.name,.int .u64 (e.id : Int),.int .i64 e.fr,.int .i64 e.un,.int .i64 e.ix,.str e.tag]] = some (.agg [.str e.name,.int .u64 (e.id : Int),.int .i64 e.fr,.int .i64 e.un,.int .i64 e.ix,.str (signB k e)],[]) := by
  rw [fn_text Tryz.func256 rfl rfl Tryz.results256 fq256.1 rfl rfl (by kernel_rfl)]
  have e1 := e274 e h (by omega)
  have e2 := e273 k (bodyB e) (by omega) (by rw [bodyB_len]; omega)
  simp -implicitDefEqProofs -dsimp +contextual (maxSteps := 9999999) (disch := first | omega | simp only [go_sem] <;> omega | refine ib ?_; kernel_rfl) only [go_sem,seval,↓reduceIte,e1,e2]
  rfl
 simp -implicitDefEqProofs -dsimp +contextual (maxSteps := 9999999) (disch := first | omega | simp only [go_sem] <;> omega | refine ib ?_; kernel_rfl) only [go_sem,seval,↓reduceIte,e1]
 refine Res_bool ?_
 exact decide_eq_true_iff.trans (eq_comm.trans decide_eq_true_iff.symm)
@[go_sem] theorem e163 (gi : Int) (gk : List UInt8) (e : En) (now : Int) (h : e.ok) (hn : e.name.length ≤ 10000) (ht : e.tag.length ≤ 10000) (hk : gk.length ≤ 10000) : fn C 163 [] [.agg [.int .i64 gi,.str gk],.agg [.str e.name,.int .u64 (e.id : Int),.int .i64 e.fr,.int .i64 e.un,.int .i64 e.ix,.str e.tag],.int .i64 now] = some (.int .i64 (validR gi gk e now),[]) := by
 rw [fn_text Tryz.func163 rfl rfl Tryz.results163 fq163.1 rfl rfl (by kernel_rfl)]
 have e0 := e220 e (by omega)
 have e1 := e221 gk e h hn ht hk
 rw [validR]
 by_cases h0 : rightE e = true
 ·by_cases h1 : e.ix < gi
  ·simp -implicitDefEqProofs -dsimp +contextual (maxSteps := 9999999) (disch := first | omega | simp only [go_sem] <;> omega | refine ib ?_; kernel_rfl) only [go_sem,seval,↓reduceIte,e0,h0,h1]
  ·by_cases h2 : gi < e.ix
   ·simp -implicitDefEqProofs -dsimp +contextual (maxSteps := 9999999) (disch := first | omega | simp only [go_sem] <;> omega | refine ib ?_; kernel_rfl) only [go_sem,seval,↓reduceIte,e0,h0,h1,h2]
   ·by_cases h3 : e.tag = signB gk e
    ·rw [decide_eq_true h3] at e1
     rw [if_pos h3]
     by_cases h4 : now < e.fr
     ·simp -implicitDefEqProofs -dsimp +contextual (maxSteps := 9999999) (disch := first | omega | simp only [go_sem] <;> omega | refine ib ?_; kernel_rfl) only [go_sem,seval,↓reduceIte,e0,e1,h0,h1,h2,h4]
     ·by_cases h5 : e.un < now
      ·simp -implicitDefEqProofs -dsimp +contextual (maxSteps := 9999999) (disch := first | omega | simp only [go_sem] <;> omega | refine ib ?_; kernel_rfl) only [go_sem,seval,↓reduceIte,e0,e1,h0,h1,h2,h4,h5]
      ·simp -implicitDefEqProofs -dsimp +contextual (maxSteps := 9999999) (disch := first | omega | simp only [go_sem] <;> omega | refine ib ?_; kernel_rfl) only [go_sem,seval,↓reduceIte,e0,e1,h0,h1,h2,h4,h5]
    ·rw [decide_eq_false h3] at e1
     rw [if_neg h3]
     simp -implicitDefEqProofs -dsimp +contextual (maxSteps := 9999999) (disch := first | omega | simp only [go_sem] <;> omega | refine ib ?_; kernel_rfl) only [go_sem,seval,↓reduceIte,e0,e1,h0,h1,h2]
 ·simp -implicitDefEqProofs -dsimp +contextual (maxSteps := 9999999) (disch := first | omega | simp only [go_sem] <;> omega | refine ib ?_; kernel_rfl) only [go_sem,seval,↓reduceIte,e0,h0]
@[go_sem] theorem e100 (gi : Int) (gk : List UInt8) (e : En) (now : Int) (h : e.ok) (hn : e.name.length ≤ 10000) (ht : e.tag.length ≤ 10000) (hk : gk.length ≤ 10000) : fn C 100 [] [.agg [.int .i64 gi,.str gk],.agg [.str e.name,.int .u64 (e.id : Int),.int .i64 e.fr,.int .i64 e.un,.int .i64 e.ix,.str e.tag],.int .i64 now] = some (.tup [.agg [.str (takenP gi gk e now).e.name,.int .u64 ((takenP gi gk e now).e.id : Int),.int .i64 (takenP gi gk e now).e.fr,.int .i64 (takenP gi gk e now).e.un,.int .i64 (takenP gi gk e now).e.ix,.str (takenP gi gk e now).e.tag,.int .i64 (takenP gi gk e now).since,.int .i64 (takenP gi gk e now).under],.int .i64 (validR gi gk e now)],[]) := by
 rw [fn_text Tryz.func100 rfl rfl Tryz.results100 fq100.1 rfl rfl (by kernel_rfl)]
 have e0 := e163 gi gk e now h hn ht hk
 rw [takenP]
 by_cases h0 : validR gi gk e now = 0
 ·simp -implicitDefEqProofs -dsimp +contextual (maxSteps := 9999999) (disch := first | omega | simp only [go_sem] <;> omega | refine ib ?_; kernel_rfl) only [go_sem,seval,↓reduceIte,e0,h0]
 ·simp -implicitDefEqProofs -dsimp +contextual (maxSteps := 9999999) (disch := first | omega | simp only [go_sem] <;> omega | refine ib ?_; kernel_rfl) only [go_sem,seval,↓reduceIte,e0,h0]
  rfl
end Go.Proofs.YtnpkhdjgedeppaaGreatDoor
namespace Go.Proofs.YtnpkhdjgedeppaaGreatDoor
set_option maxHeartbeats 64000000
open Go.Am
set_option linter.unusedSimpArgs false
set_option linter.unusedVariables false
set_option maxRecDepth 100000
attribute [local irreducible] distR idB sumB
@[go_sem] theorem e68 (j : Jb) : fn C 68 [] [.agg [.int .i64 j.id,.int .i64 j.kind,.int .i64 j.phase,.int .i64 j.hops,.int .i64 j.tries,.int .i64 j.til,.str j.key,.str j.val,.str j.owner.name,.int .u64 (j.owner.id : Int),.int .i64 j.owner.fr,.int .i64 j.owner.un,.int .i64 j.owner.ix,.str j.owner.tag,.str j.item.k,.str j.item.v,.int .i64 j.item.n,.bool j.item.g,.int .i64 j.acks,.int .i64 j.waits,.slice 1 (j.asked.map strRow),.str j.back.name,.int .u64 (j.back.id : Int),.int .i64 j.back.fr,.int .i64 j.back.un,.int .i64 j.back.ix,.str j.back.tag,.int .i64 j.backRid,.int .i64 j.backJob]] = some (.bool (mineJ j),[]) := by
 rw [fn_text Tryz.func68 rfl rfl Tryz.results68 fq68.1 rfl rfl (by kernel_rfl)]
 simp -implicitDefEqProofs -dsimp +contextual (maxSteps := 9999999) (disch := first | omega | simp only [go_sem] <;> omega | refine ib ?_; kernel_rfl) only [go_sem,seval,↓reduceIte]
 (repeat' (refine kD_intro (fun _ => ?_) (fun _ => ?_))) <;> exact Res_bool (by rw [mineJ_iff]; first | (constructor <;> intro h' <;> first | omega | cases h') | (simp; omega))
theorem rPlace (n : Nd) (id : Int) (h : n.jobs.length ≤ 1000000) : fn C 72 [] [(aNd n),.int .i64 id] = some (.int .i64 (cliP n.jobs id),[]) := by
 rcases cliP_cases n.jobs id with ⟨i,hi,hid,hm,hf,hc⟩ | ⟨hc,hf | ⟨i,hi,hf,hm⟩⟩
 ·rw [hc]
  have row := jb_row n.jobs i hi
  have cl := e68 n.jobs[i]
  rw [hm] at cl
  rw [fn_text Tryz.func72 rfl rfl Tryz.results72 fq72.1 rfl rfl (by kernel_rfl)]
  simp -implicitDefEqProofs -dsimp +contextual (maxSteps := 9999999) (disch := first | omega | simp only [go_sem] <;> omega | refine ib ?_; kernel_rfl) only [go_sem,seval,↓reduceIte,hf,row,cl,Nat.not_lt_zero]
 ·rw [hc]
  rw [fn_text Tryz.func72 rfl rfl Tryz.results72 fq72.1 rfl rfl (by kernel_rfl)]
  simp -implicitDefEqProofs -dsimp +contextual (maxSteps := 9999999) (disch := first | omega | simp only [go_sem] <;> omega | refine ib ?_; kernel_rfl) only [go_sem,seval,↓reduceIte,hf]
 ·rw [hc]
  have row := jb_row n.jobs i hi
  have cl := e68 n.jobs[i]
  rw [hm] at cl
  rw [fn_text Tryz.func72 rfl rfl Tryz.results72 fq72.1 rfl rfl (by kernel_rfl)]
  simp -implicitDefEqProofs -dsimp +contextual (maxSteps := 9999999) (disch := first | omega | simp only [go_sem] <;> omega | refine ib ?_; kernel_rfl) only [go_sem,seval,↓reduceIte,hf,row,cl,Nat.not_lt_zero]
theorem rFail (n : Nd) (id e : Int) (h : n.mid 1000000) : fn C 98 [] [(aNd n),.int .i64 id,.int .i64 e] = some (pairC (failC n id e),[]) := by
 have s := e87 n id zeroIt false e h
 simp only [aNd,zeroIt_k,zeroIt_v,zeroIt_n,zeroIt_g] at s
 unfold failC
 generalize settleR n id zeroIt false e = d at *
 rw [Nd.cs] at s
 rw [fn_text Tryz.func98 rfl rfl Tryz.results98 fq98.1 rfl rfl (by kernel_rfl)]
 simp -implicitDefEqProofs -dsimp +contextual (maxSteps := 9999999) (disch := first | omega | simp only [go_sem] <;> omega | refine ib ?_; kernel_rfl) only [go_sem,seval,↓reduceIte,s]
theorem rSetC (n : Nd) (i : Nat) (j : Jb) (hi : i < n.jobs.length) (h : n.mid 1000000) : fn C 99 [] [(aNd n),.int .i64 (i : Nat),.agg [.int .i64 j.id,.int .i64 j.kind,.int .i64 j.phase,.int .i64 j.hops,.int .i64 j.tries,.int .i64 j.til,.str j.key,.str j.val,.str j.owner.name,.int .u64 (j.owner.id : Int),.int .i64 j.owner.fr,.int .i64 j.owner.un,.int .i64 j.owner.ix,.str j.owner.tag,.str j.item.k,.str j.item.v,.int .i64 j.item.n,.bool j.item.g,.int .i64 j.acks,.int .i64 j.waits,.slice 1 (j.asked.map strRow),.str j.back.name,.int .u64 (j.back.id : Int),.int .i64 j.back.fr,.int .i64 j.back.un,.int .i64 j.back.ix,.str j.back.tag,.int .i64 j.backRid,.int .i64 j.backJob]] = some (.agg ({ n with jobs := n.jobs.set i j } : Nd).cs,[]) := by
 have jl := h.jl
 have st : (n.jobs.map Jb.cs).set i [.int .i64 j.id,.int .i64 j.kind,.int .i64 j.phase,.int .i64 j.hops,.int .i64 j.tries,.int .i64 j.til,.str j.key,.str j.val,.str j.owner.name,.int .u64 (j.owner.id : Int),.int .i64 j.owner.fr,.int .i64 j.owner.un,.int .i64 j.owner.ix,.str j.owner.tag,.str j.item.k,.str j.item.v,.int .i64 j.item.n,.bool j.item.g,.int .i64 j.acks,.int .i64 j.waits,.slice 1 (j.asked.map strRow),.str j.back.name,.int .u64 (j.back.id : Int),.int .i64 j.back.fr,.int .i64 j.back.un,.int .i64 j.back.ix,.str j.back.tag,.int .i64 j.backRid,.int .i64 j.backJob] = (n.jobs.set i j).map Jb.cs := by rw [List.map_set]; rfl
 rw [fn_text Tryz.func99 rfl rfl Tryz.results99 fq99.1 rfl rfl (by kernel_rfl)]
 simp -implicitDefEqProofs -dsimp +contextual (maxSteps := 9999999) (disch := first | omega | simp only [go_sem] <;> omega | refine ib ?_; kernel_rfl) only [go_sem,seval,↓reduceIte,hi,st]
theorem rAsk (n : Nd) (i : Nat) (j : Jb) (to : En) (hi : i < n.jobs.length) (hk : j.key.length ≤ 10000) (h : n.mid 1000000) : fn C 102 [] [(aNd n),.int .i64 (i : Nat),.agg [.int .i64 j.id,.int .i64 j.kind,.int .i64 j.phase,.int .i64 j.hops,.int .i64 j.tries,.int .i64 j.til,.str j.key,.str j.val,.str j.owner.name,.int .u64 (j.owner.id : Int),.int .i64 j.owner.fr,.int .i64 j.owner.un,.int .i64 j.owner.ix,.str j.owner.tag,.str j.item.k,.str j.item.v,.int .i64 j.item.n,.bool j.item.g,.int .i64 j.acks,.int .i64 j.waits,.slice 1 (j.asked.map strRow),.str j.back.name,.int .u64 (j.back.id : Int),.int .i64 j.back.fr,.int .i64 j.back.un,.int .i64 j.back.ix,.str j.back.tag,.int .i64 j.backRid,.int .i64 j.backJob],.agg [.str to.name,.int .u64 (to.id : Int),.int .i64 to.fr,.int .i64 to.un,.int .i64 to.ix,.str to.tag]] = some (pairC (askC n i j to j.id),[]) := by
 have e1 := e96 j.key hk
 have e2 := rSetC n i { j with phase := 1,owner := to } hi h
 try simp only at e2
 unfold askC findM keyI
 generalize idB (keyS ++ j.key) = d at *
 rw [fn_textN Tryz.func102 rfl rfl Tryz.results102 fq102.1 rfl rfl (by kernel_rfl)]
 simp -implicitDefEqProofs -dsimp +contextual (maxSteps := 9999999) (disch := first | omega | simp only [go_sem] <;> omega | refine ib ?_; kernel_rfl) only [go_sem,seval,↓reduceIte,e1,e2,msZ]
structure CliOk (n : Nd) : Prop where
 k : CliK n
 jobId : I64 n.jobId
theorem rSeek (n : Nd) (i : Nat) (hi : i < n.jobs.length) (h : CliOk n) : fn C 73 [] [(aNd n),.int .i64 (i : Nat)] = some (pairC (seekC n i n.jobs[i].id),[]) := by
 have row := jb_row n.jobs i hi
 obtain ⟨k1,k2⟩ := h.k.jk _ (List.getElem_mem hi)
 have il := h.k.md.il
 have e1 := e96 n.jobs[i].key k1
 have e2 := e113 n.me n.list (keyI n.jobs[i].key) (idB_lt _) h.k.me (Nat.le_trans h.k.md.ll (by decide)) (fun p hp => h.k.li p hp)
 have e3 := enEq (ownerR n.me n.list (keyI n.jobs[i].key)) n.me
 have e4 := e116 n.items n.jobs[i].key (by omega)
 have e5 := rAsk n i n.jobs[i] (ownerR n.me n.list (keyI n.jobs[i].key)) hi k1 (h.k.md.le (by omega))
 have e6 := e87 n n.jobs[i].id (getR n.items n.jobs[i].key).1 ((getR n.items n.jobs[i].key).2 && !(getR n.items n.jobs[i].key).1.g) 0 (h.k.md.le (by omega))
 have e7 := rSetC n i { n.jobs[i] with phase := 2 } hi (h.k.md.le (by omega))
 have e8 := e115 { n with jobs := n.jobs.set i { n.jobs[i] with phase := 2 } } n.jobs[i].key n.jobs[i].val (decide (n.jobs[i].kind = 2)) enZ 0 n.jobs[i].id (Nat.le_trans k1 (by decide)) (Nat.le_trans k2 (by decide)) h.k.clock h.jobId ((mid_setj i n.jobs[i] { n.jobs[i] with phase := 2 } h.k.md (List.getElem_mem hi) rfl).le (show 80000 ≤ 90000 by omega))
 try simp only at e7 e8
 unfold seekC
 rw [jobG_at hi]
 rw [keyI] at e2 e3 e5 ⊢
 generalize hj : n.jobs[i] = j at *
 by_cases ho : ownerR n.me n.list (idB (keyS ++ j.key)) = n.me
 ·have ho' := eq_true ho
  rw [if_pos ho]
  by_cases k3 : j.kind = 3
  ·rw [if_pos k3]
   generalize getR n.items j.key = q at *
   obtain ⟨x,b⟩ := q
   generalize settleR n j.id _ _ 0 = d at *
   rw [Nd.cs] at e6
   cases b <;> (simp only [Bool.true_and,Bool.false_and] at e6; rw [fn_text Tryz.func73 rfl rfl Tryz.results73 fq73.1 rfl rfl (by kernel_rfl)]; simp -implicitDefEqProofs -dsimp +contextual (maxSteps := 9999999) (disch := first | omega | simp only [go_sem] <;> omega | refine ib ?_; kernel_rfl) only [go_sem,seval,↓reduceIte,row,e1,e2,e3,e4,e6,ho',k3])
  ·rw [if_neg k3]
   have k3' := eq_false k3
   generalize beginR _ _ _ _ _ _ _ = q at *
   obtain ⟨d,acts⟩ := q
   unfold pairC at e8
   rw [Nd.cs] at e8
   simp only [aNd,enZ,Int.cast_ofNat_Int] at e8
   rw [fn_text Tryz.func73 rfl rfl Tryz.results73 fq73.1 rfl rfl (by kernel_rfl)]
   simp -implicitDefEqProofs -dsimp +contextual (maxSteps := 9999999) (disch := first | omega | simp only [go_sem] <;> omega | refine ib ?_; kernel_rfl) only [go_sem,seval,↓reduceIte,row,e1,e2,e3,e7,e8,ho',k3',enZ]
 ·have ho' := eq_false ho
  rw [if_neg ho]
  generalize ownerR n.me n.list (idB (keyS ++ j.key)) = o at *
  generalize askC n i j o j.id = q at *
  obtain ⟨d,acts⟩ := q
  unfold pairC at e5
  rw [Nd.cs] at e5
  rw [fn_text Tryz.func73 rfl rfl Tryz.results73 fq73.1 rfl rfl (by kernel_rfl)]
  simp -implicitDefEqProofs -dsimp +contextual (maxSteps := 9999999) (disch := first | omega | simp only [go_sem] <;> omega | refine ib ?_; kernel_rfl) only [go_sem,seval,↓reduceIte,row,e1,e2,e3,e5,ho']
end Go.Proofs.YtnpkhdjgedeppaaGreatDoor
