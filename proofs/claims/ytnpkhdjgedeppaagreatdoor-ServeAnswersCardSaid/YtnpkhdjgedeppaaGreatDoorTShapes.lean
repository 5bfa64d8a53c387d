import Derived.Test.YtnpkhdjgedeppaaGreatDoorTCop16
import Derived.Test.YtnpkhdjgedeppaaGreatDoorRm
namespace Go.Proofs.YtnpkhdjgedeppaaGreatDoor
set_option maxHeartbeats 64000000
open Go.Am
set_option linter.unusedSimpArgs false
set_option linter.unusedVariables false
set_option maxRecDepth 100000
theorem qa4:∀{a b:List Shp} {xs:List AVal},Shs (a++b) xs→∃x y,xs=x++y∧Shs a x∧Shs b y
 | [],_,xs,h=>⟨[],xs,rfl,rfl,h⟩
 | c::a,b,xs,h=>by
  simp only [List.cons_append,Shs]at h
  obtain ⟨v,as',rfl,h1,h2⟩:=h
  obtain ⟨x,y,rfl,h3,h4⟩:=qa4 h2
  exact ⟨v::x,y,rfl,by simp only [Shs];exact ⟨v,x,rfl,h1,h3⟩,h4⟩
theorem rdU {z:Int} (h:(Lit.int .u64 z).wf=true):∃n:Nat,z=(n:Int)∧n≤18446744073709551615:=by
 have h:=qB7 h
 obtain ⟨n,rfl⟩:=Int.eq_ofNat_of_zero_le h.1
 exact ⟨n,rfl,by omega⟩
theorem qIe {xs:List AVal} (h:Shs [.s] xs):∃l:List UInt8,xs=qaG l∧l.length≤9223372036854775807:=by
 simp only [Shs,Sh]at h
 obtain ⟨_,_,rfl,⟨l,rfl,hl⟩,rfl⟩:=h
 exact ⟨l,rfl,hl⟩
theorem qIf {xs:List AVal} (h:Shs [.i .u64] xs):∃n:Nat,xs=qaw n∧n≤18446744073709551615:=by
 simp only [Shs,Sh]at h
 obtain ⟨_,_,rfl,⟨z,rfl,hz⟩,rfl⟩:=h
 obtain ⟨n,rfl,hn⟩:=rdU hz
 exact ⟨n,rfl,hn⟩
structure Wn.ok (x:Wn):Prop where
 top:I64 x.top
 low:U64 x.low
 high:U64 x.high
def Wn.cs (x:Wn):List AVal:=[.int .i64 x.top,.int .u64 (x.low:Int),.int .u64 (x.high:Int)]
def qtK:List Shp:=[.s,.i .u64,.i .i64,.i .i64,.i .i64,.s]
theorem qx6 {xs:List AVal} (h:Shs qtK xs):∃x:En,xs=x.cs∧x.ok∧x.fit:=by
 unfold qtK at h
 have p0:=h
 simp only [Shs,Sh]at p0
 obtain ⟨_,_,rfl,⟨v_name,rfl,t_name⟩,_,_,rfl,⟨v_id,rfl,k_id⟩,_,_,rfl,⟨v_fr,rfl,k_fr⟩,_,_,rfl,⟨v_un,rfl,k_un⟩,_,_,rfl,⟨v_ix,rfl,k_ix⟩,_,_,rfl,⟨v_tag,rfl,t_tag⟩,rfl⟩:=p0
 obtain ⟨v_id,rfl,u_id⟩:=rdU k_id
 have k_fr:=qaB k_fr
 have k_un:=qaB k_un
 have k_ix:=qaB k_ix
 exact ⟨⟨v_name,v_id,v_fr,v_un,v_ix,v_tag⟩,rfl,⟨u_id,k_fr.1,k_fr.2,k_un.1,k_un.2,k_ix.1,k_ix.2⟩,⟨t_name,t_tag⟩⟩
def qFw:List Shp:=qtK++[.i .i64,.i .i64]
theorem qIg {xs:List AVal} (h:Shs qFw xs):∃x:Pr,xs=x.cs∧x.ok∧x.fit:=by
 unfold qFw at h
 obtain ⟨x1,y1,rfl,p0,p1⟩:=qa4 h
 obtain ⟨v_e,rfl,k_e,t_e⟩:=qx6 p0
 simp only [Shs,Sh]at p1
 obtain ⟨_,_,rfl,⟨v_since,rfl,k_since⟩,_,_,rfl,⟨v_under,rfl,k_under⟩,rfl⟩:=p1
 have k_since:=qaB k_since
 have k_under:=qaB k_under
 exact ⟨⟨v_e,v_since,v_under⟩,rfl,⟨k_e,k_since.1,k_since.2,k_under.1,k_under.2⟩,⟨t_e⟩⟩
def qIh:List Shp:=[.i .i64]++qFw
theorem qMj {xs:List AVal} (h:Shs qIh xs):∃x:Fg,xs=x.cs∧x.ok∧x.p.fit:=by
 unfold qIh at h
 obtain ⟨x1,y1,rfl,p0,p1⟩:=qa4 h
 simp only [Shs,Sh]at p0
 obtain ⟨_,_,rfl,⟨v_bit,rfl,k_bit⟩,rfl⟩:=p0
 have k_bit:=qaB k_bit
 obtain ⟨v_p,rfl,k_p,t_p⟩:=qIg p1
 exact ⟨⟨v_bit,v_p⟩,rfl,⟨k_bit,k_p⟩,t_p⟩
def qFx:List Shp:=[.s,.s,.i .i64,.b]
theorem qIi {xs:List AVal} (h:Shs qFx xs):∃x:It,xs=x.cs∧x.ok∧x.fit:=by
 unfold qFx at h
 have p0:=h
 simp only [Shs,Sh]at p0
 obtain ⟨_,_,rfl,⟨v_k,rfl,t_k⟩,_,_,rfl,⟨v_v,rfl,t_v⟩,_,_,rfl,⟨v_n,rfl,k_n⟩,_,_,rfl,⟨v_g,rfl⟩,rfl⟩:=p0
 have k_n:=qaB k_n
 exact ⟨⟨v_k,v_v,v_n,v_g⟩,rfl,⟨k_n⟩,⟨t_k,t_v⟩⟩
def qIj:List Shp:=[.i .i64,.i .u64,.i .u64]
theorem qMk {xs:List AVal} (h:Shs qIj xs):∃x:Wn,xs=x.cs∧x.ok∧True:=by
 unfold qIj at h
 have p0:=h
 simp only [Shs,Sh]at p0
 obtain ⟨_,_,rfl,⟨v_top,rfl,k_top⟩,_,_,rfl,⟨v_low,rfl,k_low⟩,_,_,rfl,⟨v_high,rfl,k_high⟩,rfl⟩:=p0
 have k_top:=qaB k_top
 obtain ⟨v_low,rfl,u_low⟩:=rdU k_low
 obtain ⟨v_high,rfl,u_high⟩:=rdU k_high
 exact ⟨⟨v_top,v_low,v_high⟩,rfl,⟨k_top,u_low,u_high⟩,trivial⟩
def qIk:List Shp:=[.i .u64,.i .u64]++qtK++[.i .i64,.i .i64,.s,.s,.i .i64,.i .i64,.i .i64,.i .i64]++qIj++[.i .i64]
theorem qMl {xs:List AVal} (h:Shs qIk xs):∃x:Se,xs=x.cs∧x.ok∧x.fit:=by
 unfold qIk at h
 obtain ⟨x4,y4,rfl,h4,p4⟩:=qa4 h
 obtain ⟨x3,y3,rfl,h3,p3⟩:=qa4 h4
 obtain ⟨x2,y2,rfl,h2,p2⟩:=qa4 h3
 obtain ⟨x1,y1,rfl,p0,p1⟩:=qa4 h2
 simp only [Shs,Sh]at p0
 obtain ⟨_,_,rfl,⟨v_id,rfl,k_id⟩,_,_,rfl,⟨v_nonce,rfl,k_nonce⟩,rfl⟩:=p0
 obtain ⟨v_id,rfl,u_id⟩:=rdU k_id
 obtain ⟨v_nonce,rfl,u_nonce⟩:=rdU k_nonce
 obtain ⟨v_peer,rfl,k_peer,t_peer⟩:=qx6 p1
 simp only [Shs,Sh]at p2
 obtain ⟨_,_,rfl,⟨v_role,rfl,k_role⟩,_,_,rfl,⟨v_state,rfl,k_state⟩,_,_,rfl,⟨v_send,rfl,t_send⟩,_,_,rfl,⟨v_hear,rfl,t_hear⟩,_,_,rfl,⟨v_epoch,rfl,k_epoch⟩,_,_,rfl,⟨v_count,rfl,k_count⟩,_,_,rfl,⟨v_since,rfl,k_since⟩,_,_,rfl,⟨v_seq,rfl,k_seq⟩,rfl⟩:=p2
 have k_role:=qaB k_role
 have k_state:=qaB k_state
 have k_epoch:=qaB k_epoch
 have k_count:=qaB k_count
 have k_since:=qaB k_since
 have k_seq:=qaB k_seq
 obtain ⟨v_seen,rfl,k_seen,t_seen⟩:=qMk p3
 simp only [Shs,Sh]at p4
 obtain ⟨_,_,rfl,⟨v_used,rfl,k_used⟩,rfl⟩:=p4
 have k_used:=qaB k_used
 exact ⟨⟨v_id,v_nonce,v_peer,v_role,v_state,v_send,v_hear,v_epoch,v_count,v_since,v_seq,v_seen,v_used⟩,rfl,⟨u_id,u_nonce,k_peer,k_role,k_state,k_epoch,k_count,k_since,k_seq,k_seen.top,k_seen.low,k_seen.high,k_used⟩,⟨t_peer,t_send,t_hear⟩⟩
def qGp:List Shp:=[.i .i64,.i .i64,.i .i64,.i .i64,.i .u64,.b,.b,.s,.s,.sl 6 qtK,.sl 4 qFx]
theorem qJW {xs:List AVal} (h:Shs qGp xs):∃x:Ms,xs=x.cs∧x.ok∧x.fit:=by
 unfold qGp at h
 have p0:=h
 simp only [Shs,Sh]at p0
 obtain ⟨_,_,rfl,⟨v_kind,rfl,k_kind⟩,_,_,rfl,⟨v_rid,rfl,k_rid⟩,_,_,rfl,⟨v_ver,rfl,k_ver⟩,_,_,rfl,⟨v_err,rfl,k_err⟩,_,_,rfl,⟨v_id,rfl,k_id⟩,_,_,rfl,⟨v_has,rfl⟩,_,_,rfl,⟨v_gone,rfl⟩,_,_,rfl,⟨v_key,rfl,t_key⟩,_,_,rfl,⟨v_val,rfl,t_val⟩,_,_,rfl,⟨v_ents,rfl,n_ents,r_ents⟩,_,_,rfl,⟨v_items,rfl,n_items,r_items⟩,rfl⟩:=p0
 have k_kind:=qaB k_kind
 have k_rid:=qaB k_rid
 have k_ver:=qaB k_ver
 have k_err:=qaB k_err
 obtain ⟨v_id,rfl,u_id⟩:=rdU k_id
 obtain ⟨v_ents,rfl,q_ents⟩:=qbA En.cs (fun x=>x.ok∧x.fit) (fun r hr=>qx6 (r_ents r hr))
 rw [List.length_map]at n_ents
 obtain ⟨v_items,rfl,q_items⟩:=qbA It.cs (fun x=>x.ok∧x.fit) (fun r hr=>qIi (r_items r hr))
 rw [List.length_map]at n_items
 exact ⟨⟨v_kind,v_rid,v_ver,v_err,v_id,v_has,v_gone,v_key,v_val,v_ents,v_items⟩,rfl,⟨k_kind,k_rid,k_ver,k_err,u_id,fun x hx=>(q_ents x hx).1,fun x hx=>(q_items x hx).1⟩,⟨t_key,t_val,n_ents,n_items,fun x hx=>(q_ents x hx).2,fun x hx=>(q_items x hx).2⟩⟩
def qIl:List Shp:=[.i .i64,.i .i64,.i .i64,.i .i64,.i .i64,.i .u64]++qtK++qGp
theorem qMm {xs:List AVal} (h:Shs qIl xs):∃x:Pd,xs=x.cs∧x.ok∧x.fit:=by
 unfold qIl at h
 obtain ⟨x2,y2,rfl,h2,p2⟩:=qa4 h
 obtain ⟨x1,y1,rfl,p0,p1⟩:=qa4 h2
 simp only [Shs,Sh]at p0
 obtain ⟨_,_,rfl,⟨v_rid,rfl,k_rid⟩,_,_,rfl,⟨v_why,rfl,k_why⟩,_,_,rfl,⟨v_job,rfl,k_job⟩,_,_,rfl,⟨v_til,rfl,k_til⟩,_,_,rfl,⟨v_tries,rfl,k_tries⟩,_,_,rfl,⟨v_session,rfl,k_session⟩,rfl⟩:=p0
 have k_rid:=qaB k_rid
 have k_why:=qaB k_why
 have k_job:=qaB k_job
 have k_til:=qaB k_til
 have k_tries:=qaB k_tries
 obtain ⟨v_session,rfl,u_session⟩:=rdU k_session
 obtain ⟨v_to,rfl,k_to,t_to⟩:=qx6 p1
 obtain ⟨v_m,rfl,k_m,t_m⟩:=qJW p2
 exact ⟨⟨v_rid,v_why,v_job,v_til,v_tries,v_session,v_to,v_m⟩,rfl,⟨k_rid,k_why,k_job,k_til,k_tries,u_session,k_to,k_m⟩,⟨t_to,t_m⟩⟩
def qIm:List Shp:=[.i .i64,.i .i64,.i .i64,.i .i64,.i .i64,.i .i64,.s,.s]++qtK++qFx++[.i .i64,.i .i64,.sl 1 [.s]]++qtK++[.i .i64,.i .i64]
theorem qMn {xs:List AVal} (h:Shs qIm xs):∃x:Jb,xs=x.cs∧x.ok∧x.fit:=by
 unfold qIm at h
 obtain ⟨x5,y5,rfl,h5,p5⟩:=qa4 h
 obtain ⟨x4,y4,rfl,h4,p4⟩:=qa4 h5
 obtain ⟨x3,y3,rfl,h3,p3⟩:=qa4 h4
 obtain ⟨x2,y2,rfl,h2,p2⟩:=qa4 h3
 obtain ⟨x1,y1,rfl,p0,p1⟩:=qa4 h2
 simp only [Shs,Sh]at p0
 obtain ⟨_,_,rfl,⟨v_id,rfl,k_id⟩,_,_,rfl,⟨v_kind,rfl,k_kind⟩,_,_,rfl,⟨v_phase,rfl,k_phase⟩,_,_,rfl,⟨v_hops,rfl,k_hops⟩,_,_,rfl,⟨v_tries,rfl,k_tries⟩,_,_,rfl,⟨v_til,rfl,k_til⟩,_,_,rfl,⟨v_key,rfl,t_key⟩,_,_,rfl,⟨v_val,rfl,t_val⟩,rfl⟩:=p0
 have k_id:=qaB k_id
 have k_kind:=qaB k_kind
 have k_phase:=qaB k_phase
 have k_hops:=qaB k_hops
 have k_tries:=qaB k_tries
 have k_til:=qaB k_til
 obtain ⟨v_owner,rfl,k_owner,t_owner⟩:=qx6 p1
 obtain ⟨v_item,rfl,k_item,t_item⟩:=qIi p2
 simp only [Shs,Sh]at p3
 obtain ⟨_,_,rfl,⟨v_acks,rfl,k_acks⟩,_,_,rfl,⟨v_waits,rfl,k_waits⟩,_,_,rfl,⟨v_asked,rfl,n_asked,r_asked⟩,rfl⟩:=p3
 have k_acks:=qaB k_acks
 have k_waits:=qaB k_waits
 obtain ⟨v_asked,rfl,t_asked⟩:=qbA qaG (fun l=>l.length≤9223372036854775807) (fun r hr=>qIe (r_asked r hr))
 rw [List.length_map]at n_asked
 obtain ⟨v_back,rfl,k_back,t_back⟩:=qx6 p4
 simp only [Shs,Sh]at p5
 obtain ⟨_,_,rfl,⟨v_backRid,rfl,k_backRid⟩,_,_,rfl,⟨v_backJob,rfl,k_backJob⟩,rfl⟩:=p5
 have k_backRid:=qaB k_backRid
 have k_backJob:=qaB k_backJob
 exact ⟨⟨v_id,v_kind,v_phase,v_hops,v_tries,v_til,v_key,v_val,v_owner,v_item,v_acks,v_waits,v_asked,v_back,v_backRid,v_backJob⟩,rfl,⟨k_id,k_kind,k_phase,k_hops,k_tries,k_til,k_owner,k_item,k_acks,k_waits,k_back,k_backRid,k_backJob⟩,⟨t_key,t_val,t_item,t_owner,t_back,n_asked,t_asked⟩⟩
def qIn:List Shp:=[.i .i64,.i .i64,.i .i64,.s,.s,.b,.b,.i .i64]
theorem qMo {xs:List AVal} (h:Shs qIn xs):∃x:Rs,xs=x.cs∧x.ok∧x.fit:=by
 unfold qIn at h
 have p0:=h
 simp only [Shs,Sh]at p0
 obtain ⟨_,_,rfl,⟨v_job,rfl,k_job⟩,_,_,rfl,⟨v_kind,rfl,k_kind⟩,_,_,rfl,⟨v_ver,rfl,k_ver⟩,_,_,rfl,⟨v_key,rfl,t_key⟩,_,_,rfl,⟨v_val,rfl,t_val⟩,_,_,rfl,⟨v_has,rfl⟩,_,_,rfl,⟨v_gone,rfl⟩,_,_,rfl,⟨v_err,rfl,k_err⟩,rfl⟩:=p0
 have k_job:=qaB k_job
 have k_kind:=qaB k_kind
 have k_ver:=qaB k_ver
 have k_err:=qaB k_err
 exact ⟨⟨v_job,v_kind,v_ver,v_key,v_val,v_has,v_gone,v_err⟩,rfl,⟨k_job.1,k_job.2,k_kind.1,k_kind.2,k_ver.1,k_ver.2,k_err.1,k_err.2⟩,⟨t_key,t_val⟩⟩
def qIo:List Shp:=qtK++[.i .i64,.s,.i .i64,.s,.b,.sl 8 qFw,.sl 8 qFw,.sl 9 qIh,.sl 20 qIk,.sl 23 qIl,.sl 4 qFx,.sl 29 qIm,.i .i64,.i .i64,.sl 1 [.i .u64],.sl 8 qIn]
theorem qMp {xs:List AVal} (h:Shs qIo xs):∃x:Nd,xs=x.cs∧x.ok∧x.fit:=by
 unfold qIo at h
 obtain ⟨x1,y1,rfl,p0,p1⟩:=qa4 h
 obtain ⟨v_me,rfl,k_me,t_me⟩:=qx6 p0
 simp only [Shs,Sh]at p1
 obtain ⟨_,_,rfl,⟨v_clock,rfl,k_clock⟩,_,_,rfl,⟨v_psk,rfl,t_psk⟩,_,_,rfl,⟨v_gateI,rfl,k_gateI⟩,_,_,rfl,⟨v_gateK,rfl,t_gateK⟩,_,_,rfl,⟨v_ready,rfl⟩,_,_,rfl,⟨v_pred,rfl,n_pred,r_pred⟩,_,_,rfl,⟨v_list,rfl,n_list,r_list⟩,_,_,rfl,⟨v_fingers,rfl,n_fingers,r_fingers⟩,_,_,rfl,⟨v_sessions,rfl,n_sessions,r_sessions⟩,_,_,rfl,⟨v_pends,rfl,n_pends,r_pends⟩,_,_,rfl,⟨v_items,rfl,n_items,r_items⟩,_,_,rfl,⟨v_jobs,rfl,n_jobs,r_jobs⟩,_,_,rfl,⟨v_rid,rfl,k_rid⟩,_,_,rfl,⟨v_jobId,rfl,k_jobId⟩,_,_,rfl,⟨v_draws,rfl,n_draws,r_draws⟩,_,_,rfl,⟨v_results,rfl,n_results,r_results⟩,rfl⟩:=p1
 have k_clock:=qaB k_clock
 have k_gateI:=qaB k_gateI
 obtain ⟨v_pred,rfl,q_pred⟩:=qbA Pr.cs (fun x=>x.ok∧x.fit) (fun r hr=>qIg (r_pred r hr))
 rw [List.length_map]at n_pred
 obtain ⟨v_list,rfl,q_list⟩:=qbA Pr.cs (fun x=>x.ok∧x.fit) (fun r hr=>qIg (r_list r hr))
 rw [List.length_map]at n_list
 obtain ⟨v_fingers,rfl,q_fingers⟩:=qbA Fg.cs (fun x=>x.ok∧x.p.fit) (fun r hr=>qMj (r_fingers r hr))
 rw [List.length_map]at n_fingers
 obtain ⟨v_sessions,rfl,q_sessions⟩:=qbA Se.cs (fun x=>x.ok∧x.fit) (fun r hr=>qMl (r_sessions r hr))
 rw [List.length_map]at n_sessions
 obtain ⟨v_pends,rfl,q_pends⟩:=qbA Pd.cs (fun x=>x.ok∧x.fit) (fun r hr=>qMm (r_pends r hr))
 rw [List.length_map]at n_pends
 obtain ⟨v_items,rfl,q_items⟩:=qbA It.cs (fun x=>x.ok∧x.fit) (fun r hr=>qIi (r_items r hr))
 rw [List.length_map]at n_items
 obtain ⟨v_jobs,rfl,q_jobs⟩:=qbA Jb.cs (fun x=>x.ok∧x.fit) (fun r hr=>qMn (r_jobs r hr))
 rw [List.length_map]at n_jobs
 have k_rid:=qaB k_rid
 have k_jobId:=qaB k_jobId
 obtain ⟨v_draws,rfl,k_draws⟩:=qbA qaw U64 (fun r hr=>qIf (r_draws r hr))
 rw [List.length_map]at n_draws
 obtain ⟨v_results,rfl,q_results⟩:=qbA Rs.cs (fun x=>x.ok∧x.fit) (fun r hr=>qMo (r_results r hr))
 rw [List.length_map]at n_results
 exact ⟨⟨v_me,v_clock,v_psk,v_gateI,v_gateK,v_ready,v_pred,v_list,v_fingers,v_sessions,v_pends,v_items,v_jobs,v_rid,v_jobId,v_draws,v_results⟩,rfl,⟨k_me,k_clock,k_gateI,fun x hx=>(q_pred x hx).1,fun x hx=>(q_list x hx).1,fun x hx=>(q_fingers x hx).1,fun x hx=>(q_sessions x hx).1,fun x hx=>(q_pends x hx).1,fun x hx=>(q_items x hx).1,fun x hx=>(q_jobs x hx).1,k_rid,k_jobId,k_draws,fun x hx=>(q_results x hx).1⟩,⟨t_me,t_psk,t_gateK,n_pred,fun x hx=>(q_pred x hx).2,n_list,fun x hx=>(q_list x hx).2,n_fingers,fun x hx=>(q_fingers x hx).2,n_sessions,fun x hx=>(q_sessions x hx).2,n_pends,fun x hx=>(q_pends x hx).2,n_items,fun x hx=>(q_items x hx).2,n_jobs,fun x hx=>(q_jobs x hx).2,n_draws,n_results,fun x hx=>(q_results x hx).2⟩⟩
theorem Fg.eq_iff (x y:Fg):x=y↔x.bit=y.bit∧(x.p.e.name=y.p.e.name∧x.p.e.id=y.p.e.id∧x.p.e.fr=y.p.e.fr∧x.p.e.un=y.p.e.un∧x.p.e.ix=y.p.e.ix∧x.p.e.tag=y.p.e.tag)∧x.p.since=y.p.since∧x.p.under=y.p.under:=by
 obtain ⟨_,⟨⟨⟩,_,_⟩⟩:=x;obtain ⟨_,⟨⟨⟩,_,_⟩⟩:=y;simp
theorem Pr.eq_iff (x y:Pr):x=y↔(x.e.name=y.e.name∧x.e.id=y.e.id∧x.e.fr=y.e.fr∧x.e.un=y.e.un∧x.e.ix=y.e.ix∧x.e.tag=y.e.tag)∧x.since=y.since∧x.under=y.under:=by
 obtain ⟨⟨⟩,_,_⟩:=x;obtain ⟨⟨⟩,_,_⟩:=y;simp
theorem Rs.eq_iff (x y:Rs):x=y↔x.job=y.job∧x.kind=y.kind∧x.ver=y.ver∧x.key=y.key∧x.val=y.val∧x.has=y.has∧x.gone=y.gone∧x.err=y.err:=by
 cases x;cases y;simp
theorem Se.eq_iff (x y:Se):x=y↔x.id=y.id∧x.nonce=y.nonce∧(x.peer.name=y.peer.name∧x.peer.id=y.peer.id∧x.peer.fr=y.peer.fr∧x.peer.un=y.peer.un∧x.peer.ix=y.peer.ix∧x.peer.tag=y.peer.tag)∧x.role=y.role∧x.state=y.state∧x.send=y.send∧x.hear=y.hear∧x.epoch=y.epoch∧x.count=y.count∧x.since=y.since∧x.seq=y.seq∧(x.seen.top=y.seen.top∧x.seen.low=y.seen.low∧x.seen.high=y.seen.high)∧x.used=y.used:=by
 obtain ⟨_,_,⟨⟩,_,_,_,_,_,_,_,_,⟨⟩,_⟩:=x;obtain ⟨_,_,⟨⟩,_,_,_,_,_,_,_,_,⟨⟩,_⟩:=y;simp
@[go_sem] theorem qGq (n t n' t':List UInt8) (a b c d e f g a' b' c' d' e' f' g':Int):eqF E.P 8 86 (.agg [.int .i64 g,.str n,.int .u64 a,.int .i64 b,.int .i64 c,.int .i64 d,.str t,.int .i64 e,.int .i64 f]) (.agg [.int .i64 g',.str n',.int .u64 a',.int .i64 b',.int .i64 c',.int .i64 d',.str t',.int .i64 e',.int .i64 f'])=some (decide (g=g'∧(n=n'∧a=a'∧b=b'∧c=c'∧d=d'∧t=t')∧e=e'∧f=f')):=by
 have u1:E.P.underlying 24=_:=Tryz.underlying24
 have u2:E.P.underlying 9=_:=Tryz.underlying9
 have u3:E.P.underlying 3=_:=Tryz.underlying3
 have u4:E.P.underlying 22=_:=Tryz.underlying22
 have u5:E.P.underlying 4=_:=Tryz.underlying4
 have hs:E.P.stoodInHeld 24=false:=by kernel_rfl
 have u6:E.P.underlying 74=_:=Tryz.underlying74
 have u7:E.P.underlying 86=_:=Tryz.underlying86
 have hp:E.P.stoodInHeld 74=false:=by kernel_rfl
 have hq:E.P.stoodInHeld 86=false:=by kernel_rfl
 simp [eqF,qoi,u1,u2,u3,u4,u5,hs,u6,u7,hp,hq,qG5.1,qG5.2.1,qAI.1,qAI.2.1,tq9.1,tq9.2.1,tq3.1,tq3.2.1,qsA.1,qsA.2.1,tq4.1,tq4.2.1,mkV,qcD,Bool.and_assoc,←Bool.decide_and]
@[go_sem] theorem qGr (k v k' v':List UInt8) (a b c e a' b' c' e':Int) (h g h' g':Bool):eqF E.P 8 93 (.agg [.int .i64 a,.int .i64 b,.int .i64 c,.str k,.str v,.bool h,.bool g,.int .i64 e]) (.agg [.int .i64 a',.int .i64 b',.int .i64 c',.str k',.str v',.bool h',.bool g',.int .i64 e'])=some (decide (a=a'∧b=b'∧c=c'∧k=k'∧v=v'∧h=h'∧g=g'∧e=e')):=by
 have u1:E.P.underlying 24=_:=Tryz.underlying24
 have u2:E.P.underlying 9=_:=Tryz.underlying9
 have u3:E.P.underlying 3=_:=Tryz.underlying3
 have u4:E.P.underlying 22=_:=Tryz.underlying22
 have u5:E.P.underlying 4=_:=Tryz.underlying4
 have hs:E.P.stoodInHeld 24=false:=by kernel_rfl
 have u6:E.P.underlying 39=_:=Tryz.underlying39
 have u7:E.P.underlying 93=_:=Tryz.underlying93
 have hq:E.P.stoodInHeld 93=false:=by kernel_rfl
 simp [eqF,qoi,u1,u2,u3,u4,u5,hs,u6,u7,hq,qG4.1,qG4.2.1,tq9.1,tq9.2.1,tq3.1,tq3.2.1,qsA.1,qsA.2.1,tq4.1,tq4.2.1,mkV,qcD,Bool.and_assoc,←Bool.decide_and]
@[go_sem] theorem qFy (n t x y n' t' x' y':List UInt8) (a b c d i o r s e f g q w l h u a' b' c' d' i' o' r' s' e' f' g' q' w' l' h' u':Int):eqF E.P 8 101 (.agg [.int .u64 i,.int .u64 o,.str n,.int .u64 a,.int .i64 b,.int .i64 c,.int .i64 d,.str t,.int .i64 r,.int .i64 s,.str x,.str y,.int .i64 e,.int .i64 f,.int .i64 g,.int .i64 q,.int .i64 w,.int .u64 l,.int .u64 h,.int .i64 u]) (.agg [.int .u64 i',.int .u64 o',.str n',.int .u64 a',.int .i64 b',.int .i64 c',.int .i64 d',.str t',.int .i64 r',.int .i64 s',.str x',.str y',.int .i64 e',.int .i64 f',.int .i64 g',.int .i64 q',.int .i64 w',.int .u64 l',.int .u64 h',.int .i64 u'])=some (decide (i=i'∧o=o'∧(n=n'∧a=a'∧b=b'∧c=c'∧d=d'∧t=t')∧r=r'∧s=s'∧x=x'∧y=y'∧e=e'∧f=f'∧g=g'∧q=q'∧(w=w'∧l=l'∧h=h')∧u=u')):=by
 have u1:E.P.underlying 24=_:=Tryz.underlying24
 have u2:E.P.underlying 9=_:=Tryz.underlying9
 have u3:E.P.underlying 3=_:=Tryz.underlying3
 have u4:E.P.underlying 22=_:=Tryz.underlying22
 have u5:E.P.underlying 4=_:=Tryz.underlying4
 have hs:E.P.stoodInHeld 24=false:=by kernel_rfl
 have u6:E.P.underlying 99=_:=Tryz.underlying99
 have u7:E.P.underlying 101=_:=Tryz.underlying101
 have hp:E.P.stoodInHeld 99=false:=by kernel_rfl
 have w1:E.P.szO 99=some 3:=by kernel_rfl
 have w2:E.P.rowO 99=some true:=by kernel_rfl
 have hq:E.P.stoodInHeld 101=false:=by kernel_rfl
 simp [eqF,qoi,u1,u2,u3,u4,u5,hs,u6,u7,hp,hq,w1,w2,qAI.1,qAI.2.1,tq9.1,tq9.2.1,tq3.1,tq3.2.1,qsA.1,qsA.2.1,tq4.1,tq4.2.1,mkV,qcD,Bool.and_assoc,←Bool.decide_and]
@[go_sem] theorem e40 (a b:List En) (hl:a.length≤9223372036854775807):fn C 40 [] [.slice 6 (a.map En.cs),.slice 6 (b.map En.cs)]=some (.bool (decide (a=b)),[]):=by
 rw [qaa Tryz.func40 rfl rfl Tryz.results40 qJc.1 rfl rfl (by kernel_rfl)]
 simp -implicitDefEqProofs -dsimp +contextual (maxSteps:=9999999) (disch:=first | omega | simp only [go_sem]<;>omega | refine ib ?_;kernel_rfl) only [go_sem,seval,↓reduceIte]
 (repeat' (refine qae (fun _=>?_) (fun _=>?_)))
 ·rename_i h1
  refine (qaj (fun i f H=>f 0= .slice 6 (a.map En.cs)∧f 1= .slice 6 (b.map En.cs)∧f 5= .int .i64 (i:Nat)∧H=qac.nil∧i≤a.length∧a.take i=b.take i) (fun i=>a.length - i) (fun i=>some (.bool (decide (a=b)),[])) ?_ 0 _ _ ⟨rfl,rfl,rfl,rfl,by omega,rfl⟩).trans rfl
  rintro i f _ ⟨h0,h2,h5,rfl,hi,ht⟩ ih
  by_cases hl:i<a.length
  ·have hb:i<b.length:=by omega
   simp -implicitDefEqProofs -dsimp +contextual (maxSteps:=9999999) (disch:=first | omega | simp only [go_sem]<;>omega | refine ib ?_;kernel_rfl) only [go_sem,seval,↓reduceIte,h0,h2,h5,hl,hb,h1]
   (repeat' (refine qae (fun _=>?_) (fun _=>?_)))
   ·rename_i he
    exact ih (i+1) _ _ ⟨h0,h2,rfl,rfl,by omega,qa1 hl hb ht ((En.eq_iff _ _).2 (by simpa using he))⟩ (by omega)
   ·rename_i he
    rw [decide_eq_false (qcL hl hb (fun e=>he (by simp [e])))]
  ·simp -implicitDefEqProofs -dsimp +contextual (maxSteps:=9999999) (disch:=first | omega | simp only [go_sem]<;>omega | refine ib ?_;kernel_rfl) only [go_sem,seval,↓reduceIte,h0,h2,h5,hl]
   obtain rfl:i=a.length:=by omega
   rw [decide_eq_true (qbe h1 ht)]
 ·rename_i h1
  rw [decide_eq_false (fun e:a=b=>h1 (by rw [e]))]
@[go_sem] theorem e74 (a b:List Pr) (hl:a.length≤9223372036854775807):fn C 74 [] [.slice 8 (a.map Pr.cs),.slice 8 (b.map Pr.cs)]=some (.bool (decide (a=b)),[]):=by
 rw [qaa Tryz.func74 rfl rfl Tryz.results74 qJn.1 rfl rfl (by kernel_rfl)]
 simp -implicitDefEqProofs -dsimp +contextual (maxSteps:=9999999) (disch:=first | omega | simp only [go_sem]<;>omega | refine ib ?_;kernel_rfl) only [go_sem,seval,↓reduceIte]
 (repeat' (refine qae (fun _=>?_) (fun _=>?_)))
 ·rename_i h1
  refine (qaj (fun i f H=>f 0= .slice 8 (a.map Pr.cs)∧f 1= .slice 8 (b.map Pr.cs)∧f 5= .int .i64 (i:Nat)∧H=qac.nil∧i≤a.length∧a.take i=b.take i) (fun i=>a.length - i) (fun i=>some (.bool (decide (a=b)),[])) ?_ 0 _ _ ⟨rfl,rfl,rfl,rfl,by omega,rfl⟩).trans rfl
  rintro i f _ ⟨h0,h2,h5,rfl,hi,ht⟩ ih
  by_cases hl:i<a.length
  ·have hb:i<b.length:=by omega
   simp -implicitDefEqProofs -dsimp +contextual (maxSteps:=9999999) (disch:=first | omega | simp only [go_sem]<;>omega | refine ib ?_;kernel_rfl) only [go_sem,seval,↓reduceIte,h0,h2,h5,hl,hb,h1]
   (repeat' (refine qae (fun _=>?_) (fun _=>?_)))
   ·rename_i he
    exact ih (i+1) _ _ ⟨h0,h2,rfl,rfl,by omega,qa1 hl hb ht ((Pr.eq_iff _ _).2 (by simpa using he))⟩ (by omega)
   ·rename_i he
    rw [decide_eq_false (qcL hl hb (fun e=>he (by simp [e])))]
  ·simp -implicitDefEqProofs -dsimp +contextual (maxSteps:=9999999) (disch:=first | omega | simp only [go_sem]<;>omega | refine ib ?_;kernel_rfl) only [go_sem,seval,↓reduceIte,h0,h2,h5,hl]
   obtain rfl:i=a.length:=by omega
   rw [decide_eq_true (qbe h1 ht)]
 ·rename_i h1
  rw [decide_eq_false (fun e:a=b=>h1 (by rw [e]))]
@[go_sem] theorem e75 (a b:List Fg) (hl:a.length≤9223372036854775807):fn C 75 [] [.slice 9 (a.map Fg.cs),.slice 9 (b.map Fg.cs)]=some (.bool (decide (a=b)),[]):=by
 rw [qaa Tryz.func75 rfl rfl Tryz.results75 qJo.1 rfl rfl (by kernel_rfl)]
 simp -implicitDefEqProofs -dsimp +contextual (maxSteps:=9999999) (disch:=first | omega | simp only [go_sem]<;>omega | refine ib ?_;kernel_rfl) only [go_sem,seval,↓reduceIte]
 (repeat' (refine qae (fun _=>?_) (fun _=>?_)))
 ·rename_i h1
  refine (qaj (fun i f H=>f 0= .slice 9 (a.map Fg.cs)∧f 1= .slice 9 (b.map Fg.cs)∧f 5= .int .i64 (i:Nat)∧H=qac.nil∧i≤a.length∧a.take i=b.take i) (fun i=>a.length - i) (fun i=>some (.bool (decide (a=b)),[])) ?_ 0 _ _ ⟨rfl,rfl,rfl,rfl,by omega,rfl⟩).trans rfl
  rintro i f _ ⟨h0,h2,h5,rfl,hi,ht⟩ ih
  by_cases hl:i<a.length
  ·have hb:i<b.length:=by omega
   simp -implicitDefEqProofs -dsimp +contextual (maxSteps:=9999999) (disch:=first | omega | simp only [go_sem]<;>omega | refine ib ?_;kernel_rfl) only [go_sem,seval,↓reduceIte,h0,h2,h5,hl,hb,h1]
   (repeat' (refine qae (fun _=>?_) (fun _=>?_)))
   ·rename_i he
    exact ih (i+1) _ _ ⟨h0,h2,rfl,rfl,by omega,qa1 hl hb ht ((Fg.eq_iff _ _).2 (by simpa using he))⟩ (by omega)
   ·rename_i he
    rw [decide_eq_false (qcL hl hb (fun e=>he (by simp [e])))]
  ·simp -implicitDefEqProofs -dsimp +contextual (maxSteps:=9999999) (disch:=first | omega | simp only [go_sem]<;>omega | refine ib ?_;kernel_rfl) only [go_sem,seval,↓reduceIte,h0,h2,h5,hl]
   obtain rfl:i=a.length:=by omega
   rw [decide_eq_true (qbe h1 ht)]
 ·rename_i h1
  rw [decide_eq_false (fun e:a=b=>h1 (by rw [e]))]
@[go_sem] theorem e76 (a b:List Se) (hl:a.length≤9223372036854775807):fn C 76 [] [.slice 20 (a.map Se.cs),.slice 20 (b.map Se.cs)]=some (.bool (decide (a=b)),[]):=by
 rw [qaa Tryz.func76 rfl rfl Tryz.results76 qJp.1 rfl rfl (by kernel_rfl)]
 simp -implicitDefEqProofs -dsimp +contextual (maxSteps:=9999999) (disch:=first | omega | simp only [go_sem]<;>omega | refine ib ?_;kernel_rfl) only [go_sem,seval,↓reduceIte]
 (repeat' (refine qae (fun _=>?_) (fun _=>?_)))
 ·rename_i h1
  refine (qaj (fun i f H=>f 0= .slice 20 (a.map Se.cs)∧f 1= .slice 20 (b.map Se.cs)∧f 5= .int .i64 (i:Nat)∧H=qac.nil∧i≤a.length∧a.take i=b.take i) (fun i=>a.length - i) (fun i=>some (.bool (decide (a=b)),[])) ?_ 0 _ _ ⟨rfl,rfl,rfl,rfl,by omega,rfl⟩).trans rfl
  rintro i f _ ⟨h0,h2,h5,rfl,hi,ht⟩ ih
  by_cases hl:i<a.length
  ·have hb:i<b.length:=by omega
   simp -implicitDefEqProofs -dsimp +contextual (maxSteps:=9999999) (disch:=first | omega | simp only [go_sem]<;>omega | refine ib ?_;kernel_rfl) only [go_sem,seval,↓reduceIte,h0,h2,h5,hl,hb,h1]
   (repeat' (refine qae (fun _=>?_) (fun _=>?_)))
   ·rename_i he
    exact ih (i+1) _ _ ⟨h0,h2,rfl,rfl,by omega,qa1 hl hb ht ((Se.eq_iff _ _).2 (by simpa using he))⟩ (by omega)
   ·rename_i he
    rw [decide_eq_false (qcL hl hb (fun e=>he (by simp [e])))]
  ·simp -implicitDefEqProofs -dsimp +contextual (maxSteps:=9999999) (disch:=first | omega | simp only [go_sem]<;>omega | refine ib ?_;kernel_rfl) only [go_sem,seval,↓reduceIte,h0,h2,h5,hl]
   obtain rfl:i=a.length:=by omega
   rw [decide_eq_true (qbe h1 ht)]
 ·rename_i h1
  rw [decide_eq_false (fun e:a=b=>h1 (by rw [e]))]
@[go_sem] theorem e81 (a b:List Rs) (hl:a.length≤9223372036854775807):fn C 81 [] [.slice 8 (a.map Rs.cs),.slice 8 (b.map Rs.cs)]=some (.bool (decide (a=b)),[]):=by
 rw [qaa Tryz.func81 rfl rfl Tryz.results81 qJu.1 rfl rfl (by kernel_rfl)]
 simp -implicitDefEqProofs -dsimp +contextual (maxSteps:=9999999) (disch:=first | omega | simp only [go_sem]<;>omega | refine ib ?_;kernel_rfl) only [go_sem,seval,↓reduceIte]
 (repeat' (refine qae (fun _=>?_) (fun _=>?_)))
 ·rename_i h1
  refine (qaj (fun i f H=>f 0= .slice 8 (a.map Rs.cs)∧f 1= .slice 8 (b.map Rs.cs)∧f 5= .int .i64 (i:Nat)∧H=qac.nil∧i≤a.length∧a.take i=b.take i) (fun i=>a.length - i) (fun i=>some (.bool (decide (a=b)),[])) ?_ 0 _ _ ⟨rfl,rfl,rfl,rfl,by omega,rfl⟩).trans rfl
  rintro i f _ ⟨h0,h2,h5,rfl,hi,ht⟩ ih
  by_cases hl:i<a.length
  ·have hb:i<b.length:=by omega
   simp -implicitDefEqProofs -dsimp +contextual (maxSteps:=9999999) (disch:=first | omega | simp only [go_sem]<;>omega | refine ib ?_;kernel_rfl) only [go_sem,seval,↓reduceIte,h0,h2,h5,hl,hb,h1]
   (repeat' (refine qae (fun _=>?_) (fun _=>?_)))
   ·rename_i he
    exact ih (i+1) _ _ ⟨h0,h2,rfl,rfl,by omega,qa1 hl hb ht ((Rs.eq_iff _ _).2 (by simpa using he))⟩ (by omega)
   ·rename_i he
    rw [decide_eq_false (qcL hl hb (fun e=>he (by simp [e])))]
  ·simp -implicitDefEqProofs -dsimp +contextual (maxSteps:=9999999) (disch:=first | omega | simp only [go_sem]<;>omega | refine ib ?_;kernel_rfl) only [go_sem,seval,↓reduceIte,h0,h2,h5,hl]
   obtain rfl:i=a.length:=by omega
   rw [decide_eq_true (qbe h1 ht)]
 ·rename_i h1
  rw [decide_eq_false (fun e:a=b=>h1 (by rw [e]))]
@[go_sem] theorem e80 (a b:List Nat) (hl:a.length≤9223372036854775807):fn C 80 [] [.slice 1 (a.map qaw),.slice 1 (b.map qaw)]=some (.bool (decide (a=b)),[]):=by
 rw [qaa Tryz.func80 rfl rfl Tryz.results80 qJt.1 rfl rfl (by kernel_rfl)]
 simp -implicitDefEqProofs -dsimp +contextual (maxSteps:=9999999) (disch:=first | omega | simp only [go_sem]<;>omega | refine ib ?_;kernel_rfl) only [go_sem,seval,↓reduceIte]
 (repeat' (refine qae (fun _=>?_) (fun _=>?_)))
 ·rename_i h1
  refine (qaj (fun i f H=>f 0= .slice 1 (a.map qaw)∧f 1= .slice 1 (b.map qaw)∧f 5= .int .i64 (i:Nat)∧H=qac.nil∧i≤a.length∧a.take i=b.take i) (fun i=>a.length - i) (fun i=>some (.bool (decide (a=b)),[])) ?_ 0 _ _ ⟨rfl,rfl,rfl,rfl,by omega,rfl⟩).trans rfl
  rintro i f _ ⟨h0,h2,h5,rfl,hi,ht⟩ ih
  by_cases hl:i<a.length
  ·have hb:i<b.length:=by omega
   simp -implicitDefEqProofs -dsimp +contextual (maxSteps:=9999999) (disch:=first | omega | simp only [go_sem]<;>omega | refine ib ?_;kernel_rfl) only [go_sem,seval,↓reduceIte,h0,h2,h5,hl,hb,h1]
   (repeat' (refine qae (fun _=>?_) (fun _=>?_)))
   ·rename_i he
    exact ih (i+1) _ _ ⟨h0,h2,rfl,rfl,by omega,qa1 hl hb ht (by simpa using he)⟩ (by omega)
   ·rename_i he
    rw [decide_eq_false (qcL hl hb (fun e=>he (by simp [e])))]
  ·simp -implicitDefEqProofs -dsimp +contextual (maxSteps:=9999999) (disch:=first | omega | simp only [go_sem]<;>omega | refine ib ?_;kernel_rfl) only [go_sem,seval,↓reduceIte,h0,h2,h5,hl]
   obtain rfl:i=a.length:=by omega
   rw [decide_eq_true (qbe h1 ht)]
 ·rename_i h1
  rw [decide_eq_false (fun e:a=b=>h1 (by rw [e]))]
theorem Ms.eq_iff (x y:Ms):x=y↔x.kind=y.kind∧x.rid=y.rid∧x.ver=y.ver∧x.err=y.err∧x.id=y.id∧x.has=y.has∧x.gone=y.gone∧x.key=y.key∧x.val=y.val∧x.ents=y.ents∧x.items=y.items:=by
 cases x;cases y;simp
theorem Pd.eq_iff (x y:Pd):x=y↔x.rid=y.rid∧x.why=y.why∧x.job=y.job∧x.til=y.til∧x.tries=y.tries∧x.session=y.session∧x.to=y.to∧x.m=y.m:=by
 cases x;cases y;simp
theorem Jb.eq_iff (x y:Jb):x=y↔x.asked=y.asked∧(x.id=y.id∧x.kind=y.kind∧x.phase=y.phase∧x.hops=y.hops∧x.tries=y.tries∧x.til=y.til∧x.key=y.key∧x.val=y.val)∧x.owner=y.owner∧x.item=y.item∧x.acks=y.acks∧x.waits=y.waits∧x.back=y.back∧x.backRid=y.backRid∧x.backJob=y.backJob:=
 ⟨fun h=>by subst h;simp,fun h=>by cases x;cases y;simp_all⟩
@[go_sem] theorem e82 (a b : Ms) (h1 : a.ents.length ≤ 9223372036854775807) (h2 : a.items.length ≤ 9223372036854775807) : fn C 82 [] [.agg [.int .i64 a.kind, .int .i64 a.rid, .int .i64 a.ver, .int .i64 a.err, .int .u64 (a.id : Int), .bool a.has, .bool a.gone, .str a.key, .str a.val, .slice 6 (a.ents.map En.cs), .slice 4 (a.items.map It.cs)], .agg [.int .i64 b.kind, .int .i64 b.rid, .int .i64 b.ver, .int .i64 b.err, .int .u64 (b.id : Int), .bool b.has, .bool b.gone, .str b.key, .str b.val, .slice 6 (b.ents.map En.cs), .slice 4 (b.items.map It.cs)]] = some (.bool (decide (a = b)), []) := by
  rw [qaa Tryz.func82 rfl rfl Tryz.results82 qJv.1 rfl rfl (by kernel_rfl)]
  simp -implicitDefEqProofs -dsimp +contextual (maxSteps := 9999999) (disch := first | omega | simp only [go_sem] <;> omega | refine ib ?_; kernel_rfl) only [go_sem, seval, ↓reduceIte]
  (repeat' (refine qae (fun _ => ?_) (fun _ => ?_))) <;> exact qas (by simp [Ms.eq_iff, *])
@[go_sem] theorem qMq (a b : Pd) (h1 : a.m.ents.length ≤ 9223372036854775807) (h2 : a.m.items.length ≤ 9223372036854775807) : fn C 153 [] [.agg [.int .i64 a.rid, .int .i64 a.why, .int .i64 a.job, .int .i64 a.til, .int .i64 a.tries, .int .u64 (a.session : Int), .str a.to.name, .int .u64 (a.to.id : Int), .int .i64 a.to.fr, .int .i64 a.to.un, .int .i64 a.to.ix, .str a.to.tag, .int .i64 a.m.kind, .int .i64 a.m.rid, .int .i64 a.m.ver, .int .i64 a.m.err, .int .u64 (a.m.id : Int), .bool a.m.has, .bool a.m.gone, .str a.m.key, .str a.m.val, .slice 6 (a.m.ents.map En.cs), .slice 4 (a.m.items.map It.cs)], .agg [.int .i64 b.rid, .int .i64 b.why, .int .i64 b.job, .int .i64 b.til, .int .i64 b.tries, .int .u64 (b.session : Int), .str b.to.name, .int .u64 (b.to.id : Int), .int .i64 b.to.fr, .int .i64 b.to.un, .int .i64 b.to.ix, .str b.to.tag, .int .i64 b.m.kind, .int .i64 b.m.rid, .int .i64 b.m.ver, .int .i64 b.m.err, .int .u64 (b.m.id : Int), .bool b.m.has, .bool b.m.gone, .str b.m.key, .str b.m.val, .slice 6 (b.m.ents.map En.cs), .slice 4 (b.m.items.map It.cs)]] = some (.bool (decide (a = b)), []) := by
  rw [qaa Tryz.func153 rfl rfl Tryz.results153 qDz.1 rfl rfl (by kernel_rfl)]
  simp -implicitDefEqProofs -dsimp +contextual (maxSteps := 9999999) (disch := first | omega | simp only [go_sem] <;> omega | refine ib ?_; kernel_rfl) only [go_sem, seval, ↓reduceIte, e82 a.m b.m h1 h2]
  (repeat' (refine qae (fun _ => ?_) (fun _ => ?_))) <;> exact qas (by simp [Pd.eq_iff, En.eq_iff, *])
@[go_sem] theorem e77 (a b:List Pd) (hl:a.length≤9223372036854775807) (hf:∀x∈a,x.fit):fn C 77 [] [.slice 23 (a.map Pd.cs),.slice 23 (b.map Pd.cs)]=some (.bool (decide (a=b)),[]):=by
 rw [qaa Tryz.func77 rfl rfl Tryz.results77 qJq.1 rfl rfl (by kernel_rfl)]
 simp -implicitDefEqProofs -dsimp +contextual (maxSteps:=9999999) (disch:=first | omega | simp only [go_sem]<;>omega | refine ib ?_;kernel_rfl) only [go_sem,seval,↓reduceIte]
 (repeat' (refine qae (fun _=>?_) (fun _=>?_)))
 ·rename_i h1
  refine (qaj (fun i f H=>f 0= .slice 23 (a.map Pd.cs)∧f 1= .slice 23 (b.map Pd.cs)∧f 5= .int .i64 (i:Nat)∧H=qac.nil∧i≤a.length∧a.take i=b.take i) (fun i=>a.length - i) (fun i=>some (.bool (decide (a=b)),[])) ?_ 0 _ _ ⟨rfl,rfl,rfl,rfl,by omega,rfl⟩).trans rfl
  rintro i f _ ⟨h0,h2,h5,rfl,hi,ht⟩ ih
  by_cases hl:i<a.length
  ·have hb:i<b.length:=by omega
   have ff:=(hf _ (List.getElem_mem hl)).m
   have one:=qMq a[i] b[i] ff.e ff.i
   by_cases e:a[i]=b[i]
   ·rw [decide_eq_true e]at one
    simp -implicitDefEqProofs -dsimp +contextual (maxSteps:=9999999) (disch:=first | omega | simp only [go_sem]<;>omega | refine ib ?_;kernel_rfl) only [go_sem,seval,↓reduceIte,h0,h2,h5,hl,hb,h1,one]
    exact ih (i+1) _ _ ⟨h0,h2,rfl,rfl,by omega,qa1 hl hb ht e⟩ (by omega)
   ·rw [decide_eq_false e]at one
    simp -implicitDefEqProofs -dsimp +contextual (maxSteps:=9999999) (disch:=first | omega | simp only [go_sem]<;>omega | refine ib ?_;kernel_rfl) only [go_sem,seval,↓reduceIte,h0,h2,h5,hl,hb,h1,one]
    rw [decide_eq_false (qcL hl hb e)]
  ·simp -implicitDefEqProofs -dsimp +contextual (maxSteps:=9999999) (disch:=first | omega | simp only [go_sem]<;>omega | refine ib ?_;kernel_rfl) only [go_sem,seval,↓reduceIte,h0,h2,h5,hl]
   obtain rfl:i=a.length:=by omega
   rw [decide_eq_true (qbe h1 ht)]
 ·rename_i h1
  rw [decide_eq_false (fun e:a=b=>h1 (by rw [e]))]
@[go_sem] theorem e19 (a b : List Ac) (hl : a.length ≤ 9223372036854775807) (hf : ∀ x ∈ a, x.m.fit) : fn C 19 [] [.slice 20 (a.map Ac.cs), .slice 20 (b.map Ac.cs)] = some (.bool (decide (a = b)), []) := by
  rw [qaa Tryz.func19 rfl rfl Tryz.results19 qI1.1 rfl rfl (by kernel_rfl)]
  simp -implicitDefEqProofs -dsimp +contextual (maxSteps := 9999999) (disch := first | omega | simp only [go_sem] <;> omega | refine ib ?_; kernel_rfl) only [go_sem, seval, ↓reduceIte]
  (repeat' (refine qae (fun _ => ?_) (fun _ => ?_)))
  · rename_i h1
    refine (qaj (fun i f H => f 0 = .slice 20 (a.map Ac.cs) ∧ f 1 = .slice 20 (b.map Ac.cs) ∧ f 5 = .int .i64 (i : Nat) ∧ H = qac.nil ∧ i ≤ a.length ∧ a.take i = b.take i) (fun i => a.length - i) (fun i => some (.bool (decide (a = b)), [])) ?_ 0 _ _ ⟨rfl, rfl, rfl, rfl, by omega, rfl⟩).trans rfl
    rintro i f _ ⟨h0, h2, h5, rfl, hi, ht⟩ ih
    by_cases hl : i < a.length
    · have hb : i < b.length := by omega
      have ff := hf _ (List.getElem_mem hl)
      have one := e82 a[i].m b[i].m ff.e ff.i
      simp -implicitDefEqProofs -dsimp +contextual (maxSteps := 9999999) (disch := first | omega | simp only [go_sem] <;> omega | refine ib ?_; kernel_rfl) only [go_sem, seval, ↓reduceIte, h0, h2, h5, hl, hb, h1, one]
      (repeat' (refine qae (fun _ => ?_) (fun _ => ?_))) <;> first
        | (refine ih (i + 1) _ _ ⟨h0, h2, rfl, rfl, by omega, qa1 hl hb ht ((Ac.eq_iff _ _).2 (by simp [En.eq_iff, *]))⟩ (by omega))
        | (rw [decide_eq_false (qcL hl hb (fun e => by simp_all))])
    · simp -implicitDefEqProofs -dsimp +contextual (maxSteps := 9999999) (disch := first | omega | simp only [go_sem] <;> omega | refine ib ?_; kernel_rfl) only [go_sem, seval, ↓reduceIte, h0, h2, h5, hl]
      obtain rfl : i = a.length := by omega
      rw [decide_eq_true (qbe h1 ht)]
  · rename_i h1
    rw [decide_eq_false (fun e : a = b => h1 (by rw [e]))]
theorem qkE (l:List (List UInt8)) (i:Nat) (h:i<l.length):(l.map qaG)[i]?=some [.str l[i]]:=by
 rw [List.getElem?_map,List.getElem?_eq_getElem h];rfl
@[go_sem] theorem e79 (a b : List Jb) (hl : a.length ≤ 9223372036854775807) (hf : ∀ x ∈ a, x.asked.length ≤ 9223372036854775807) : fn C 79 [] [.slice 29 (a.map Jb.cs), .slice 29 (b.map Jb.cs)] = some (.bool (decide (a = b)), []) := by
  rw [qaa Tryz.func79 rfl rfl Tryz.results79 qJs.1 rfl rfl (by kernel_rfl)]
  simp -implicitDefEqProofs -dsimp +contextual (maxSteps := 9999999) (disch := first | omega | simp only [go_sem] <;> omega | refine ib ?_; kernel_rfl) only [go_sem, seval, ↓reduceIte]
  (repeat' (refine qae (fun _ => ?_) (fun _ => ?_)))
  · rename_i h1
    refine (qaj (fun i f H => f 0 = .slice 29 (a.map Jb.cs) ∧ f 1 = .slice 29 (b.map Jb.cs) ∧ f 5 = .int .i64 (i : Nat) ∧ i ≤ a.length ∧ a.take i = b.take i) (fun i => a.length - i) (fun i => some (.bool (decide (a = b)), [])) ?_ 0 _ _ ⟨rfl, rfl, rfl, by omega, rfl⟩).trans rfl
    rintro i f H ⟨h0, h2, h5, hi, ht⟩ ih
    by_cases hl : i < a.length
    · have hb : i < b.length := by omega
      have ff := hf _ (List.getElem_mem hl)
      have r1 := qdg a i hl
      have r2 := qdg b i hb
      by_cases hk : a[i].asked.length = b[i].asked.length
      · simp -implicitDefEqProofs -dsimp +contextual (maxSteps := 9999999) (disch := first | omega | simp only [go_sem] <;> omega | refine ib ?_; kernel_rfl) only [go_sem, seval, ↓reduceIte, h0, h2, h5, hl, hb, h1, r1, r2, hk]
        refine (qaj (fun k f' H' => f' 0 = .slice 29 (a.map Jb.cs) ∧ f' 1 = .slice 29 (b.map Jb.cs) ∧ f' 5 = .int .i64 (i : Nat) ∧ f' 8 = .int .i64 (k : Nat) ∧ f' 6 = .ptr 106 ((H 106).gen + 1) 0 0 ∧ f' 7 = .ptr 107 ((H 107).gen + 1) 0 0 ∧ k ≤ a[i].asked.length ∧ a[i].asked.take k = b[i].asked.take k ∧
          H' 106 = ⟨(H 106).gen + 1, .live, 29, [[.int .i64 a[i].id, .int .i64 a[i].kind, .int .i64 a[i].phase, .int .i64 a[i].hops, .int .i64 a[i].tries, .int .i64 a[i].til, .str a[i].key, .str a[i].val, .str a[i].owner.name, .int .u64 (a[i].owner.id : Int), .int .i64 a[i].owner.fr, .int .i64 a[i].owner.un, .int .i64 a[i].owner.ix, .str a[i].owner.tag, .str a[i].item.k, .str a[i].item.v, .int .i64 a[i].item.n, .bool a[i].item.g, .int .i64 a[i].acks, .int .i64 a[i].waits, .slice 1 (a[i].asked.map qaG), .str a[i].back.name, .int .u64 (a[i].back.id : Int), .int .i64 a[i].back.fr, .int .i64 a[i].back.un, .int .i64 a[i].back.ix, .str a[i].back.tag, .int .i64 a[i].backRid, .int .i64 a[i].backJob]], false⟩ ∧ H' 107 = ⟨(H 107).gen + 1, .live, 29, [[.int .i64 b[i].id, .int .i64 b[i].kind, .int .i64 b[i].phase, .int .i64 b[i].hops, .int .i64 b[i].tries, .int .i64 b[i].til, .str b[i].key, .str b[i].val, .str b[i].owner.name, .int .u64 (b[i].owner.id : Int), .int .i64 b[i].owner.fr, .int .i64 b[i].owner.un, .int .i64 b[i].owner.ix, .str b[i].owner.tag, .str b[i].item.k, .str b[i].item.v, .int .i64 b[i].item.n, .bool b[i].item.g, .int .i64 b[i].acks, .int .i64 b[i].waits, .slice 1 (b[i].asked.map qaG), .str b[i].back.name, .int .u64 (b[i].back.id : Int), .int .i64 b[i].back.fr, .int .i64 b[i].back.un, .int .i64 b[i].back.ix, .str b[i].back.tag, .int .i64 b[i].backRid, .int .i64 b[i].backJob]], false⟩) (fun k => a[i].asked.length - k) (fun _ => some (.bool (decide (a = b)), [])) ?_ 0 _ _ (by exact ⟨h0, h2, h5, rfl, rfl, rfl, by omega, rfl, by simp [qac.set], by simp [qac.set]⟩)).trans rfl
        rintro k f' H' ⟨g0, g1, g5, g8, g6, g7, hk2, ha, H1, H2⟩ ih2
        by_cases hkl : k < a[i].asked.length
        · have hkb : k < b[i].asked.length := by omega
          have q1 := qkE a[i].asked k hkl
          have q2 := qkE b[i].asked k hkb
          by_cases e : a[i].asked[k] = b[i].asked[k]
          · simp -implicitDefEqProofs -dsimp +contextual (maxSteps := 9999999) (disch := first | omega | simp only [go_sem] <;> omega | refine ib ?_; kernel_rfl) only [go_sem, seval, ↓reduceIte, g0, g1, g5, g6, g7, g8, H1, H2, hk, hkl, hkb, q1, q2, e]
            exact ih2 (k + 1) _ _ ⟨g0, g1, g5, rfl, g6, g7, by omega, qa1 hkl hkb ha e, H1, H2⟩ (by omega)
          · simp -implicitDefEqProofs -dsimp +contextual (maxSteps := 9999999) (disch := first | omega | simp only [go_sem] <;> omega | refine ib ?_; kernel_rfl) only [go_sem, seval, ↓reduceIte, g0, g1, g5, g6, g7, g8, H1, H2, hk, hkl, hkb, q1, q2, e]
            rw [decide_eq_false (qcL hl hb (fun e' => e (by simp [e'])))]
        · obtain rfl : k = a[i].asked.length := by omega
          clear ih2
          have hask := qbe hk ha
          simp -implicitDefEqProofs -dsimp +contextual (maxSteps := 9999999) (disch := first | omega | simp only [go_sem] <;> omega | refine ib ?_; kernel_rfl) only [go_sem, seval, ↓reduceIte, g0, g1, g5, g6, g7, g8, H1, H2, hk]
          (repeat' (refine qae (fun _ => ?_) (fun _ => ?_))) <;> first
            | (refine ih (i + 1) _ _ ⟨g0, g1, rfl, by omega, qa1 hl hb ht ((Jb.eq_iff _ _).2 (by simp [En.eq_iff, It.eq_iff, *]))⟩ (by omega))
            | (rw [decide_eq_false (qcL hl hb (fun e => by simp_all))])
      · simp -implicitDefEqProofs -dsimp +contextual (maxSteps := 9999999) (disch := first | omega | simp only [go_sem] <;> omega | refine ib ?_; kernel_rfl) only [go_sem, seval, ↓reduceIte, h0, h2, h5, hl, hb, h1, r1, r2, hk]
        rw [decide_eq_false (qcL hl hb (fun e => hk (by rw [e])))]
    · simp -implicitDefEqProofs -dsimp +contextual (maxSteps := 9999999) (disch := first | omega | simp only [go_sem] <;> omega | refine ib ?_; kernel_rfl) only [go_sem, seval, ↓reduceIte, h0, h2, h5, hl]
      obtain rfl : i = a.length := by omega
      rw [decide_eq_true (qbe h1 ht)]
  · rename_i h1
    rw [decide_eq_false (fun e : a = b => h1 (by rw [e]))]
structure Nd.cmp (n:Nd):Prop where
 pl:n.pred.length≤9223372036854775807
 ll:n.list.length≤9223372036854775807
 fl:n.fingers.length≤9223372036854775807
 sl:n.sessions.length≤9223372036854775807
 dl:n.pends.length≤9223372036854775807
 df:∀p∈n.pends,p.fit
 il:n.items.length≤9223372036854775807
 jl:n.jobs.length≤9223372036854775807
 ja:∀j∈n.jobs,j.asked.length≤9223372036854775807
 wl:n.draws.length≤9223372036854775807
 rl:n.results.length≤9223372036854775807
theorem Nd.mid.cmp {n:Nd} {k:Nat} (h:n.mid k) (hk:k≤9223372036854775807) (hd:∀p∈n.pends,p.fit):n.cmp:=
 ⟨Nat.le_trans h.pl hk,Nat.le_trans h.ll hk,Nat.le_trans h.fl hk,Nat.le_trans h.sl hk,Nat.le_trans h.dl hk,hd,Nat.le_trans h.il hk,Nat.le_trans h.jl hk,fun j hj=>Nat.le_trans (h.ja j hj) hk,Nat.le_trans h.wl hk,Nat.le_trans h.rl hk⟩
structure Nd.good (n:Nd) (k:Nat):Prop where
 m:n.mid k
 d:∀p∈n.pends,p.fit
 j:∀j∈n.jobs,j.item.fit
def qeG (k:Nat) (l:List Ac):Prop:=l.length≤k∧∀a∈l,a.m.fit
theorem Nd.good.le {n:Nd} {k m:Nat} (h:n.good k) (hk:k≤m):n.good m:=⟨h.m.le hk,h.d,h.j⟩
theorem qeG.le {l:List Ac} {k m:Nat} (h:qeG k l) (hk:k≤m):qeG m l:=⟨Nat.le_trans h.1 hk,h.2⟩
theorem qeG.nil (k:Nat):qeG k []:=⟨Nat.zero_le _,fun a ha=>by simp at ha⟩
theorem qeG.one {a:Ac} (h:a.m.fit):qeG 1 [a]:=⟨Nat.le_refl _,fun b hb=>by rw [List.mem_singleton]at hb;rw [hb];exact h⟩
theorem qeG.app {a b:List Ac} {k m:Nat} (h1:qeG k a) (h2:qeG m b):qeG (k+m) (a++b):=
 ⟨by rw [List.length_append];exact Nat.add_le_add h1.1 h2.1,fun x hx=>by
  rcases List.mem_append.1 hx with hx | hx
  ·exact h1.2 x hx
  ·exact h2.2 x hx⟩
theorem qs9 (back:En) (rid:Int) (x:It) (e:Int):(qb5 back rid x e).m.fit:=
 ⟨Nat.zero_le _,Nat.zero_le _,Nat.zero_le _,Nat.zero_le _,fun e he=>by simp [qb5,msZ]at he,fun x hx=>by simp [qb5,msZ]at hx⟩
theorem qta (e:En) {x:It} (id:Int) (h:x.fit):(qhc e x id).m.fit:=
 ⟨Nat.zero_le _,Nat.zero_le _,Nat.zero_le _,by show 1≤9223372036854775807;decide,fun e he=>by simp [qhc,msZ]at he,fun y hy=>by simp [qhc]at hy;rw [hy];exact h⟩
theorem qmR {n:Nd} {k:Nat} (id:Int) (x:It) (has:Bool) (e:Int) (h:n.good k) (hk:16≤k):(qaW n id x has e).good k:=by
 refine ⟨qpK id x has e h.m hk,?_,?_⟩
 ·unfold qaW;split
  ·exact h.d
  ·exact h.d
 ·unfold qaW;split
  ·exact fun j hj=>h.j j (List.mem_of_mem_eraseIdx hj)
  ·exact h.j
theorem qpV {n:Nd} {k:Nat} (i:Nat) (h:n.good k):({ n with jobs:=n.jobs.eraseIdx i }:Nd).good k:=
 ⟨qdQ i h.m,h.d,fun j hj=>h.j j (List.mem_of_mem_eraseIdx hj)⟩
theorem qxa {n:Nd} {k:Nat} (i:Nat) (j:Jb) (h:n.good k) (ha:j.asked.length≤k) (hf:j.item.fit):({ n with jobs:=n.jobs.set i j }:Nd).good k:=
 ⟨qmD i j h.m ha,h.d,fun x hx=>by
  rcases List.mem_or_eq_of_mem_set hx with hx | rfl
  ·exact h.j x hx
  ·exact hf⟩
theorem qkF {n:Nd} {k:Nat} (back:En) (rid job:Int) (x:It) (has:Bool) (e:Int) (h:n.good k) (hk:16≤k):(qb6 n back rid job x has e).1.good k∧qeG 1 (qb6 n back rid job x has e).2:=by
 unfold qb6;split
 ·exact ⟨h,qeG.one (qs9 _ _ _ _)⟩
 ·exact ⟨qmR _ _ _ _ h hk,qeG.nil 1⟩
theorem qg4 (id:Int):∀(l:List Pr) (j:Jb),j.item.fit→(qdv id l j).1.asked.length≤j.asked.length+l.length∧(qdv id l j).1.item=j.item∧qeG l.length (qdv id l j).2
 | [],j,_=>⟨Nat.le_refl _,rfl,qeG.nil 0⟩
 | p::l,j,h=>by
  unfold qdv
  split
  ·exact ⟨by simp,rfl,qeG.nil _⟩
  ·split
   ·have:=qg4 id l j h
    exact ⟨Nat.le_trans this.1 (by simp),this.2.1,this.2.2.le (by simp)⟩
   ·have:=qg4 id l { j with waits:=qcM j.waits+1,asked:=j.asked++[p.e.name] } h
    refine ⟨Nat.le_trans this.1 (by simp;omega),this.2.1,?_⟩
    have:=(qeG.one (qta p.e id h)).app this.2.2
    exact this.le (by simp;omega)
theorem qkG {n:Nd} {k:Nat} (i:Nat) (id:Int) (j:Jb) (h:n.good k) (hk:16≤k) (ha:j.asked.length≤k) (hf:j.item.fit):(qaN n i (qdv id n.list j)).1.good (k+k)∧qeG (k+1) (qaN n i (qdv id n.list j)).2:=by
 have g:=qg4 id n.list j hf
 have hl:=h.m.ll
 unfold qaN
 split
 ·exact ⟨qxa i _ (h.le (by omega)) (Nat.le_trans g.1 (by omega)) (by rw [g.2.1];exact hf),g.2.2.le (by omega)⟩
 ·have t:=qkF (qdv id n.list j).1.back (qdv id n.list j).1.backRid (qdv id n.list j).1.backJob (qdv id n.list j).1.item (!(qdv id n.list j).1.item.g) 0 (qpV i h) hk
  exact ⟨t.1.le (by omega),(g.2.2.app t.2).le (by omega)⟩
theorem qtb {n:Nd} {k:Nat} (id:Int) (h:n.good k) (hk:16≤k):(qhv n id).1.good (k+k)∧qeG (k+1) (qhv n id).2:=by
 rcases qh8 n.jobs id with ⟨i,hi,hc⟩|hc
 ·rw [qns hi hc]
  exact qkG i id _ h hk (h.m.ja _ (List.getElem_mem hi)) (h.j _ (List.getElem_mem hi))
 ·rw [qh9 hc]
  exact ⟨h.le (by omega),qeG.nil _⟩
theorem qpW {n:Nd} {k:Nat} (key val:List UInt8) (gone:Bool) (back:En) (rid job:Int) (hk:key.length≤9223372036854775807) (hv:val.length≤9223372036854775807) (h:n.good k) (he:(qcN n.items key val gone).2.2=0):(qat n key val gone back rid job).good (k+1):=by
 refine ⟨qdR key val gone back rid job hk h.m,h.d,fun j hj=>?_⟩
 rcases List.mem_append.1 hj with hj | hj
 ·exact h.j j hj
 ·rw [List.mem_singleton]at hj
  rw [hj]
  show (qcN n.items key val gone).2.1.fit
  unfold qcN at he ⊢
  split
  ·split
   ·exact ⟨Nat.zero_le _,Nat.zero_le _⟩
   ·split
    ·exact ⟨Nat.zero_le _,Nat.zero_le _⟩
    ·exact ⟨hk,by show (if gone=true then [] else val).length≤9223372036854775807;split;exact Nat.zero_le _;exact hv⟩
  ·exact ⟨Nat.zero_le _,Nat.zero_le _⟩
theorem qpX {n:Nd} {k:Nat} (key val:List UInt8) (gone:Bool) (back:En) (rid job:Int) (hk:key.length≤9223372036854775807) (hv:val.length≤9223372036854775807) (h:n.good k) (hk2:16≤k):(qdX n key val gone back rid job).1.good (k+k+2)∧qeG (k+2) (qdX n key val gone back rid job).2:=by
 unfold qdX
 split
 ·rename_i he
  have he:(qcN n.items key val gone).2.2=0:=by
   unfold qaK at he;split at he
   ·omega
   ·exact he
  have g:=qtb (qbs n.jobId) (qpW key val gone back rid job hk hv h he) (by omega)
  exact ⟨g.1.le (by omega),g.2.le (by omega)⟩
 ·have t:=qkF back rid job qa6 false (qaK n key val gone) h hk2
  exact ⟨t.1.le (by omega),t.2.le (by omega)⟩
@[go_sem] theorem qJX (a a':Int) (k k':List UInt8):eqF E.P 8 26 (.agg [.int .i64 a,.str k]) (.agg [.int .i64 a',.str k'])=some (decide (a=a'∧k=k')):=by
 have u2:E.P.underlying 9=_:=Tryz.underlying9
 have u3:E.P.underlying 3=_:=Tryz.underlying3
 have u7:E.P.underlying 26=_:=Tryz.underlying26
 have hq:E.P.stoodInHeld 26=false:=by kernel_rfl
 simp [eqF,qoi,u2,u3,u7,hq,tq9.1,tq9.2.1,tq3.1,tq3.2.1,mkV,qcD,Bool.and_assoc,←Bool.decide_and]
theorem qFz (n:Nd) (h:n.cmp):fn C 18 [] [(aNd n),(aNd n)]=some (.bool true,[]):=by
 have e1:=e74 n.pred n.pred h.pl
 have e2:=e74 n.list n.list h.ll
 have e3:=e75 n.fingers n.fingers h.fl
 have e4:=e76 n.sessions n.sessions h.sl
 have e5:=e77 n.pends n.pends h.dl h.df
 have e6:=e78 n.items n.items h.il
 have e7:=e79 n.jobs n.jobs h.jl h.ja
 have e8:=e80 n.draws n.draws h.wl
 have e9:=e81 n.results n.results h.rl
 simp only [aNd,decide_true]at e1 e2 e3 e4 e5 e6 e7 e8 e9
 rw [qaa Tryz.func18 rfl rfl Tryz.results18 qI0.1 rfl rfl (by kernel_rfl)]
 simp -implicitDefEqProofs -dsimp +contextual (maxSteps:=9999999) (disch:=first | omega | simp only [go_sem]<;>omega | refine ib ?_;kernel_rfl) only [go_sem,seval,↓reduceIte,e1,e2,e3,e4,e5,e6,e7,e8,e9]
theorem qtc {n:Nd} (g:qbn n=false):n.mid 70:=(qg2 g).mid
theorem qBg {n:Nd} (g:qbn n=false) (h:n.fit):n.good 70:=⟨qtc g,h.d,fun j hj=>(h.j j hj).ik⟩
theorem qIp {n:Nd} (h:¬(0≤n.clock∧n.clock≤1099511627776)):(decide (n.clock<0)|| decide (1099511627776<n.clock))=true:=by simp;omega
theorem qIq (acts:List Ac) {k:Nat} (h:qeG k acts) (hk:k≤9223372036854775807):fn C 19 [] [.slice 20 (acts.map Ac.cs),.slice 20 (acts.map Ac.cs)]=some (.bool true,[]):=by
 have:=e19 acts acts (Nat.le_trans h.1 hk) h.2
 rwa [decide_eq_true rfl]at this
end Go.Proofs.YtnpkhdjgedeppaaGreatDoor
namespace Go.Proofs.YtnpkhdjgedeppaaGreatDoor
set_option maxHeartbeats 64000000
open Go.Am
set_option linter.unusedSimpArgs false
set_option linter.unusedVariables false
set_option maxRecDepth 100000
attribute [local irreducible] qa7 idB qdF
end Go.Proofs.YtnpkhdjgedeppaaGreatDoor
namespace Go.Proofs.YtnpkhdjgedeppaaGreatDoor
set_option maxHeartbeats 64000000
open Go.Am
set_option linter.unusedSimpArgs false
set_option linter.unusedVariables false
set_option maxRecDepth 100000
theorem e11 (n:Nd) (m:Ms) (h:m.fit):fn C 11 [] [(aNd n),.agg [.int .i64 m.kind,.int .i64 m.rid,.int .i64 m.ver,.int .i64 m.err,.int .u64 (m.id:Int),.bool m.has,.bool m.gone,.str m.key,.str m.val,.slice 6 (m.ents.map En.cs),.slice 4 (m.items.map It.cs)]]=some (.bool (decide (n.clock<0)|| decide (1099511627776<n.clock)|| qcs m),[]):=by
 rw [qaa Tryz.func11 rfl rfl Tryz.results11 qIZ.1 rfl rfl (by kernel_rfl)]
 simp -implicitDefEqProofs -dsimp +contextual (maxSteps:=9999999) (disch:=first | omega | simp only [go_sem]<;>omega | refine ib ?_;kernel_rfl) only [go_sem,seval,↓reduceIte]
 (repeat' (refine qae (fun _=>?_) (fun _=>?_)))<;>exact qas (by simp [*])
end Go.Proofs.YtnpkhdjgedeppaaGreatDoor
namespace Go.Proofs.YtnpkhdjgedeppaaGreatDoor
set_option maxHeartbeats 64000000
open Go.Am
set_option linter.unusedSimpArgs false
set_option linter.unusedVariables false
set_option maxRecDepth 100000
attribute [local irreducible] qa7 idB qdF
end Go.Proofs.YtnpkhdjgedeppaaGreatDoor
namespace Go.Proofs.YtnpkhdjgedeppaaGreatDoor
set_option maxHeartbeats 64000000
open Go.Am
set_option linter.unusedSimpArgs false
set_option linter.unusedVariables false
set_option maxRecDepth 100000
def qGs:List Nat→List AVal→Option Res:=fun _ ds=>match ds with
 | [.usl 8 es,.int .i64 i,.usl 8 [p]]=>gu (0≤i∧i.toNat≤es.length) (gu (es.length≤1000000) (gu (qcb es=true∧es.all qbN=true) (gu (p.length=8∧qcb [p]=true∧[p].all qbN=true) (some (.slice 8 (es.take i.toNat++p::es.drop i.toNat),[])))))
 | _=>none
noncomputable def qIr:Own:=fun f=>none
noncomputable def CI:Cf:=⟨E,M,qIr⟩
@[go_sem] theorem qNH:CI.E=E:=rfl
@[go_sem] theorem qNI:CI.M=M:=rfl
@[go_sem] theorem qNJ:CI.X=qIr:=rfl
@[go_sem] theorem qNK:E.P.goFn 236=false:=by kernel_rfl
@[go_sem] theorem qMr:M.nl 186=[]:=by kernel_rfl
theorem qJY:E.P.exFn 236=true:=by kernel_rfl
@[go_sem] theorem qMs:E.P.exFn 236=true:=qJY
theorem qMt:OvF E.P 236:=⟨_,27,4,74,8,Tryz.func236,by kernel_rfl,by kernel_rfl,by kernel_rfl,by kernel_rfl,by kernel_rfl,fun w=>qbF (by kernel_rfl)⟩
@[go_sem ↓] theorem qNL {o1 g1 i1 n1 o2 g2 i2 n2:Nat} {H:qac} (K:AVal×qac→Option Res):@kB _ _ (il CI 236 [.osl o1 g1 i1 n1,.osl o2 g2 i2 n2] H) ⟨K⟩=
  @kG _ (¬o1=o2) _ ⟨@kG _ (1≤n1) _ ⟨@kG _ (1≤n2) _ ⟨@kG _ ((H o1).gen=g1) _ ⟨@kG _ ((H o1).mode= .live) _ ⟨@kG _ (2≤(H o1).st) _ ⟨@kG _ ((H o2).gen=g2) _ ⟨@kG _ ((H o2).mode= .live) _ ⟨@kG _ (2≤(H o2).st) _ ⟨K (.bool false,H)⟩⟩⟩⟩⟩⟩⟩⟩⟩:=qGZ (C:=CI) qJY qMt K
theorem qkH {es:List (List AVal)} {i:Nat} (h:es.all qbN=true):(es.take i).all qbN=true:=List.all_eq_true.2 fun r hr=>List.all_eq_true.1 h r (List.mem_of_mem_take hr)
theorem qkI {es:List (List AVal)} {i:Nat} (h:es.all qbN=true):(es.drop i).all qbN=true:=List.all_eq_true.2 fun r hr=>List.all_eq_true.1 h r (List.mem_of_mem_drop hr)
theorem qBh (es:List (List AVal)) (p:List AVal) (i:Nat) (hi:i≤es.length) (hl:es.length≤1000000) (h1:qcb es=true) (h2:es.all qbN=true) (h3:p.length=8) (h4:qcb [p]=true) (h5:[p].all qbN=true) :
  fnR CI 186 0 [.usl 8 es,.int .i64 i,.usl 8 [p]]=some (.slice 8 (es.take i++p::es.drop i),[]):=by
 rw [qnr (C:=CI) Tryz.func186 rfl Tryz.results186 qAN.1 rfl rfl (by kernel_rfl)]
 by_cases h:i=es.length
 ·subst h
  simp -implicitDefEqProofs -dsimp +contextual (maxSteps:=9999999) (disch:=first | omega | simp only [go_sem]<;>omega | refine ib ?_;kernel_rfl) only [go_sem,seval,↓reduceIte,h1,h2,h3,h4,h5,qew]
 ·have h6:qcb (es.drop i)=true:=List.all_eq_true.2 fun r hr=>List.all_eq_true.1 h1 r (List.mem_of_mem_drop hr)
  simp -implicitDefEqProofs -dsimp +contextual (maxSteps:=9999999) (disch:=first | omega | simp only [go_sem]<;>omega | refine ib ?_;kernel_rfl) only [go_sem,seval,↓reduceIte,h,hi,h1,h2,h3,h4,h5,h6,qew]
  rw [if_pos (by omega),if_pos ⟨qkH h2,qkI h2⟩]
  simp
theorem qxb {α:Type} (es R:List α) (p:α) (i:Nat) (hi:i<es.length):List.take (es.length+1) (List.take i (List.take (i+1) (es++R)++List.drop i es++List.drop (i+1+(es.length - i)) (es++R))++[p] ++
  List.drop (i+1) (List.take (i+1) (es++R)++List.drop i es++List.drop (i+1+(es.length - i)) (es++R)))=es.take i++p::es.drop i:=by
 generalize List.drop (i+1+(es.length - i)) (es++R)=Y
 have hl:(List.take (i+1) (es++R)).length=i+1:=by simp;omega
 have e1:List.take i (List.take (i+1) (es++R)++List.drop i es++Y)=es.take i:=by
  rw [List.append_assoc,List.take_append_of_le_length (by omega),List.take_take,Nat.min_eq_left (by omega),List.take_append_of_le_length (by omega)]
 have e2:List.drop (i+1) (List.take (i+1) (es++R)++List.drop i es++Y)=List.drop i es++Y:=by
  rw [List.append_assoc,List.drop_left' hl]
 rw [e1,e2,←List.append_assoc,List.take_left' (by simp;omega)]
 simp
theorem qBi (es:List (List AVal)) (p:List AVal) (i n:Nat) (hn:1≤n) (hi:i≤es.length) (hl:es.length≤1000000) (h1:qcb es=true) (h2:es.all qbN=true) (h3:p.length=8) (h4:qcb [p]=true) (h5:[p].all qbN=true) :
  fnR CI 186 n [.usl 8 es,.int .i64 i,.usl 8 [p]]=some (.slice 8 (es.take i++p::es.drop i),[]):=by
 rw [qnr (C:=CI) Tryz.func186 rfl Tryz.results186 qAN.1 rfl rfl (by kernel_rfl)]
 have h6:qcb (es.drop i)=true:=List.all_eq_true.2 fun r hr=>List.all_eq_true.1 h1 r (List.mem_of_mem_drop hr)
 by_cases h:i=es.length
 ·subst h
  simp -implicitDefEqProofs -dsimp +contextual (maxSteps:=9999999) (disch:=first | omega | simp only [go_sem]<;>omega | refine ib ?_;kernel_rfl) only [go_sem,seval,↓reduceIte,h1,h2,h3,h4,h5,qew]
 ·have h7:List.take (es.length - i) (List.take (es.length+1 - i) (List.drop i (es++List.replicate n (qev 8))))=List.drop i es:=by
   rw [List.take_take,Nat.min_eq_left (by omega),List.drop_append_of_le_length hi,List.take_append_of_le_length (by simp),List.take_of_length_le (by simp)]
  simp -implicitDefEqProofs -dsimp +contextual (maxSteps:=9999999) (disch:=first | omega | simp only [go_sem]<;>omega | refine ib ?_;kernel_rfl) only [go_sem,seval,↓reduceIte,h,hi,h1,h2,h3,h4,h5,h6,h7,qew]
  rw [qxb es (List.replicate n (qev 8)) p i (by omega)]
  rw [if_pos]
  rw [List.all_append,qkH h2,List.all_cons,qkI h2]
  simpa using h5
theorem qBj:qgN E qIr:=fun f g ex ds q hf _=>by cases hf
theorem qBk:∀ex ds q,qGs ex ds=some q→qdl E ex 186 ds q.1 q.2:=by
 intro ex ds q hq
 unfold qGs at hq
 split at hq
 ·rename_i es i p
  simp only [qag,Option.some.injEq]at hq
  obtain ⟨⟨h1,h2⟩,h3,⟨h4,h5⟩,⟨h6,h7,h8⟩,rfl⟩:=hq
  intro S w xs U _ hG hst hor hU hUb
  obtain ⟨i,rfl⟩:=Int.eq_ofNat_of_zero_le h1
  have hor':=hor
  obtain ⟨x,ys,U1,U2,rfl,rfl,⟨a,cap,rfl,hle,_⟩,_⟩:=hor'
  have hi:i≤es.length:=h2
  have hrun:fnR CI 186 (cap - es.length) [.usl 8 es,.int .i64 i,.usl 8 [p]]=some (.slice 8 (es.take i++p::es.drop i),[]):=by
   by_cases hn:cap - es.length=0
   ·rw [hn];exact qBh es p i hi h3 h4 h5 h6 h7 h8
   ·exact qBi es p i _ (by omega) hi h3 h4 h5 h6 h7 h8
  exact qsE (C:=CI) qbb qBj hrun (fun a' k cap' he=>by
   simp only [List.getElem?_cons_zero,Option.some.injEq,Value.slice.injEq]at he
   obtain ⟨_,rfl,rfl⟩:=he
   omega) hG hst hor hU hUb
 ·cases hq
noncomputable def qht:Own:=fun f=>if f=54 then some (qaQ 8) else if f=55 then some (qaQ 9) else if f=186 then some qGs
 else if f∈[188,124,125,122] then none else some (fun ex ds=>fn C f ex ds)
theorem qBl:qgN E qht:=by
 intro f g ex ds q hf hg
 unfold qht at hf
 split at hf
 ·rename_i e
  subst e
  simp only [Option.some.injEq]at hf
  subst hf
  exact qbB qnD qxZ ex ds q hg
 ·split at hf
  ·rename_i e
   subst e
   simp only [Option.some.injEq]at hf
   subst hf
   exact qbB qnE qx0 ex ds q hg
  ·split at hf
   ·rename_i e
    subst e
    simp only [Option.some.injEq]at hf
    subst hf
    exact qBk ex ds q hg
   ·split at hf
    ·cases hf
    ·simp only [Option.some.injEq]at hf
     subst hf
     exact qam qbb qsV hg
noncomputable def CP:Cf:=⟨E,M,qht⟩
@[go_sem] theorem qNM:CP.E=E:=rfl
@[go_sem] theorem qNN:CP.M=M:=rfl
@[go_sem] theorem qIs (es:List (List AVal)):fn CP 54 [] [.slice 8 es]=gu (qav es=true) (some (.usl 8 es,[])):=by
 rw [qbC (g:=qaQ 8) (by show qht 54=_;unfold qht;rw [if_pos rfl])]
 simp [qaQ,gu]
@[go_sem] theorem qGt (es:List (List AVal)):fn CP 55 [] [.slice 9 es]=gu (qav es=true) (some (.usl 9 es,[])):=by
 rw [qbC (g:=qaQ 9) (by show qht 55=_;unfold qht;rw [if_neg (by decide),if_pos rfl])]
 simp [qaQ,gu]
@[go_sem] theorem qIt (es:List (List AVal)) (i:Int) (p:List AVal):fn CP 186 [] [.usl 8 es,.int .i64 i,.usl 8 [p]]=gu (0≤i∧i.toNat≤es.length) (gu (es.length≤1000000) (gu (qcb es=true∧es.all qbN=true) (gu (p.length=8∧qcb [p]=true∧[p].all qbN=true) (some (.slice 8 (es.take i.toNat++p::es.drop i.toNat),[]))))):=by
 rw [qbC (g:=qGs) (by show qht 186=_;unfold qht;rw [if_neg (by decide),if_neg (by decide),if_pos rfl])]
 rfl
theorem qxc (f:FuncId) (h1:f≠54) (h2:f≠55) (h4:f≠186) (h3:f∉[188,124,125,122]) (ex ds):fn CP f ex ds=fn C f ex ds:=
 qbC (g:=fun ex ds=>fn C f ex ds) (by show qht f=_;unfold qht;rw [if_neg h1,if_neg h2,if_neg h4,if_neg h3]) ex ds
@[go_sem] theorem qJZ (ex ds):fn CP 206 ex ds=fn C 206 ex ds:=qxc _ (by decide) (by decide) (by decide) (by decide) ex ds
@[go_sem] theorem qGu (ex ds):fn CP 189 ex ds=fn C 189 ex ds:=qxc _ (by decide) (by decide) (by decide) (by decide) ex ds
@[go_sem] theorem qNO (p:Pr) (name:List UInt8):fn C 189 [] [.agg [.str p.e.name,.int .u64 (p.e.id:Int),.int .i64 p.e.fr,.int .i64 p.e.un,.int .i64 p.e.ix,.str p.e.tag,.int .i64 p.since,.int .i64 p.under],.iptr [.str name]]=some (.bool (decide (p.e.name=name)),[]):=by
 rw [qaa Tryz.func189 rfl rfl Tryz.results189 qDX.1 rfl rfl (by kernel_rfl)]
 simp -implicitDefEqProofs -dsimp +contextual (maxSteps:=9999999) (disch:=first | omega | simp only [go_sem]<;>omega | refine ib ?_;kernel_rfl) only [go_sem,seval,↓reduceIte]
def nmB (name:List UInt8) (p:Pr):Bool:=decide (p.e.name=name)
@[go_sem] theorem qxd (l:List Pr) (name:List UInt8) (hl:l.length≤9223372036854775807):fn C 206 [] [.slice 8 (l.map Pr.cs),.fn (.func 189) [] [.iptr [.str name]]]=some (.int .i64 (qde (nmB name) l),[]):=by
 rw [qaa Tryz.func206 rfl rfl Tryz.results206 qAO.1 rfl rfl (by kernel_rfl)]
 simp -implicitDefEqProofs -dsimp +contextual (maxSteps:=9999999) (disch:=first | omega | simp only [go_sem]<;>omega | refine ib ?_;kernel_rfl) only [go_sem,seval,↓reduceIte]
 refine qeb l.length (fun i f H=>f 0= .slice 8 (l.map Pr.cs)∧f 1= .fn (.func 189) [] [.iptr [.str name]]∧f 7= .int .i64 l.length∧f 8= .int .i64 (i:Nat)∧H=qac.nil∧(l.take i).any (nmB name)=false) ?_ ?_ (by exact ⟨rfl,rfl,rfl,rfl,rfl,rfl⟩)
 ·rintro i f _ hi ⟨f0,f1,f7,f8,rfl,ha⟩ ih
  have row:=qda l i hi
  simp -implicitDefEqProofs -dsimp +contextual (maxSteps:=9999999) (disch:=first | omega | simp only [go_sem]<;>omega | refine ib ?_;kernel_rfl) only [go_sem,seval,↓reduceIte,f0,f1,f7,f8,hi,row]
  (repeat' (refine qae (fun _=>?_) (fun _=>?_)))
  ·rename_i h;rw [qcp hi ha (by simp [nmB,h])]
  ·rename_i h;exact ih _ _ ⟨f0,f1,f7,rfl,rfl,qa5 hi ha (by simp [nmB,h])⟩
 ·rintro f _ ⟨f0,f1,f7,f8,rfl,ha⟩
  simp -implicitDefEqProofs -dsimp +contextual (maxSteps:=9999999) (disch:=first | omega | simp only [go_sem]<;>omega | refine ib ?_;kernel_rfl) only [go_sem,seval,↓reduceIte,f0,f1,f7,f8]
  rw [qbP (qby ha)]
theorem qic {l:List Pr} {name:List UInt8} (h:l.any (nmB name)=false):qbc l name=l:=by
 unfold qbc
 rw [List.filter_eq_self]
 intro p hp
 have:=qb1 h p hp
 simpa [nmB]using this
def qid (l:List Pr) (name:List UInt8) (j:Nat):List Pr:=qbc (l.take j) name++l.drop (qbc (l.take j) name).length
theorem qcB (l:List Pr) (name:List UInt8) (j:Nat):(qbc (l.take j) name).length≤j:=Nat.le_trans (qe3 _ _) (by simp;omega)
theorem qnJ (l:List Pr) (name:List UInt8) (j:Nat) (hj:j≤l.length):(qid l name j).length=l.length:=by
 have:=qcB l name j
 simp [qid];omega
theorem qBm (l:List Pr) (name:List UInt8) (j:Nat) (hj:j<l.length):(qid l name j)[j]?=some l[j]:=by
 have h:=qcB l name j
 unfold qid
 rw [List.getElem?_append_right h,List.getElem?_drop,show (qbc (l.take j) name).length+(j - (qbc (l.take j) name).length)=j by omega,List.getElem?_eq_getElem hj]
theorem qxe (l:List Pr) (name:List UInt8) (j:Nat) (hj:j<l.length) (h:¬l[j].e.name=name):(qid l name j).set (qbc (l.take j) name).length l[j]=qid l name (j+1):=by
 have hk:=qcB l name j
 have hs:=qc8 l name j hj
 rw [if_neg h]at hs
 unfold qid
 rw [hs,List.set_append_right _ _ (Nat.le_refl _),Nat.sub_self,List.length_append,List.length_singleton,List.append_assoc]
 congr 1
 rw [List.drop_eq_getElem_cons (show (qbc (l.take j) name).length<l.length by omega)]
 rfl
theorem qtd (l:List Pr) (name:List UInt8) (j:Nat) (hj:j<l.length) (h:l[j].e.name=name):qid l name j=qid l name (j+1):=by
 have hs:=qc8 l name j hj
 rw [if_pos h,List.append_nil]at hs
 unfold qid
 rw [hs]
theorem qpY {l:List Pr} {name:List UInt8} {i:Nat} (hi:i<l.length) (hn:(l.take i).any (nmB name)=false) (h:nmB name l[i]=true):qid l name (i+1)=l∧(qbc (l.take (i+1)) name).length=i:=by
 have hs:=qc8 l name i hi
 have hd:qbc (l.take i) name=l.take i:=qic hn
 rw [if_pos (by simpa [nmB]using h),List.append_nil,hd]at hs
 have hl:(l.take i).length=i:=by rw [List.length_take];omega
 refine ⟨?_,by rw [hs,hl]⟩
 unfold qid
 rw [hs,hl,List.take_append_drop]
theorem qxf (l:List Pr) (name:List UInt8) (hl:l.length≤1000000):fn CP 188 [] [.usl 8 (l.map Pr.cs),.fn (.func 189) [] [.iptr [.str name]]]=some (.usl 8 ((qbc l name).map Pr.cs),[]):=by
 rw [qaa (C:=CP) Tryz.func188 rfl rfl Tryz.results188 qDW.1 rfl rfl (by kernel_rfl)]
 have ix:=qxd l name (by omega)
 rcases qcU (nmB name) l with ⟨i,hi,h1,h2,h3⟩|⟨h2,h3⟩
 ·rw [h3]at ix
  obtain ⟨s1,s2⟩:=qpY hi h2 h1
  simp -implicitDefEqProofs -dsimp +contextual (maxSteps:=9999999) (disch:=first | omega | simp only [go_sem]<;>omega | refine ib ?_;kernel_rfl) only [go_sem,seval,↓reduceIte,ix,hi]
  refine qeb (l.length - (i+1)) (fun m f H=>f 0= .osl 1 1 0 l.length∧f 1= .fn (.func 189) [] [.iptr [.str name]]∧f 5= .int .i64 ((qbc (l.take (i+1+m)) name).length:Nat)∧f 6= .int .i64 ((i+1+m:Nat):Int)∧H 1=⟨1,.live,8,(qid l name (i+1+m)).map Pr.cs,false⟩) ?_ ?_ ?_
  ·rintro m f H hm ⟨f0,f1,f5,f6,hH⟩ ih
   have hj:i+1+m<l.length:=by omega
   have row:((qid l name (i+1+m)).map Pr.cs)[i+1+m]?=some [.str l[i+1+m].e.name,.int .u64 (l[i+1+m].e.id:Int),.int .i64 l[i+1+m].e.fr,.int .i64 l[i+1+m].e.un,.int .i64 l[i+1+m].e.ix,.str l[i+1+m].e.tag,.int .i64 l[i+1+m].since,.int .i64 l[i+1+m].under]:=by
    rw [List.getElem?_map,qBm l name _ hj];rfl
   have hk:=qcB l name (i+1+m)
   have hd:=qnJ l name (i+1+m) (by omega)
   by_cases e:l[i+1+m].e.name=name
   ·have sk:=qtd l name _ hj e
    have hs:=qc8 l name _ hj
    rw [if_pos e,List.append_nil]at hs
    rw [sk]at hH row hd
    rw [←hs]at f5 hk
    generalize qid l name (i+1+m+1)=D at *
    generalize qbc (l.take (i+1+m+1)) name=P at *
    have e':=eq_true e
    simp -implicitDefEqProofs -dsimp +contextual (maxSteps:=9999999) (disch:=first | omega | simp only [go_sem]<;>omega | refine ib ?_;kernel_rfl) only [go_sem,seval,↓reduceIte,f0,f1,f5,f6,hH,hj,row,hd,e']
    exact ih _ _ ⟨f0,f1,f5,rfl,by simp [qac.set,hH]⟩
   ·have st:=qxe l name _ hj e
    have hs:=qc8 l name _ hj
    rw [if_neg e]at hs
    have hs2:(qbc (l.take (i+1+m+1)) name).length=(qbc (l.take (i+1+m)) name).length+1:=by rw [hs];simp
    have st2:((qid l name (i+1+m)).map Pr.cs).set (qbc (l.take (i+1+m)) name).length l[i+1+m].cs=(qid l name (i+1+m+1)).map Pr.cs:=by rw [←st,List.map_set]
    have e':=eq_false e
    simp -implicitDefEqProofs -dsimp +contextual (maxSteps:=9999999) (disch:=first | omega | simp only [go_sem]<;>omega | refine ib ?_;kernel_rfl) only [go_sem,seval,↓reduceIte,f0,f1,f5,f6,hH,hj,row,hd,e']
    refine ih _ _ ⟨f0,f1,?_,rfl,?_⟩
    ·rw [show i+1+(m+1)=i+1+m+1 from rfl,hs2];rfl
    ·rw [show i+1+(m+1)=i+1+m+1 from rfl,←st2];rfl
  ·rintro f H ⟨f0,f1,f5,f6,hH⟩
   have em:i+1+(l.length - (i+1))=l.length:=by omega
   rw [em,List.take_length]at f5
   rw [em]at hH f6
   have hd:=qnJ l name l.length (Nat.le_refl _)
   have dl:=qe3 l name
   have tk:(qid l name l.length).take (qbc l name).length=qbc l name:=by
    unfold qid
    rw [List.take_length,List.take_left]
   generalize qid l name l.length=D at *
   generalize hP:qbc l name=P at *
   have c1:¬P.length+(l.length - P.length)+(D.length - (P.length+(l.length - P.length)))<P.length:=by omega
   simp -implicitDefEqProofs -dsimp +contextual (maxSteps:=9999999) (disch:=first | omega | simp only [go_sem]<;>omega | refine ib ?_;kernel_rfl) only [go_sem,seval,↓reduceIte,f0,f1,f5,f6,hH,hd,dl,tk,c1]
   rw [if_pos (by omega)]
  ·exact ⟨rfl,rfl,by rw [Nat.add_zero,s2];rfl,rfl,by rw [Nat.add_zero,s1];rfl⟩
 ·rw [h3]at ix
  simp -implicitDefEqProofs -dsimp +contextual (maxSteps:=9999999) (disch:=first | omega | simp only [go_sem]<;>omega | refine ib ?_;kernel_rfl) only [go_sem,seval,↓reduceIte,ix]
  rw [qic h2]
@[go_sem] theorem qJ0 (l:List Pr) (name:List UInt8) (hl:l.length≤1000000):fn CP 188 [] [.usl 8 (l.map Pr.cs),.fn (.func 189) [] [.iptr [.str name]]]=some (.usl 8 ((qbc l name).map Pr.cs),[]):=qxf l name hl
theorem qte (l:List Pr) (name:List UInt8) (hl:l.length≤1000000):fn CP 124 [] [.slice 8 (l.map Pr.cs),.str name]=some (.usl 8 ((qbc l name).map Pr.cs),[]):=by
 rw [qaa (C:=CP) Tryz.func124 rfl rfl Tryz.results124 qDn.1 rfl rfl (by kernel_rfl)]
 simp -implicitDefEqProofs -dsimp +contextual (maxSteps:=9999999) (disch:=first | omega | simp only [go_sem]<;>omega | refine ib ?_;kernel_rfl) only [go_sem,seval,↓reduceIte]
def qnK (l:List Fg) (name:List UInt8) (i:Nat):List Fg:=(l.take i).map (qc9 name)++l.drop i
theorem qBn (l:List Fg) (name:List UInt8) (i:Nat) (h:i<l.length):(qnK l name i)[i]?=some l[i]:=by
 unfold qnK
 rw [List.getElem?_append_right (by simp;omega),List.length_map,List.length_take,Nat.min_eq_left (by omega),Nat.sub_self,List.getElem?_drop,Nat.add_zero,List.getElem?_eq_getElem h]
theorem qxg (l:List Fg) (name:List UInt8) (i:Nat) (h:i<l.length):(qnK l name i).set i (qc9 name l[i])=qnK l name (i+1):=by
 have hl:((l.take i).map (qc9 name)).length=i:=by rw [List.length_map,List.length_take];omega
 unfold qnK
 rw [List.set_append_right _ _ (by omega),hl,Nat.sub_self,List.drop_eq_getElem_cons h,List.set_cons_zero,qcz _ _ _ h,List.append_assoc];rfl
theorem qxh (l:List Fg) (name:List UInt8) (i:Nat) (h:i≤l.length):(qnK l name i).length=l.length:=by simp [qnK];omega
theorem qxi {α:Type} {l:List α} {i:Nat} {r:α} (h:l[i]?=some r):l.set i r=l:=by
 obtain ⟨hi,rfl⟩:=List.getElem?_eq_some_iff.1 h
 exact List.set_getElem_self hi
theorem qxj (l:List Fg) (name:List UInt8):qnK l name l.length=qgV l name:=by
 simp only [qnK,List.take_length,List.drop_length,List.append_nil];rfl
theorem qFA (l:List Fg) (name:List UInt8) (hl:l.length≤1000000):fn CP 125 [] [.slice 9 (l.map Fg.cs),.str name]=some (.slice 9 ((qgV l name).map Fg.cs),[]):=by
 rw [qaa (C:=CP) Tryz.func125 rfl rfl Tryz.results125 qDo.1 rfl rfl (by kernel_rfl)]
 have ok:=qH5 l
 simp -implicitDefEqProofs -dsimp +contextual (maxSteps:=9999999) (disch:=first | omega | simp only [go_sem]<;>omega | refine ib ?_;kernel_rfl) only [go_sem,seval,↓reduceIte,ok]
 refine qeb l.length (fun i f H=>f 1= .str name∧f 5= .osl 109 1 0 l.length∧f 10= .osl 109 1 0 l.length∧f 11= .int .i64 l.length∧f 12= .int .i64 (i:Nat)∧H 109=⟨1,.live,9,(qnK l name i).map Fg.cs,false⟩) ?_ ?_ (by exact ⟨rfl,rfl,rfl,rfl,rfl,rfl⟩)
 ·rintro i f H hi ⟨f1,f5,f10,f11,f12,hH⟩ ih
  have row:((qnK l name i).map Fg.cs)[i]?=some [.int .i64 l[i].bit,.str l[i].p.e.name,.int .u64 (l[i].p.e.id:Int),.int .i64 l[i].p.e.fr,.int .i64 l[i].p.e.un,.int .i64 l[i].p.e.ix,.str l[i].p.e.tag,.int .i64 l[i].p.since,.int .i64 l[i].p.under]:=by rw [List.getElem?_map,qBn l name i hi];rfl
  have hn:=qxh l name i (by omega)
  have st:((qnK l name i).map Fg.cs).set i (qc9 name l[i]).cs=(qnK l name (i+1)).map Fg.cs:=by rw [←qxg l name i hi,List.map_set]
  by_cases e:l[i].p.e.name=name
  ·rw [qc9,if_pos e]at st
   simp -implicitDefEqProofs -dsimp +contextual (maxSteps:=9999999) (disch:=first | omega | simp only [go_sem]<;>omega | refine ib ?_;kernel_rfl) only [go_sem,seval,↓reduceIte,f1,f5,f10,f11,f12,hH,hi,row,hn,e]
   exact ih _ _ ⟨f1,f5,f10,f11,rfl,by rw [←st];rfl⟩
  ·rw [qc9,if_neg e,qxi (show ((qnK l name i).map Fg.cs)[i]?=some l[i].cs from row)]at st
   simp -implicitDefEqProofs -dsimp +contextual (maxSteps:=9999999) (disch:=first | omega | simp only [go_sem]<;>omega | refine ib ?_;kernel_rfl) only [go_sem,seval,↓reduceIte,f1,f5,f10,f11,f12,hH,hi,row,hn,e]
   exact ih _ _ ⟨f1,f5,f10,f11,rfl,by rw [←st];simp [qac.set,hH]⟩
 ·rintro f H ⟨f1,f5,f10,f11,f12,hH⟩
  rw [qxj]at hH
  have hn:(qgV l name).length=l.length:=by simp [qgV]
  simp -implicitDefEqProofs -dsimp +contextual (maxSteps:=9999999) (disch:=first | omega | simp only [go_sem]<;>omega | refine ib ?_;kernel_rfl) only [go_sem,seval,↓reduceIte,f1,f5,f10,f11,f12,hH,hn]
end Go.Proofs.YtnpkhdjgedeppaaGreatDoor
namespace Go.Proofs.YtnpkhdjgedeppaaGreatDoor
set_option maxHeartbeats 64000000
open Go.Am
set_option linter.unusedSimpArgs false
set_option linter.unusedVariables false
set_option maxRecDepth 100000
attribute [local irreducible] qa7
def atP (me:En) (p:Pr):List Pr→Nat
 | []=>0
 | x::l=>if qdf me x p=true then atP me p l+1 else 0
def qGv (me:En) (l:List Pr) (p:Pr):List Pr:=l.take (atP me p l)++p::l.drop (atP me p l)
def qmS (me:En) (l:List Pr) (p:Pr):List Pr:=
 if p.e.name=me.name then l else if l.any (fun x=>decide (x.e=p.e))=true then l else (qGv me (qbc l p.e.name) p).take 7
theorem qnL (me:En) (p:Pr) (l:List Pr) (i:Nat) (hi:i≤l.length) (h:∀j (hj:j<l.length),j<i→qdf me l[j] p=true) (hn:∀hj:i<l.length,qdf me l[i] p=false):atP me p l=i:=by
 induction l generalizing i with
 | nil=>simp at hi;simp [atP,hi]
 | cons x r ih=>
  cases i with
  | zero=>have:=hn (by simp);simp at this;simp [atP,this]
  | succ i=>
   have h0:=h 0 (by simp) (by omega)
   simp at h0
   simp only [atP,h0,if_true]
   rw [ih i (by simpa using hi) (fun j hj hji=>h (j+1) (by simpa using hj) (by omega)) (fun hj=>hn (by simpa using hj))]
theorem qgf (x y:En):(x.name=y.name∧x.id=y.id∧x.fr=y.fr∧x.un=y.un∧x.ix=y.ix∧x.tag=y.tag)=(x=y):=propext (En.eq_iff x y).symm
def qtf (r:List Pr) (i:Nat) (p:Pr):List Pr:=r.take i++[p]++r.drop i
theorem qkJ (r:List Pr) (i:Nat) (p:Pr):(r.take i).map Pr.cs++[[.str p.e.name,.int .u64 (p.e.id:Int),.int .i64 p.e.fr,.int .i64 p.e.un,.int .i64 p.e.ix,.str p.e.tag,.int .i64 p.since,.int .i64 p.under]]++(r.drop i).map Pr.cs=(qtf r i p).map Pr.cs:=by
 rw [qtf,List.map_append,List.map_append];rfl
theorem qtg (r:List Pr) (p:Pr):r.map Pr.cs++[[.str p.e.name,.int .u64 (p.e.id:Int),.int .i64 p.e.fr,.int .i64 p.e.un,.int .i64 p.e.ix,.str p.e.tag,.int .i64 p.since,.int .i64 p.under]]=(qtf r r.length p).map Pr.cs:=by
 rw [qtf,List.take_length,List.drop_length,List.append_nil,List.map_append];rfl
theorem qgg (r:List Pr) (i:Nat) (p:Pr) (hi:i≤r.length):(qtf r i p).length=r.length+1:=by simp [qtf];omega
theorem qgh (me:En) (l:List Pr) (p:Pr) (i:Nat) (h1:¬p.e.name=me.name) (h2:l.any (fun x=>decide (x.e=p.e))=false) (ha:atP me p (qbc l p.e.name)=i) :
  qmS me l p=(qtf (qbc l p.e.name) i p).take 7:=by
 rw [qmS,if_neg h1,h2,if_neg (by simp),qGv,ha,qtf,List.append_assoc];rfl
theorem qfR (l:List Pr) (k:Nat):((l.map Pr.cs).take k).all qbN=true:=by rw [←List.map_take];exact qmN _
@[go_sem] theorem qMu (me:En) (l:List Pr) (p:Pr) (hl:l.length≤100000) (hm:me.id≤18446744073709551615) (hi:p.e.id≤18446744073709551615) (hn:p.e.name.length≤9223372036854775807) (hp:∀x∈l,x.e.id≤18446744073709551615∧x.e.name.length≤9223372036854775807):fn C 123 [] [.agg [.str me.name,.int .u64 (me.id:Int),.int .i64 me.fr,.int .i64 me.un,.int .i64 me.ix,.str me.tag],.slice 8 (l.map Pr.cs),.agg [.str p.e.name,.int .u64 (p.e.id:Int),.int .i64 p.e.fr,.int .i64 p.e.un,.int .i64 p.e.ix,.str p.e.tag,.int .i64 p.since,.int .i64 p.under]]=some (.slice 8 ((qmS me l p).map Pr.cs),[]):=by
 rw [qaa Tryz.func123 rfl rfl Tryz.results123 qDm.1 rfl rfl (by kernel_rfl)]
 by_cases h1:p.e.name=me.name
 ·have h1':=eq_true h1
  simp -implicitDefEqProofs -dsimp +contextual (maxSteps:=9999999) (disch:=first | omega | simp only [go_sem]<;>omega | refine ib ?_;kernel_rfl) only [go_sem,seval,↓reduceIte,h1']
  rw [qmS,if_pos h1]
 have h1':=eq_false h1
 have dr:=qHK l p.e.name (by omega)
 have dle:=qe3 l p.e.name
 have dm:∀x∈qbc l p.e.name,x.e.id≤18446744073709551615∧x.e.name.length≤9223372036854775807:=fun x hx=>hp x ((List.mem_filter.1 hx).1)
 simp -implicitDefEqProofs -dsimp +contextual (maxSteps:=9999999) (disch:=first | omega | simp only [go_sem]<;>omega | refine ib ?_;kernel_rfl) only [go_sem,seval,↓reduceIte,h1']
 refine qeb l.length (fun i f H=>f 1= .slice 8 (l.map Pr.cs)∧f 3= .ptr 103 1 0 0∧f 5= .ptr 105 1 0 0∧f 7= .int .i64 (i:Nat)∧H 103=⟨1,.live,6,[me.cs],false⟩∧H 105=⟨1,.live,8,[p.cs],false⟩∧(l.take i).any (fun x=>decide (x.e=p.e))=false) ?_ ?_ (by exact ⟨rfl,rfl,rfl,rfl,rfl,rfl,rfl⟩)
 ·rintro i f H hi ⟨f1,f3,f5,f7,H3,H5,ha⟩ ih
  have row:=qda l i hi
  have eqv:=qgf l[i].e p.e
  by_cases he:l[i].e=p.e
  ·rw [eq_true he]at eqv
   simp -implicitDefEqProofs -dsimp +contextual (maxSteps:=9999999) (disch:=first | omega | simp only [go_sem]<;>omega | refine ib ?_;kernel_rfl) only [go_sem,seval,↓reduceIte,f1,f3,f5,f7,H3,H5,hi,row,eqv]
   rw [qmS,if_neg h1,if_pos (qcT hi (decide_eq_true he))]
  ·rw [eq_false he]at eqv
   simp -implicitDefEqProofs -dsimp +contextual (maxSteps:=9999999) (disch:=first | omega | simp only [go_sem]<;>omega | refine ib ?_;kernel_rfl) only [go_sem,seval,↓reduceIte,f1,f3,f5,f7,H3,H5,hi,row,eqv]
   exact ih _ _ ⟨f1,f3,f5,rfl,H3,H5,qa5 hi ha (decide_eq_false he)⟩
 ·rintro f H ⟨f1,f3,f5,f7,H3,H5,ha⟩
  have ha:=qby ha
  simp -implicitDefEqProofs -dsimp +contextual (maxSteps:=9999999) (disch:=first | omega | simp only [go_sem]<;>omega | refine ib ?_;kernel_rfl) only [go_sem,seval,↓reduceIte,f1,f3,f5,f7,H3,H5,dr]
  generalize hr:qbc l p.e.name=r at *
  refine qeb r.length (fun i f H=>f 3= .ptr 103 1 0 0∧f 5= .ptr 105 1 0 0∧f 8= .slice 8 (r.map Pr.cs)∧f 9= .int .i64 (i:Nat)∧H 103=⟨1,.live,6,[me.cs],false⟩∧H 105=⟨1,.live,8,[p.cs],false⟩∧∀j (hj:j<r.length),j<i→qdf me r[j] p=true) ?_ ?_ (by exact ⟨f3,f5,rfl,rfl,H3,H5,fun j _ hj=>by omega⟩)
  ·rintro i f H hi ⟨f3,f5,f8,f9,H3,H5,hb⟩ ih
   have row:=qda r i hi
   have d1:=dm _ (List.getElem_mem hi)
   cases hA:qdf me r[i] p with
   | true=>
    simp -implicitDefEqProofs -dsimp +contextual (maxSteps:=9999999) (disch:=first | omega | simp only [go_sem]<;>omega | refine ib ?_;kernel_rfl) only [go_sem,seval,↓reduceIte,f3,f5,f8,f9,H3,H5,hi,row,d1,hA]
    refine ih _ _ ⟨f3,f5,f8,rfl,H3,H5,fun j hj hji=>?_⟩
    by_cases e:j=i
    ·subst e;exact hA
    ·exact hb j hj (by omega)
   | false=>
    have fin:=qgh me l p i h1 ha (by rw [hr];exact qnL me p r i (by omega) hb (fun _=>hA))
    rw [hr]at fin
    rw [fin]
    have hx:=qgg r i p (by omega)
    simp -implicitDefEqProofs -dsimp +contextual (maxSteps:=9999999) (disch:=first | omega | simp only [go_sem]<;>omega | refine ib ?_;kernel_rfl) only [go_sem,seval,↓reduceIte,f3,f5,f8,f9,H3,H5,hi,row,d1,hA]
    rw [qkJ]
    refine qae (fun h=>?_) (fun h=>?_)
    ·rw [if_pos (qfR _ _),List.map_take]
    ·rw [List.take_of_length_le (l:=qtf r i p) (by omega)]
  ·rintro f H ⟨f3,f5,f8,f9,H3,H5,hb⟩
   have fin:=qgh me l p r.length h1 ha (by rw [hr];exact qnL me p r r.length (Nat.le_refl _) hb (fun hj=>absurd hj (by omega)))
   rw [hr]at fin
   rw [fin]
   have hx:=qgg r r.length p (Nat.le_refl _)
   simp -implicitDefEqProofs -dsimp +contextual (maxSteps:=9999999) (disch:=first | omega | simp only [go_sem]<;>omega | refine ib ?_;kernel_rfl) only [go_sem,seval,↓reduceIte,f3,f5,f8,f9,H3,H5,Nat.lt_irrefl]
   rw [qtg]
   refine qae (fun h=>?_) (fun h=>?_)
   ·rw [if_pos (qfR _ _),List.map_take]
   ·rw [List.take_of_length_le (l:=qtf r r.length p) (by omega)]
@[go_sem] theorem qMv (x p:Pr):fn C 184 [] [.agg [.str x.e.name,.int .u64 (x.e.id:Int),.int .i64 x.e.fr,.int .i64 x.e.un,.int .i64 x.e.ix,.str x.e.tag,.int .i64 x.since,.int .i64 x.under],.iptr [.str p.e.name,.int .u64 (p.e.id:Int),.int .i64 p.e.fr,.int .i64 p.e.un,.int .i64 p.e.ix,.str p.e.tag,.int .i64 p.since,.int .i64 p.under]]=some (.bool (decide (x.e=p.e)),[]):=by
 rw [qaa Tryz.func184 rfl rfl Tryz.results184 qDT.1 rfl rfl (by kernel_rfl)]
 have eqv:=qgf x.e p.e
 simp -implicitDefEqProofs -dsimp +contextual (maxSteps:=9999999) (disch:=first | omega | simp only [go_sem]<;>omega | refine ib ?_;kernel_rfl) only [go_sem,seval,↓reduceIte,eqv]
def qx7 (p x:Pr):Bool:=decide (x.e=p.e)
@[go_sem] theorem qBo (l:List Pr) (p:Pr) (hl:l.length≤9223372036854775807):fn C 206 [] [.slice 8 (l.map Pr.cs),.fn (.func 184) [] [.iptr [.str p.e.name,.int .u64 (p.e.id:Int),.int .i64 p.e.fr,.int .i64 p.e.un,.int .i64 p.e.ix,.str p.e.tag,.int .i64 p.since,.int .i64 p.under]]]=some (.int .i64 (qde (qx7 p) l),[]):=by
 rw [qaa Tryz.func206 rfl rfl Tryz.results206 qAO.1 rfl rfl (by kernel_rfl)]
 simp -implicitDefEqProofs -dsimp +contextual (maxSteps:=9999999) (disch:=first | omega | simp only [go_sem]<;>omega | refine ib ?_;kernel_rfl) only [go_sem,seval,↓reduceIte]
 refine qeb l.length (fun i f H=>f 0= .slice 8 (l.map Pr.cs)∧f 1= .fn (.func 184) [] [.iptr [.str p.e.name,.int .u64 (p.e.id:Int),.int .i64 p.e.fr,.int .i64 p.e.un,.int .i64 p.e.ix,.str p.e.tag,.int .i64 p.since,.int .i64 p.under]]∧f 7= .int .i64 l.length∧f 8= .int .i64 (i:Nat)∧H=qac.nil∧(l.take i).any (qx7 p)=false) ?_ ?_ (by exact ⟨rfl,rfl,rfl,rfl,rfl,rfl⟩)
 ·rintro i f _ hi ⟨f0,f1,f7,f8,rfl,ha⟩ ih
  have row:=qda l i hi
  have e1:=qMv l[i] p
  by_cases h:l[i].e=p.e
  ·rw [decide_eq_true h]at e1
   simp -implicitDefEqProofs -dsimp +contextual (maxSteps:=9999999) (disch:=first | omega | simp only [go_sem]<;>omega | refine ib ?_;kernel_rfl) only [go_sem,seval,↓reduceIte,f0,f1,f7,f8,hi,row,e1]
   rw [qcp hi ha (by simp [qx7,h])]
  ·rw [decide_eq_false h]at e1
   simp -implicitDefEqProofs -dsimp +contextual (maxSteps:=9999999) (disch:=first | omega | simp only [go_sem]<;>omega | refine ib ?_;kernel_rfl) only [go_sem,seval,↓reduceIte,f0,f1,f7,f8,hi,row,e1]
   exact ih _ _ ⟨f0,f1,f7,rfl,rfl,qa5 hi ha (by simp [qx7,h])⟩
 ·rintro f _ ⟨f0,f1,f7,f8,rfl,ha⟩
  simp -implicitDefEqProofs -dsimp +contextual (maxSteps:=9999999) (disch:=first | omega | simp only [go_sem]<;>omega | refine ib ?_;kernel_rfl) only [go_sem,seval,↓reduceIte,f0,f1,f7,f8]
  rw [qbP (qby ha)]
@[go_sem] theorem qBp (l:List Pr) (p:Pr) (hl:l.length≤9223372036854775807):fn C 138 [] [.slice 8 (l.map Pr.cs),.fn (.func 184) [] [.iptr [.str p.e.name,.int .u64 (p.e.id:Int),.int .i64 p.e.fr,.int .i64 p.e.un,.int .i64 p.e.ix,.str p.e.tag,.int .i64 p.since,.int .i64 p.under]]]=some (.bool (l.any (qx7 p)),[]):=by
 rw [qaa Tryz.func138 rfl rfl Tryz.results138 qDu.1 rfl rfl (by kernel_rfl)]
 have e1:=qBo l p hl
 rcases qcU (qx7 p) l with ⟨j,hj,hq,hn,hp⟩|⟨hn,hp⟩
 ·rw [hp]at e1
  have ha:l.any (qx7 p)=true:=List.any_eq_true.2 ⟨_,List.getElem_mem hj,hq⟩
  rw [ha]
  simp -implicitDefEqProofs -dsimp +contextual (maxSteps:=9999999) (disch:=first | omega | simp only [go_sem]<;>omega | refine ib ?_;kernel_rfl) only [go_sem,seval,↓reduceIte,e1]
 ·rw [hp]at e1
  rw [hn]
  simp -implicitDefEqProofs -dsimp +contextual (maxSteps:=9999999) (disch:=first | omega | simp only [go_sem]<;>omega | refine ib ?_;kernel_rfl) only [go_sem,seval,↓reduceIte,e1]
@[go_sem] theorem qJ1 (ex ds):fn CP 138 ex ds=fn C 138 ex ds:=qxc _ (by decide) (by decide) (by decide) (by decide) ex ds
@[go_sem] theorem qGw (ex ds):fn CP 185 ex ds=fn C 185 ex ds:=qxc _ (by decide) (by decide) (by decide) (by decide) ex ds
theorem qFB (X:List Pr):List.take (if 7<X.length then (7:Int) else (X.length:Int)).toNat X=List.take 7 X:=by
 split
 ·rfl
 ·rename_i h
  rw [Int.toNat_natCast,List.take_of_length_le (Nat.le_refl _),List.take_of_length_le (by omega)]
theorem qJ2 (r:List Pr) (p:Pr) (i:Nat) (hi:i≤r.length) (hl:r.length≤100000):fn CP 186 [] [.usl 8 (r.map Pr.cs),.int .i64 (i:Nat),.usl 8 [[.str p.e.name,.int .u64 (p.e.id:Int),.int .i64 p.e.fr,.int .i64 p.e.un,.int .i64 p.e.ix,.str p.e.tag,.int .i64 p.since,.int .i64 p.under]]]=some (.slice 8 ((qtf r i p).map Pr.cs),[]):=by
 rw [qIt]
 simp only [gu]
 rw [if_pos ⟨by omega,by simpa using hi⟩,if_pos (by rw [List.length_map];omega),if_pos ⟨qsX r,qmN r⟩,if_pos ⟨rfl,qsX [p],qmN [p]⟩,←qkJ]
 simp
theorem qIu (me:En) (l:List Pr) (p:Pr) (hl:l.length≤100000) (hm:me.id≤18446744073709551615) (hi:p.e.id≤18446744073709551615) (hn:p.e.name.length≤9223372036854775807) (hp:∀x∈l,x.e.id≤18446744073709551615∧x.e.name.length≤9223372036854775807):fn CP 122 [] [.agg [.str me.name,.int .u64 (me.id:Int),.int .i64 me.fr,.int .i64 me.un,.int .i64 me.ix,.str me.tag],.slice 8 (l.map Pr.cs),.agg [.str p.e.name,.int .u64 (p.e.id:Int),.int .i64 p.e.fr,.int .i64 p.e.un,.int .i64 p.e.ix,.str p.e.tag,.int .i64 p.since,.int .i64 p.under]]=some (.slice 8 ((qmS me l p).map Pr.cs),[]):=by
 rw [qaa (C:=CP) Tryz.func122 rfl rfl Tryz.results122 qDl.1 rfl rfl (by kernel_rfl)]
 by_cases h1:p.e.name=me.name
 ·have h1':=eq_true h1
  simp -implicitDefEqProofs -dsimp +contextual (maxSteps:=9999999) (disch:=first | omega | simp only [go_sem]<;>omega | refine ib ?_;kernel_rfl) only [go_sem,seval,↓reduceIte,h1']
  rw [qmS,if_pos h1]
 have h1':=eq_false h1
 have hc:=qBp l p (Nat.le_trans hl (by decide))
 cases hq:l.any (qx7 p)with
 | true=>
  rw [hq]at hc
  simp -implicitDefEqProofs -dsimp +contextual (maxSteps:=9999999) (disch:=first | omega | simp only [go_sem]<;>omega | refine ib ?_;kernel_rfl) only [go_sem,seval,↓reduceIte,h1',hc]
  have hq':l.any (fun x=>decide (x.e=p.e))=true:=hq
  rw [qmS,if_neg h1,if_pos hq']
 | false=>
  rw [hq]at hc
  have dr:=qte l p.e.name (by omega)
  have dle:=qe3 l p.e.name
  have dm:∀x∈qbc l p.e.name,x.e.id≤18446744073709551615∧x.e.name.length≤9223372036854775807:=fun x hx=>hp x ((List.mem_filter.1 hx).1)
  have hq':l.any (fun x=>decide (x.e=p.e))=false:=hq
  simp -implicitDefEqProofs -dsimp +contextual (maxSteps:=9999999) (disch:=first | omega | simp only [go_sem]<;>omega | refine ib ?_;kernel_rfl) only [go_sem,seval,↓reduceIte,h1',hc,dr]
  generalize hr:qbc l p.e.name=r at *
  refine qeb r.length (fun i f H=>f 3= .ptr 103 1 0 0∧f 5= .ptr 105 1 0 0∧f 8= .osl 128 1 0 r.length∧f 9= .int .i64 (i:Nat)∧H 103=⟨1,.live,6,[me.cs],false⟩∧H 105=⟨1,.live,8,[p.cs],false⟩∧H 128=⟨1,.live,8,r.map Pr.cs,false⟩∧∀j (hj:j<r.length),j<i→qdf me r[j] p=true) ?_ ?_ (by exact ⟨rfl,rfl,rfl,rfl,rfl,rfl,rfl,fun j _ hj=>by omega⟩)
  ·rintro i f H hlt ⟨f3,f5,f8,f9,H3,H5,H8,hb⟩ ih
   have row:=qda r i hlt
   have d1:=dm _ (List.getElem_mem hlt)
   have e1:=qMS me r[i] p hm d1.1 hi
   cases hA:qdf me r[i] p with
   | true=>
    rw [hA]at e1
    simp -implicitDefEqProofs -dsimp +contextual (maxSteps:=9999999) (disch:=first | omega | simp only [go_sem]<;>omega | refine ib ?_;kernel_rfl) only [go_sem,seval,↓reduceIte,f3,f5,f8,f9,H3,H5,H8,hlt,row,e1]
    refine ih _ _ ⟨f3,f5,f8,rfl,H3,H5,H8,fun j hj hji=>?_⟩
    by_cases e:j=i
    ·subst e;exact hA
    ·exact hb j hj (by omega)
   | false=>
    rw [hA]at e1
    have fin:=qgh me l p i h1 hq' (by rw [hr];exact qnL me p r i (by omega) hb (fun _=>hA))
    rw [hr]at fin
    rw [fin]
    have hx:=qgg r i p (by omega)
    have e2:=qJ2 r p i (by omega) (by omega)
    simp -implicitDefEqProofs -dsimp +contextual (maxSteps:=9999999) (disch:=first | omega | simp only [go_sem]<;>omega | refine ib ?_;kernel_rfl) only [go_sem,seval,↓reduceIte,f3,f5,f8,f9,H3,H5,H8,hlt,row,e1,e2]
    rw [qFB]
  ·rintro f H ⟨f3,f5,f8,f9,H3,H5,H8,hb⟩
   have fin:=qgh me l p r.length h1 hq' (by rw [hr];exact qnL me p r r.length (Nat.le_refl _) hb (fun hj=>absurd hj (by omega)))
   rw [hr]at fin
   rw [fin]
   have hx:=qgg r r.length p (Nat.le_refl _)
   have e2:=qJ2 r p r.length (Nat.le_refl _) (by omega)
   simp -implicitDefEqProofs -dsimp +contextual (maxSteps:=9999999) (disch:=first | omega | simp only [go_sem]<;>omega | refine ib ?_;kernel_rfl) only [go_sem,seval,↓reduceIte,f3,f5,f8,f9,H3,H5,H8,Nat.lt_irrefl,e2]
   rw [qFB]
end Go.Proofs.YtnpkhdjgedeppaaGreatDoor
namespace Go.Proofs.YtnpkhdjgedeppaaGreatDoor
set_option maxHeartbeats 64000000
open Go.Am
set_option linter.unusedSimpArgs false
set_option linter.unusedVariables false
set_option maxRecDepth 100000
def qaf (n:Nd) (from_:En):Nd:=if qcn n.gateI n.gateK from_ n.clock=0 then { n with list:=qmS n.me n.list (qbr n.gateI n.gateK from_ n.clock) } else n
def qao (n:Nd) (name:List UInt8):Nd:={ n with list:=qbc n.list name,pred:=qbc n.pred name,fingers:=qgV n.fingers name }
def qiU (n:Nd) (key:List UInt8):Bool:=decide (qbE n.me n.list (qtI key)=n.me)
def qdB (n:Nd):List En:=(n.pred.take 1).map Pr.e++n.list.map Pr.e
def qg5 (n:Nd):Bool:=decide (0<n.pred.length)
def qg6 (n:Nd) (from_:En):Bool:=match n.pred with
 | []=>true
 | p::_=>decide (p.e.name=from_.name)|| qds p.e.id from_.id n.me.id
def qaE (n:Nd) (from_:En):Nd:=if qcn n.gateI n.gateK from_ n.clock=0 then if qg6 n from_=true then { n with pred:=[qbr n.gateI n.gateK from_ n.clock] } else n else n
def qaM (kind:Int):Int:=if kind=1∨kind=5∨kind=16 then 2 else if kind=3∨kind=6∨kind=8∨kind=10∨kind=12∨kind=14 then kind+1 else 0
def qct (to:En) (r:Ms):List Ac:=[⟨true,to,r,0,0⟩]
def qd7 (n:Nd) (key:List UInt8):Int:=if n.ready=true then if qiU n key=true then 0 else 40 else 41
def qBq (r:Ms) (q:It×Bool):Ms:=if q.2=true then { r with has:=true,val:=q.1.v,ver:=q.1.n,gone:=q.1.g } else r
def qbj (h:Nd) (from_:En) (m r:Ms):Nd×List Ac:=
 if m.kind=3 then (h,qct from_ { r with ents:=qdB h,has:=qg5 h })
 else if m.kind=5 then (qaE h from_,qct from_ r)
 else if m.kind=6 then (h,qct from_ { r with ents:=[qbE h.me h.list m.id] })
 else if m.kind=8 then if qd7 h m.key=0 then qdX h m.key m.val m.gone from_ m.rid 0 else (h,qct from_ { r with err:=qd7 h m.key })
 else if m.kind=10 then if qd7 h m.key=0 then (h,qct from_ (qBq r (qdE h.items m.key))) else (h,qct from_ { r with err:=qd7 h m.key })
 else if m.kind=12 then ({ h with items:=(qa0 h.items m.items).1 },qct from_ { r with err:=(qa0 h.items m.items).2 })
 else if m.kind=14 then if h.ready=true then (h,qct from_ { r with items:=(h.items.filter (inR m.id from_.id)).take 16 }) else (h,qct from_ { r with err:=41 })
 else (h,qct from_ r)
def qaz (n:Nd) (from_:En) (m:Ms):Nd×List Ac:=
 if qaM m.kind=0 then (n,[]) else if from_.name=n.me.name then (n,[])
 else if m.kind=16 then (qao n from_.name,qct from_ { msZ with kind:=2,rid:=m.rid })
 else qbj (qaf n from_) from_ m { msZ with kind:=qaM m.kind,rid:=m.rid }
structure En.fine (e:En):Prop where
 ok:e.ok
 n:e.name.length≤10000
 t:e.tag.length≤10000
structure Nd.fine (n:Nd):Prop where
 me:n.me.id≤18446744073709551615
 gk:n.gateK.length≤10000
 ll:n.list.length≤100000
 pl:n.pred.length≤100000
 fl:n.fingers.length≤100000
 li:∀p∈n.list,p.e.id≤18446744073709551615∧p.e.name.length≤9223372036854775807
 pi:∀p∈n.pred,p.e.id≤18446744073709551615
end Go.Proofs.YtnpkhdjgedeppaaGreatDoor
namespace Go.Proofs.YtnpkhdjgedeppaaGreatDoor
set_option maxHeartbeats 64000000
open Go.Am
set_option linter.unusedSimpArgs false
set_option linter.unusedVariables false
set_option maxRecDepth 100000
attribute [local irreducible] qa7 idB qdF
theorem qd8 (gi:Int) (gk:List UInt8) (e:En) (now:Int) (h:qcn gi gk e now=0):qbr gi gk e now=⟨e,now,gi⟩:=by rw [qbr,if_pos h]
@[go_sem] theorem e35 (n:Nd) (e:En) (h:n.fine) (he:e.fine):fn C 35 [] [(aNd n),.agg [.str e.name,.int .u64 (e.id:Int),.int .i64 e.fr,.int .i64 e.un,.int .i64 e.ix,.str e.tag]]=some (.agg [.str (qaf n e).me.name,.int .u64 ((qaf n e).me.id:Int),.int .i64 (qaf n e).me.fr,.int .i64 (qaf n e).me.un,.int .i64 (qaf n e).me.ix,.str (qaf n e).me.tag,.int .i64 (qaf n e).clock,.str (qaf n e).psk,.int .i64 (qaf n e).gateI,.str (qaf n e).gateK,.bool (qaf n e).ready,.slice 8 ((qaf n e).pred.map Pr.cs),.slice 8 ((qaf n e).list.map Pr.cs),.slice 9 ((qaf n e).fingers.map Fg.cs),.slice 20 ((qaf n e).sessions.map Se.cs),.slice 23 ((qaf n e).pends.map Pd.cs),.slice 4 ((qaf n e).items.map It.cs),.slice 29 ((qaf n e).jobs.map Jb.cs),.int .i64 (qaf n e).rid,.int .i64 (qaf n e).jobId,.slice 1 ((qaf n e).draws.map qaw),.slice 8 ((qaf n e).results.map Rs.cs)],[]):=by
 rw [qaa Tryz.func35 rfl rfl Tryz.results35 qI7.1 rfl rfl (by kernel_rfl)]
 have e1:=qJG n.gateI n.gateK e n.clock he.ok he.n he.t h.gk
 rw [qaf]
 by_cases hv:qcn n.gateI n.gateK e n.clock=0
 ·have tk:=qd8 _ _ _ _ hv
  rw [hv,tk]at e1
  have e2:=qMu n.me n.list ⟨e,n.clock,n.gateI⟩ h.ll h.me he.ok.id (Nat.le_trans he.n (by decide)) h.li
  rw [if_pos hv,tk]
  simp -implicitDefEqProofs -dsimp +contextual (maxSteps:=9999999) (disch:=first | omega | simp only [go_sem]<;>omega | refine ib ?_;kernel_rfl) only [go_sem,seval,↓reduceIte,e1,e2]
 ·have hv':=eq_false hv
  simp -implicitDefEqProofs -dsimp +contextual (maxSteps:=9999999) (disch:=first | omega | simp only [go_sem]<;>omega | refine ib ?_;kernel_rfl) only [go_sem,seval,↓reduceIte,e1,hv']
@[go_sem] theorem e37 (n:Nd) (name:List UInt8) (h:n.fine):fn C 37 [] [(aNd n),.str name]=some (.agg [.str (qao n name).me.name,.int .u64 ((qao n name).me.id:Int),.int .i64 (qao n name).me.fr,.int .i64 (qao n name).me.un,.int .i64 (qao n name).me.ix,.str (qao n name).me.tag,.int .i64 (qao n name).clock,.str (qao n name).psk,.int .i64 (qao n name).gateI,.str (qao n name).gateK,.bool (qao n name).ready,.slice 8 ((qao n name).pred.map Pr.cs),.slice 8 ((qao n name).list.map Pr.cs),.slice 9 ((qao n name).fingers.map Fg.cs),.slice 20 ((qao n name).sessions.map Se.cs),.slice 23 ((qao n name).pends.map Pd.cs),.slice 4 ((qao n name).items.map It.cs),.slice 29 ((qao n name).jobs.map Jb.cs),.int .i64 (qao n name).rid,.int .i64 (qao n name).jobId,.slice 1 ((qao n name).draws.map qaw),.slice 8 ((qao n name).results.map Rs.cs)],[]):=by
 rw [qaa Tryz.func37 rfl rfl Tryz.results37 qI9.1 rfl rfl (by kernel_rfl)]
 have e1:=qHK n.list name (Nat.le_trans h.ll (by decide))
 have e2:=qHK n.pred name (Nat.le_trans h.pl (by decide))
 have e3:=qLL n.fingers name (Nat.le_trans h.fl (by decide))
 simp -implicitDefEqProofs -dsimp +contextual (maxSteps:=9999999) (disch:=first | omega | simp only [go_sem]<;>omega | refine ib ?_;kernel_rfl) only [go_sem,seval,↓reduceIte,e1,e2,e3,qao]
theorem qth (k:List UInt8):qtI k≤18446744073709551615:=qtA _
@[go_sem] theorem e39 (n:Nd) (key:List UInt8) (h:n.fine) (hk:key.length≤10000):fn C 39 [] [(aNd n),.str key]=some (.bool (qiU n key),[]):=by
 rw [qaa Tryz.func39 rfl rfl Tryz.results39 qJb.1 rfl rfl (by kernel_rfl)]
 have e1:=e96 key hk
 have e2:=qJF n.me n.list (qtI key) (qth key) h.me (Nat.le_trans h.ll (by decide)) (fun p hp=>(h.li p hp).1)
 have e3:=qgf (qbE n.me n.list (qtI key)) n.me
 rw [qtI]at e2 e3
 rw [qiU,qtI]
 simp -implicitDefEqProofs -dsimp +contextual (maxSteps:=9999999) (disch:=first | omega | simp only [go_sem]<;>omega | refine ib ?_;kernel_rfl) only [go_sem,seval,↓reduceIte,e1,e2,e3]
@[go_sem] theorem e33 (n:Nd) (h:n.fine):fn C 33 [] [(aNd n)]=some (.tup [.slice 6 ((qdB n).map En.cs),.bool (qg5 n)],[]):=by
 rw [qaa Tryz.func33 rfl rfl Tryz.results33 qI5.1 rfl rfl (by kernel_rfl)]
 have e1:=qLK n.list (Nat.le_trans h.ll (by decide))
 have hl:=h.ll
 rw [qdB,qg5]
 cases hp:n.pred with
 | nil=>simp -implicitDefEqProofs -dsimp +contextual (maxSteps:=9999999) (disch:=first | omega | simp only [go_sem]<;>omega | refine ib ?_;kernel_rfl) only [go_sem,seval,↓reduceIte,e1,hp]
 | cons p l=>
  simp -implicitDefEqProofs -dsimp +contextual (maxSteps:=9999999) (disch:=first | omega | simp only [go_sem]<;>omega | refine ib ?_;kernel_rfl) only [go_sem,seval,↓reduceIte,e1,hp]
  rw [show decide (0<l.length+1)=true from decide_eq_true (Nat.succ_pos _)]
end Go.Proofs.YtnpkhdjgedeppaaGreatDoor
namespace Go.Proofs.YtnpkhdjgedeppaaGreatDoor
set_option maxHeartbeats 64000000
open Go.Am
set_option linter.unusedSimpArgs false
set_option linter.unusedVariables false
set_option maxRecDepth 100000
noncomputable def qBr:Own:=fun f=>if f∈[124,122,125] then some (fun ex ds=>fn CP f ex ds)
 else if f∈[34,36,30,169,170,171,172,173,174,175,176,108,110,6,5,29] then none
 else some (fun ex ds=>fn C2 f ex ds)
theorem qBs:qgN E qBr:=by
 intro f g ex ds q hf hg
 unfold qBr at hf
 split at hf
 ·simp only [aNd,Option.some.injEq]at hf
  subst hf
  exact qam qbb qBl hg
 ·split at hf
  ·cases hf
  ·simp only [aNd,Option.some.injEq]at hf
   subst hf
   exact qam qbb qAY hg
noncomputable def C3:Cf:=⟨E,M,qBr⟩
@[go_sem] theorem qNP:C3.E=E:=rfl
@[go_sem] theorem qNQ:C3.M=M:=rfl
theorem qxk (f:FuncId) (h:f∈[124,122,125]) (ex ds):fn C3 f ex ds=fn CP f ex ds:=
 qbC (g:=fun ex ds=>fn CP f ex ds) (by show qBr f=_;unfold qBr;rw [if_pos h]) ex ds
theorem qf3 (f:FuncId) (h1:f∉[124,122,125]) (h2:f∉[34,36,30,169,170,171,172,173,174,175,176,108,110,6,5,29]) (ex ds):fn C3 f ex ds=fn C2 f ex ds:=
 qbC (g:=fun ex ds=>fn C2 f ex ds) (by show qBr f=_;unfold qBr;rw [if_neg h1,if_neg h2]) ex ds
theorem qdd (n:Nd) (h:n.mid 1000000):fn C3 13 [] [(aNd n)]=some (.agg [.str n.me.name,.int .u64 (n.me.id:Int),.int .i64 n.me.fr,.int .i64 n.me.un,.int .i64 n.me.ix,.str n.me.tag,.int .i64 n.clock,.str n.psk,.int .i64 n.gateI,.str n.gateK,.bool n.ready,.slice 8 (n.pred.map Pr.cs),.slice 8 (n.list.map Pr.cs),.slice 9 (n.fingers.map Fg.cs),.usl 20 (n.sessions.map Se.cs),.usl 23 (n.pends.map Pd.cs),.slice 4 (n.items.map It.cs),.usl 29 (n.jobs.map Jb.cs),.int .i64 n.rid,.int .i64 n.jobId,.slice 1 (n.draws.map qaw),.usl 8 (n.results.map Rs.cs)],[]):=
 (qf3 13 (by decide) (by decide) [] [(aNd n)]).trans ((qsJ 13 (by decide) [] [(aNd n)]).trans (e13 n h))
theorem qBt (n:Nd) (name:List UInt8) (h:n.mid 100000):fn C3 36 [] [(aNd n),.str name]=some (.agg [.str (qao n name).me.name,.int .u64 ((qao n name).me.id:Int),.int .i64 (qao n name).me.fr,.int .i64 (qao n name).me.un,.int .i64 (qao n name).me.ix,.str (qao n name).me.tag,.int .i64 (qao n name).clock,.str (qao n name).psk,.int .i64 (qao n name).gateI,.str (qao n name).gateK,.bool (qao n name).ready,.slice 8 ((qao n name).pred.map Pr.cs),.slice 8 ((qao n name).list.map Pr.cs),.slice 9 ((qao n name).fingers.map Fg.cs),.slice 20 ((qao n name).sessions.map Se.cs),.slice 23 ((qao n name).pends.map Pd.cs),.slice 4 ((qao n name).items.map It.cs),.slice 29 ((qao n name).jobs.map Jb.cs),.int .i64 (qao n name).rid,.int .i64 (qao n name).jobId,.slice 1 ((qao n name).draws.map qaw),.slice 8 ((qao n name).results.map Rs.cs)],[]):=by
 rw [qaa (C:=C3) Tryz.func36 rfl rfl Tryz.results36 qI8.1 rfl rfl (by kernel_rfl)]
 have e0:=qdd n (h.le (by omega))
 have e1:=(qxk 124 (by decide) [] [.slice 8 (n.list.map Pr.cs),.str name]).trans (qte n.list name (Nat.le_trans h.ll (by decide)))
 have e2:=(qxk 124 (by decide) [] [.slice 8 (n.pred.map Pr.cs),.str name]).trans (qte n.pred name (Nat.le_trans h.pl (by decide)))
 have e3:=(qxk 125 (by decide) [] [.slice 9 (n.fingers.map Fg.cs),.str name]).trans (qFA n.fingers name (Nat.le_trans h.fl (by decide)))
 simp -implicitDefEqProofs -dsimp +contextual (maxSteps:=9999999) (disch:=first | omega | simp only [go_sem]<;>omega | refine ib ?_;kernel_rfl) only [go_sem,seval,↓reduceIte,e0,e1,e2,e3,qao]
 trace_state
theorem qfS (n:Nd) (e:En) (h:n.mid 100000) (hf:n.fine) (he:e.fine):fn C3 34 [] [(aNd n),.agg [.str e.name,.int .u64 (e.id:Int),.int .i64 e.fr,.int .i64 e.un,.int .i64 e.ix,.str e.tag]]=some (.agg [.str (qaf n e).me.name,.int .u64 ((qaf n e).me.id:Int),.int .i64 (qaf n e).me.fr,.int .i64 (qaf n e).me.un,.int .i64 (qaf n e).me.ix,.str (qaf n e).me.tag,.int .i64 (qaf n e).clock,.str (qaf n e).psk,.int .i64 (qaf n e).gateI,.str (qaf n e).gateK,.bool (qaf n e).ready,.slice 8 ((qaf n e).pred.map Pr.cs),.slice 8 ((qaf n e).list.map Pr.cs),.slice 9 ((qaf n e).fingers.map Fg.cs),.slice 20 ((qaf n e).sessions.map Se.cs),.slice 23 ((qaf n e).pends.map Pd.cs),.slice 4 ((qaf n e).items.map It.cs),.slice 29 ((qaf n e).jobs.map Jb.cs),.int .i64 (qaf n e).rid,.int .i64 (qaf n e).jobId,.slice 1 ((qaf n e).draws.map qaw),.slice 8 ((qaf n e).results.map Rs.cs)],[]):=by
 rw [qaa (C:=C3) Tryz.func34 rfl rfl Tryz.results34 qI6.1 rfl rfl (by kernel_rfl)]
 have e0:=qdd n (h.le (by omega))
 have e1:=((qf3 45 (by decide) (by decide) _ _).trans (qsJ _ (by decide) _ _)).trans (e45 n.gateI n.gateK e n.clock he.ok he.n he.t hf.gk)
 rw [qaf]
 by_cases hv:qcn n.gateI n.gateK e n.clock=0
 ·have tk:=qd8 _ _ _ _ hv
  rw [hv,tk]at e1
  have e2:=(qxk 122 (by decide) _ _).trans (qIu n.me n.list ⟨e,n.clock,n.gateI⟩ hf.ll hf.me he.ok.id (Nat.le_trans he.n (by decide)) hf.li)
  rw [if_pos hv,tk]
  simp -implicitDefEqProofs -dsimp +contextual (maxSteps:=9999999) (disch:=first | omega | simp only [go_sem]<;>omega | refine ib ?_;kernel_rfl) only [go_sem,seval,↓reduceIte,e0,e1,e2]
 ·have hv':=eq_false hv
  simp -implicitDefEqProofs -dsimp +contextual (maxSteps:=9999999) (disch:=first | omega | simp only [go_sem]<;>omega | refine ib ?_;kernel_rfl) only [go_sem,seval,↓reduceIte,e0,e1,hv']
end Go.Proofs.YtnpkhdjgedeppaaGreatDoor
namespace Go.Proofs.YtnpkhdjgedeppaaGreatDoor
set_option maxHeartbeats 64000000
open Go.Am
set_option linter.unusedSimpArgs false
set_option linter.unusedVariables false
set_option maxRecDepth 100000
attribute [local irreducible] qa7 idB qdF
@[go_sem] theorem qti (k:Int):fn C 107 [] [.int .i64 k]=some (.int .i64 (qaM k),[]):=by
 by_cases h:k=1∨k=3∨k=5∨k=6∨k=8∨k=10∨k=12∨k=14∨k=16
 ·rcases h with rfl | rfl | rfl | rfl | rfl | rfl | rfl | rfl | rfl<;>(rw [qaa Tryz.func107 rfl rfl Tryz.results107 qAJ.1 rfl rfl (by kernel_rfl)];simp -implicitDefEqProofs -dsimp +contextual (maxSteps:=9999999) (disch:=first | omega | simp only [go_sem]<;>omega | refine ib ?_;kernel_rfl) only [go_sem,seval,↓reduceIte];try rfl)
 ·simp only [not_or]at h
  obtain ⟨h1,h3,h5,h6,h8,h10,h12,h14,h16⟩:=h
  have ek:qaM k=0:=by unfold qaM;simp [*]
  rw [ek]
  rw [qaa Tryz.func107 rfl rfl Tryz.results107 qAJ.1 rfl rfl (by kernel_rfl)]
  simp -implicitDefEqProofs -dsimp +contextual (maxSteps:=9999999) (disch:=first | omega | simp only [go_sem]<;>omega | refine ib ?_;kernel_rfl) only [go_sem,seval,↓reduceIte,h1,h3,h5,h6,h8,h10,h12,h14,h16]
@[go_sem] theorem qtL (k:Int):fn C 111 [] [.int .i64 k]=some (.int .i64 (qaM k),[]):=by
 by_cases h0:k<0
 ·have ek:qaM k=0:=by unfold qaM;rw [if_neg (by omega),if_neg (by omega)]
  rw [ek]
  rw [qaa Tryz.func111 rfl rfl Tryz.results111 qwA.1 rfl rfl (by kernel_rfl)]
  simp -implicitDefEqProofs -dsimp +contextual (maxSteps:=9999999) (disch:=first | omega | simp only [go_sem]<;>omega | refine ib ?_;kernel_rfl) only [go_sem,seval,↓reduceIte,h0]
 by_cases h1:16<k
 ·have ek:qaM k=0:=by unfold qaM;rw [if_neg (by omega),if_neg (by omega)]
  rw [ek]
  rw [qaa Tryz.func111 rfl rfl Tryz.results111 qwA.1 rfl rfl (by kernel_rfl)]
  simp -implicitDefEqProofs -dsimp +contextual (maxSteps:=9999999) (disch:=first | omega | simp only [go_sem]<;>omega | refine ib ?_;kernel_rfl) only [go_sem,seval,↓reduceIte,h0,h1]
 have hk:k=0∨k=1∨k=2∨k=3∨k=4∨k=5∨k=6∨k=7∨k=8∨k=9∨k=10∨k=11∨k=12∨k=13∨k=14∨k=15∨k=16:=by omega
 clear h0 h1
 rcases hk with rfl | rfl | rfl | rfl | rfl | rfl | rfl | rfl | rfl | rfl | rfl | rfl | rfl | rfl | rfl | rfl | rfl<;>(rw [qaa Tryz.func111 rfl rfl Tryz.results111 qwA.1 rfl rfl (by kernel_rfl)];simp -implicitDefEqProofs -dsimp +contextual (maxSteps:=9999999) (disch:=first | omega | simp only [go_sem]<;>omega | refine ib ?_;kernel_rfl) only [go_sem,seval,↓reduceIte];try rfl)
structure AnsOk (n:Nd) (e:En) (m:Ms):Prop where
 md:n.mid 80000
 f:n.fine
 e:e.fine
 key:m.key.length≤10000
 val:m.val.length≤9223372036854775807
 clock:0≤n.clock∧n.clock≤1099511627776
 jobId:I64 n.jobId
 il:m.items.length≤1000000
 ik:∀x∈m.items,x.k.length≤9223372036854775807
 id:m.id≤18446744073709551615
 nk:∀x∈n.items,x.k.length≤10000
theorem qnM {me:En} {l:List Pr} {p x:Pr} (h:x∈qmS me l p):x∈l∨x=p:=by
 unfold qmS at h
 split at h
 ·exact .inl h
 ·split at h
  ·exact .inl h
  ·have h:=List.mem_of_mem_take h
   rw [qGv]at h
   rcases List.mem_append.1 h with h | h
   ·exact .inl (List.mem_filter.1 (List.mem_of_mem_take h)).1
   ·rcases List.mem_cons.1 h with h | h
    ·exact .inr h
    ·exact .inl (List.mem_filter.1 (List.mem_of_mem_drop h)).1
theorem qg7 (l:List Pr) (name:List UInt8):(qbc l name).length≤l.length:=List.length_filter_le _ _
theorem qnN (me:En) (l:List Pr) (p:Pr):(qmS me l p).length≤l.length+1:=by
 unfold qmS
 split
 ·omega
 ·split
  ·omega
  ·have:=qg7 l p.e.name
   rw [qGv]
   simp only [List.length_take,List.length_append,List.length_cons,List.length_drop]
   omega
theorem qaR {n:Nd} {k:Nat} (e:En) (h:n.mid k):(qaf n e).mid (k+1):=by
 have m:=h.le (Nat.le_succ k)
 have hl:=qnN n.me n.list (qbr n.gateI n.gateK e n.clock)
 have hll:=h.ll
 unfold qaf
 split
 ·exact ⟨m.pl,by show (qmS _ _ _).length≤_;omega,m.fl,m.sl,m.dl,m.il,m.jl,m.wl,m.rl,m.pe,m.pi,m.ja,m.ik⟩
 ·exact m
theorem qaL {n:Nd} {e:En} (h:n.fine) (he:e.fine) (hl:n.list.length<100000):(qaf n e).fine:=by
 have hl':=qnN n.me n.list (qbr n.gateI n.gateK e n.clock)
 unfold qaf
 split
 ·rename_i hv
  refine ⟨h.me,h.gk,by show (qmS _ _ _).length≤_;omega,h.pl,h.fl,fun p hp=>?_,h.pi⟩
  rcases qnM hp with hp | rfl
  ·exact h.li p hp
  ·rw [qd8 _ _ _ _ hv];exact ⟨he.ok.id,Nat.le_trans he.n (by decide)⟩
 ·exact h
theorem qaA (n:Nd) (e:En):∃l,qaf n e={ n with list:=l }:=by
 unfold qaf;split
 ·exact ⟨_,rfl⟩
 ·exact ⟨n.list,rfl⟩
theorem qiV {n:Nd} {e:En} {m:Ms} (h:qaM m.kind=0):qaz n e m=(n,[]):=by rw [qaz,if_pos h]
theorem qnO {n:Nd} {e:En} {m:Ms} (h:e.name=n.me.name):qaz n e m=(n,[]):=by rw [qaz];split<;>simp [h]
theorem qkK {n:Nd} {e:En} {m:Ms} (h:¬e.name=n.me.name) (k:m.kind=16):qaz n e m=(qao n e.name,qct e { msZ with kind:=2,rid:=m.rid }):=by
 rw [qaz,if_neg (by rw [k];decide),if_neg h,if_pos k]
theorem qba {n:Nd} {e:En} {m:Ms} (h0:¬qaM m.kind=0) (h:¬e.name=n.me.name) (k:¬m.kind=16):qaz n e m=qbj (qaf n e) e m { msZ with kind:=qaM m.kind,rid:=m.rid }:=by
 rw [qaz,if_neg h0,if_neg h,if_neg k]
theorem qie {k:Int} (h:¬qaM k=0):k=1∨k=3∨k=5∨k=6∨k=8∨k=10∨k=12∨k=14∨k=16:=by
 unfold qaM at h
 by_cases h1:k=1∨k=5∨k=16
 ·omega
 ·rw [if_neg h1]at h
  by_cases h2:k=3∨k=6∨k=8∨k=10∨k=12∨k=14
  ·omega
  ·rw [if_neg h2]at h;omega
theorem qx8 {h:Nd} {e:En} {m r:Ms} (k:m.kind=1):qbj h e m r=(h,qct e r):=by
 rw [qbj,if_neg (by omega),if_neg (by omega),if_neg (by omega),if_neg (by omega),if_neg (by omega),if_neg (by omega),if_neg (by omega)]
theorem qx9 {h:Nd} {e:En} {m r:Ms} (k:m.kind=3):qbj h e m r=(h,qct e { r with ents:=qdB h,has:=qg5 h }):=by
 rw [qbj,if_pos k]
theorem qya {h:Nd} {e:En} {m r:Ms} (k:m.kind=5):qbj h e m r=(qaE h e,qct e r):=by
 rw [qbj,if_neg (by omega),if_pos k]
theorem qyb {h:Nd} {e:En} {m r:Ms} (k:m.kind=6):qbj h e m r=(h,qct e { r with ents:=[qbE h.me h.list m.id] }):=by
 rw [qbj,if_neg (by omega),if_neg (by omega),if_pos k]
theorem qyc {h:Nd} {e:En} {m r:Ms} (k:m.kind=8) (c:qd7 h m.key=0):qbj h e m r=qdX h m.key m.val m.gone e m.rid 0:=by
 rw [qbj,if_neg (by omega),if_neg (by omega),if_neg (by omega),if_pos k,if_pos c]
theorem qtj {h:Nd} {e:En} {m r:Ms} (k:m.kind=8) (c:¬qd7 h m.key=0):qbj h e m r=(h,qct e { r with err:=qd7 h m.key }):=by
 rw [qbj,if_neg (by omega),if_neg (by omega),if_neg (by omega),if_pos k,if_neg c]
theorem qmT {h:Nd} {e:En} {m r:Ms} (k:m.kind=10) (c:qd7 h m.key=0):qbj h e m r=(h,qct e (qBq r (qdE h.items m.key))):=by
 rw [qbj,if_neg (by omega),if_neg (by omega),if_neg (by omega),if_neg (by omega),if_pos k,if_pos c]
theorem qnP {h:Nd} {e:En} {m r:Ms} (k:m.kind=10) (c:¬qd7 h m.key=0):qbj h e m r=(h,qct e { r with err:=qd7 h m.key }):=by
 rw [qbj,if_neg (by omega),if_neg (by omega),if_neg (by omega),if_neg (by omega),if_pos k,if_neg c]
theorem qtk {h:Nd} {e:En} {m r:Ms} (k:m.kind=12):qbj h e m r=({ h with items:=(qa0 h.items m.items).1 },qct e { r with err:=(qa0 h.items m.items).2 }):=by
 rw [qbj,if_neg (by omega),if_neg (by omega),if_neg (by omega),if_neg (by omega),if_neg (by omega),if_pos k]
theorem qtl {h:Nd} {e:En} {m r:Ms} (k:m.kind=14) (c:h.ready=true):qbj h e m r=(h,qct e { r with items:=(h.items.filter (inR m.id e.id)).take 16 }):=by
 rw [qbj,if_neg (by omega),if_neg (by omega),if_neg (by omega),if_neg (by omega),if_neg (by omega),if_neg (by omega),if_pos k,if_pos c]
theorem qnQ {h:Nd} {e:En} {m r:Ms} (k:m.kind=14) (c:¬h.ready=true):qbj h e m r=(h,qct e { r with err:=41 }):=by
 rw [qbj,if_neg (by omega),if_neg (by omega),if_neg (by omega),if_neg (by omega),if_neg (by omega),if_neg (by omega),if_pos k,if_neg c]
theorem ka1:qaM 1=2:=rfl
theorem ka3:qaM 3=4:=rfl
theorem ka5:qaM 5=2:=rfl
theorem ka6:qaM 6=7:=rfl
theorem ka8:qaM 8=9:=rfl
theorem qGx:qaM 10=11:=rfl
theorem qGy:qaM 12=13:=rfl
theorem qGz:qaM 14=15:=rfl
theorem qJ3:qaM 16=2:=rfl
theorem qtm (l:List Fg) (name:List UInt8):(qgV l name).length=l.length:=by simp [qgV]
theorem qpZ {n:Nd} {k:Nat} (name:List UInt8) (m:n.mid k):(qao n name).mid k:=
 ⟨Nat.le_trans (qg7 _ _) m.pl,Nat.le_trans (qg7 _ _) m.ll,by rw [qao];show (qgV _ _).length≤k;rw [qtm];exact m.fl,m.sl,m.dl,m.il,m.jl,m.wl,m.rl,m.pe,m.pi,m.ja,m.ik⟩
theorem qmU {n:Nd} {k:Nat} (name:List UInt8) (h:n.good k):(qao n name).good k:=⟨qpZ name h.m,h.d,h.j⟩
theorem qp0 {n:Nd} {k:Nat} (e:En) (h:n.good k):(qaf n e).good (k+1):=by
 refine ⟨qaR e h.m,?_,?_⟩
 ·obtain ⟨l,hl⟩:=qaA n e;rw [hl];exact h.d
 ·obtain ⟨l,hl⟩:=qaA n e;rw [hl];exact h.j
theorem qtn {n:Nd} {k:Nat} (l:List It) (h:n.good k) (hk:k≤9223372036854775807) (hl:l.length≤9223372036854775807):({ n with items:=l }:Nd).cmp:=by
 have c:=h.m.cmp hk h.d
 exact ⟨c.pl,c.ll,c.fl,c.sl,c.dl,c.df,hl,c.jl,c.ja,c.wl,c.rl⟩
theorem qBu {n:Nd} (g:qbn n=false) (ho:n.ok):n.fine:=by
 have s:=qg2 g
 have h1:=s.gk;have h2:=s.ll;have h3:=s.pl;have h4:=s.fl
 exact ⟨ho.me.id,by omega,by omega,by omega,by omega,fun p hp=>⟨(ho.list p hp).e.id,by have:=(s.l p hp).n;omega⟩,fun p hp=>(ho.pred p hp).e.id⟩
theorem qBv {e:En} (g:qbm e=false) (ho:e.ok):e.fine:=by
 have s:=qb0 g
 have h1:=s.n;have h2:=s.t
 exact ⟨ho,by omega,by omega⟩
end Go.Proofs.YtnpkhdjgedeppaaGreatDoor
namespace Go.Proofs.YtnpkhdjgedeppaaGreatDoor
set_option maxHeartbeats 64000000
open Go.Am
set_option linter.unusedSimpArgs false
set_option linter.unusedVariables false
set_option maxRecDepth 100000
def enB:En:={ enZ with name:=[98] }
end Go.Proofs.YtnpkhdjgedeppaaGreatDoor
namespace Go.Proofs.YtnpkhdjgedeppaaGreatDoor
set_option maxHeartbeats 64000000
open Go.Am
set_option linter.unusedSimpArgs false
set_option linter.unusedVariables false
set_option maxRecDepth 100000
attribute [local irreducible] qa7 idB qdF
theorem qif {n:Nd} {e:En} (h:n.pred=[]):qg6 n e=true:=by rw [qg6,h]
theorem qg8 {n:Nd} {e:En} {p:Pr} {l:List Pr} (h:n.pred=p::l):qg6 n e=(decide (p.e.name=e.name)|| qds p.e.id e.id n.me.id):=by rw [qg6,h]
@[go_sem] theorem qMw (n:Nd) (e:En) (h:n.fine) (he:e.fine):fn C 112 [] [(aNd n),.agg [.str e.name,.int .u64 (e.id:Int),.int .i64 e.fr,.int .i64 e.un,.int .i64 e.ix,.str e.tag]]=some (.agg [.str (qaE n e).me.name,.int .u64 ((qaE n e).me.id:Int),.int .i64 (qaE n e).me.fr,.int .i64 (qaE n e).me.un,.int .i64 (qaE n e).me.ix,.str (qaE n e).me.tag,.int .i64 (qaE n e).clock,.str (qaE n e).psk,.int .i64 (qaE n e).gateI,.str (qaE n e).gateK,.bool (qaE n e).ready,.slice 8 ((qaE n e).pred.map Pr.cs),.slice 8 ((qaE n e).list.map Pr.cs),.slice 9 ((qaE n e).fingers.map Fg.cs),.slice 20 ((qaE n e).sessions.map Se.cs),.slice 23 ((qaE n e).pends.map Pd.cs),.slice 4 ((qaE n e).items.map It.cs),.slice 29 ((qaE n e).jobs.map Jb.cs),.int .i64 (qaE n e).rid,.int .i64 (qaE n e).jobId,.slice 1 ((qaE n e).draws.map qaw),.slice 8 ((qaE n e).results.map Rs.cs)],[]):=by
 rw [qaa Tryz.func112 rfl rfl Tryz.results112 qDc.1 rfl rfl (by kernel_rfl)]
 have e1:=qJG n.gateI n.gateK e n.clock he.ok he.n he.t h.gk
 rw [qaE]
 by_cases hv:qcn n.gateI n.gateK e n.clock=0
 ·have tk:=qd8 _ _ _ _ hv
  rw [hv,tk]at e1
  rw [if_pos hv,tk]
  cases hp:n.pred with
  | nil=>
   rw [qif hp,if_pos rfl]
   simp -implicitDefEqProofs -dsimp +contextual (maxSteps:=9999999) (disch:=first | omega | simp only [go_sem]<;>omega | refine ib ?_;kernel_rfl) only [go_sem,seval,↓reduceIte,e1,hp]
  | cons p l=>
   have hi:=h.pi p (by rw [hp];exact List.mem_cons_self ..)
   have hm:=h.me
   have hei:=he.ok.id
   rw [qg8 hp]
   by_cases hn:p.e.name=e.name
   ·have hn':=eq_true hn
    rw [decide_eq_true hn,Bool.true_or,if_pos rfl]
    simp -implicitDefEqProofs -dsimp +contextual (maxSteps:=9999999) (disch:=first | omega | simp only [go_sem]<;>omega | refine ib ?_;kernel_rfl) only [go_sem,seval,↓reduceIte,e1,hp,hn']
   ·have hn':=eq_false hn
    rw [decide_eq_false hn,Bool.false_or]
    cases hb:qds p.e.id e.id n.me.id with
    | true=>
     rw [if_pos rfl]
     simp -implicitDefEqProofs -dsimp +contextual (maxSteps:=9999999) (disch:=first | omega | simp only [go_sem]<;>omega | refine ib ?_;kernel_rfl) only [go_sem,seval,↓reduceIte,e1,hp,hn',hb]
    | false=>
     rw [if_neg (by decide)]
     simp -implicitDefEqProofs -dsimp +contextual (maxSteps:=9999999) (disch:=first | omega | simp only [go_sem]<;>omega | refine ib ?_;kernel_rfl) only [go_sem,seval,↓reduceIte,e1,hp,hn',hb]
 ·have hv':=eq_false hv
  simp -implicitDefEqProofs -dsimp +contextual (maxSteps:=9999999) (disch:=first | omega | simp only [go_sem]<;>omega | refine ib ?_;kernel_rfl) only [go_sem,seval,↓reduceIte,e1,hv']
@[go_sem] theorem qJ4 (n:Nd) (key:List UInt8) (h:n.fine) (hk:key.length≤10000):fn C 114 [] [(aNd n),.str key]=some (.int .i64 (qd7 n key),[]):=by
 rw [qaa Tryz.func114 rfl rfl Tryz.results114 qDe.1 rfl rfl (by kernel_rfl)]
 have e1:=e39 n key h hk
 rw [qd7]
 by_cases h1:n.ready=true
 ·have h1a:(n.ready=true)=True:=eq_true h1
  have h1b:(n.ready=false)=False:=by rw [h1];simp
  rw [if_pos h1]
  by_cases h2:qiU n key=true
  ·rw [if_pos h2]
   simp -implicitDefEqProofs -dsimp +contextual (maxSteps:=9999999) (disch:=first | omega | simp only [go_sem]<;>omega | refine ib ?_;kernel_rfl) only [go_sem,seval,↓reduceIte,e1,h1a,h1b,h2]
  ·rw [if_neg h2]
   simp -implicitDefEqProofs -dsimp +contextual (maxSteps:=9999999) (disch:=first | omega | simp only [go_sem]<;>omega | refine ib ?_;kernel_rfl) only [go_sem,seval,↓reduceIte,e1,h1a,h1b,h2]
 ·have h1a:(n.ready=true)=False:=eq_false h1
  have h1b:(n.ready=false)=True:=by simp [h1]
  rw [if_neg h1]
  simp -implicitDefEqProofs -dsimp +contextual (maxSteps:=9999999) (disch:=first | omega | simp only [go_sem]<;>omega | refine ib ?_;kernel_rfl) only [go_sem,seval,↓reduceIte,e1,h1a,h1b]
@[go_sem] theorem e38 (n:Nd) (key:List UInt8) (h:n.fine) (hk:key.length≤10000):fn C 38 [] [(aNd n),.str key]=some (.bool (qiU n key),[]):=by
 rw [qaa Tryz.func38 rfl rfl Tryz.results38 qJa.1 rfl rfl (by kernel_rfl)]
 have e1:=qML key hk
 have e2:=qJA n.me n.list (qtI key) (qth key) h.me (Nat.le_trans h.ll (by decide)) (fun p hp=>(h.li p hp).1)
 have e3:=qgf (qbE n.me n.list (qtI key)) n.me
 rw [qtI]at e2 e3
 rw [qiU,qtI]
 simp -implicitDefEqProofs -dsimp +contextual (maxSteps:=9999999) (disch:=first | omega | simp only [go_sem]<;>omega | refine ib ?_;kernel_rfl) only [go_sem,seval,↓reduceIte,e1,e2,e3]
@[go_sem] theorem e32 (n:Nd) (h:n.fine):fn C 32 [] [(aNd n)]=some (.tup [.slice 6 ((qdB n).map En.cs),.bool (qg5 n)],[]):=by
 rw [qaa Tryz.func32 rfl rfl Tryz.results32 qI4.1 rfl rfl (by kernel_rfl)]
 have e1:=qHJ n.list (Nat.le_trans h.ll (by decide))
 have e2:=qLJ n.pred (Nat.le_trans h.pl (by decide))
 have hl:=h.ll
 have hp:=h.pl
 have ht:((n.pred.take 1).map Pr.e).length≤1:=by simp;omega
 rw [qdB,qg5]
 generalize (n.pred.take 1).map Pr.e=a at *
 simp -implicitDefEqProofs -dsimp +contextual (maxSteps:=9999999) (disch:=first | omega | simp only [go_sem]<;>omega | refine ib ?_;kernel_rfl) only [go_sem,seval,↓reduceIte,e1,e2]
end Go.Proofs.YtnpkhdjgedeppaaGreatDoor
