/- Texts of this claim. -/
import Derived.Test.YtdhbkifpodekcaaGreatDoorDeskZ43
import Derived.Laws.OwnMore
namespace Go.Proofs.YtdhbkifpodekcaaGreatDoor
open Go.ChangeShapes Go.WideShapes Go.ChangeAt Go.RowKit Go.PlainAid
set_option linter.unusedVariables false
set_option maxRecDepth 100000
set_option maxRecDepth 100000 in
set_option maxHeartbeats 1600000 in
theorem due_no (A:Option Addr) (n cap:Nat) (ps:List Pln) (day:Int) (w:World) (hr:Ps w A ps) (hn:ps.length=n) (hcap:n≤cap) (hml:cap≤maxLen) (ht:Tab w) (hc:plc ps≠0) :
    Calls Tryz.prog 134 #[.slice A n cap,.int .i64 day] w fun e w'=>e=.returned (.tuple #[.slice none 0 0,.int .i64 (plc ps)])∧Mor w w':=by
  have HCk:=Lib.hid (fun w' (h:Mor w w')=>plc_any A n cap ps w' (hr.mor h) hn hcap hml (ht.mor h))
  generalize plc ps=r at *
  have hb:(r != 0)=true:=by simpa using hc
  clear hr ht hn
  go_enter Tryz.func134,Tryz.ntmps134
  go_wp2_with (first | (go_at_call 81;(with_reducible refine (HCk.out _ (Mor.refl _)).mono ?_);rintro e w1 ⟨rfl,hm1⟩))
  have HM:=Lib.hid hm1
  clear hm1
  go_returns
  exact ⟨rfl,HM.out⟩
noncomputable def duev (ps:List Pln) (day:Int):List En:=if plc ps=0 then dueP ps day else []
theorem duev_ok {ps:List Pln} {day:Int} (h:plc ps=0):duev ps day=dueP ps day:=by unfold duev;rw [if_pos h]
theorem duev_no {ps:List Pln} {day:Int} (h:plc ps≠0):duev ps day=[]:=by unfold duev;rw [if_neg h]
theorem due_any (A:Option Addr) (n cap:Nat) (ps:List Pln) (day:Int) (w:World) (hr:Ps w A ps) (hn:ps.length=n) (hcap:n≤cap) (hml:cap≤maxLen) (ht:Tab w) (d0:0≤day) (d9:day≤292193) :
    Calls Tryz.prog 134 #[.slice A n cap,.int .i64 day] w fun e w'=>∃ X m k qs,e=.returned (.tuple #[.slice X m k,.int .i64 (plc ps)])∧(duev ps day).length=m∧OwnEs w' w.heap.size (.slice X m k) m qs (duev ps day)∧Mor w w':=by
  by_cases h:plc ps=0
  · refine (due_ok A n cap ps day w hr hn hcap hml ht h d0 d9).mono ?_
    rintro e w' ⟨v,qs,rfl,ho,hm⟩
    rw [duev_ok h,h]
    obtain ⟨X,k,rfl,_⟩:=ho.shape
    exact ⟨X,_,k,qs,rfl,rfl,ho,hm⟩
  · refine (due_no A n cap ps day w hr hn hcap hml ht h).mono ?_
    rintro e w' ⟨rfl,hm⟩
    rw [duev_no h]
    exact ⟨none,0,0,[],rfl,rfl,⟨World.ownsRow_nil _ _ _ _,rfl,rfl,fun i hi=>absurd hi (Nat.not_lt_zero _)⟩,hm⟩
theorem d3:IsD 3 0 4:=isD_num 0 4 (by decide) (by decide) (by decide) (by decide) (by decide)
def fa (x:En):Int:=am x.ls 0
def puc (b:Bok) (es:List En):Nat→Int
  | 0=>0
  | k+1=>if puc b es k≠0 then puc b es k else postc (madeb b (es.take k)) (ne es k)
theorem puc_bad {b:Bok} {es:List En} {k n:Nat} (h:puc b es k=0) (hb:postc (madeb b (es.take k)) (ne es k)≠0) (hk:k < n):puc b es n=postc (madeb b (es.take k)) (ne es k):=by
  induction n with
  | zero=>omega
  | succ n ih =>
    by_cases e:k=n
    · subst e
      show (if puc b es k≠0 then puc b es k else postc (madeb b (es.take k)) (ne es k))=_
      rw [if_neg (by simp [h])]
    · show (if puc b es n≠0 then puc b es n else postc (madeb b (es.take n)) (ne es n))=_
      rw [ih (by omega),if_pos hb]
theorem puc_ok {b:Bok} {es:List En} {k:Nat} (h:puc b es k=0) (hb:postc (madeb b (es.take k)) (ne es k)=0):puc b es (k+1)=0:=by
  show (if puc b es k≠0 then puc b es k else postc (madeb b (es.take k)) (ne es k))=0
  rw [if_neg (by simp [h]),hb]
noncomputable def runc (b:Bok) (ps:List Pln) (day:Int):Int:=if bookc b≠0 then bookc b else if plc ps≠0 then plc ps else puc b (dueP ps day) (dueP ps day).length
def RunNo (w:World) (r:Int) (e:Ending) (w':World):Prop:=e=.returned (.tuple #[bv none 0 0 none 0 0 0,.int .i64 r])∧Mor w w'
set_option maxRecDepth 100000 in
set_option maxHeartbeats 1600000 in
theorem run_bad1 (A:Option Addr) (n c:Nat) (X:Option Addr) (m k:Nat) (b:Bok) (L:Option Addr) (p q:Nat) (ps:List Pln) (day:Int) (w:World) (hb:Bq w A n c X m k b) (hr:Ps w L ps) (hn:ps.length=p) (hcap:p≤q) (hml:q≤maxLen) (ht:Tab w) (d0:0≤day) (d9:day≤292193) (hc:bookc b≠0) :
    Calls Tryz.prog 83 #[bv A n c X m k b.shut,.slice L p q,.int .i64 day] w (RunNo w (bookc b)):=by
  have HCk:=Lib.hid (fun w' (h:Mor w w')=>bcheck_any A n c X m k b w' (hb.mor h))
  have hb2:(bookc b != 0)=true:=by simpa using hc
  generalize b.shut=sh at *
  generalize bookc b=r at *
  clear hb hr hn ht
  go_enter Tryz.func83,Tryz.ntmps83
  go_wp2_with fail
  have hM0:=((Mor.refl w).alloc (o:=.cells #[.slice A n c,.slice X m k,.int .i64 sh] 37)).alloc (o:=.cells #[.slice none 0 0,.slice none 0 0,.int .i64 0] 37)
  have hbP0:=(Bk.new w 37 #[.slice A n c,.slice X m k,.int .i64 sh]).alloc (.cells #[.slice none 0 0,.slice none 0 0,.int .i64 0] 37)
  have hbR0:=Bk.new (w.alloc (.cells #[.slice A n c,.slice X m k,.int .i64 sh] 37)) 37 #[.slice none 0 0,.slice none 0 0,.int .i64 0]
  rw [← sz1] at hbR0
  obtain ⟨bP,hgP⟩:∃ g,g=w.heap.size:=⟨_,rfl⟩
  rw [← hgP] at hbP0 hbR0 ⊢
  obtain ⟨bR,hgR⟩:∃ g,g=bP+1:=⟨_,rfl⟩
  rw [← hgR] at hbR0 ⊢
  generalize (w.alloc (.cells #[.slice A n c,.slice X m k,.int .i64 sh] 37)).alloc (.cells #[.slice none 0 0,.slice none 0 0,.int .i64 0] 37)=w0 at *
  have hgPw:w.heap.size≤bP:=by omega
  have hgRw:w.heap.size≤bR:=by omega
  have hPR:bP≠bR:=by omega
  have hRP:bR≠bP:=by omega
  have HP:=Lib.hid (fun w' (h:Mor w0 w')=>hbP0.mor h)
  have HR:=Lib.hid (fun w' (h:Mor w0 w')=>hbR0.mor h)
  have HM0:=Lib.hid hM0
  clear hgP hgR hM0 hbP0 hbR0
  refine (HCk.out _ HM0.out).mono ?_
  rintro e w2 ⟨rfl,hm⟩
  have HM2:=Lib.hid hm
  clear hm
  have hR:=HR.out _ HM2.out
  have f0:=hR.frozen 0
  have f1:=hR.frozen 1
  have f2:=hR.frozen 2
  have r0:=hR.cell 0
  have r1:=hR.cell 1
  have r2:=hR.cell 2
  have rl:=hR.lt
  simp at r0 r1 r2
  have HRx:=Lib.hid hR
  have HMx:=Lib.hid (HM0.out.trans' HM2.out)
  clear hR
  go_wp2_with fail
  have hb9:=((HRx.out.set_ 0 (.slice none 0 0)).set_ 1 (.slice none 0 0)).set_ 2 (.int .i64 0)
  simp only [List.setIfInBounds_toArray,List.set_cons_zero,List.set_cons_succ] at hb9
  have hm9:=((HMx.out.setC (i:=0) (u:=.slice none 0 0) hgRw).setC (i:=1) (u:=.slice none 0 0) hgRw).setC (i:=2) (u:=.int .i64 0) hgRw
  have q0:=hb9.cell 0
  have q1:=hb9.cell 1
  have q2:=hb9.cell 2
  simp at q0 q1 q2
  refine bodyPost_ret (v:=.tuple #[bv none 0 0 none 0 0 0,.int .i64 r]) (by simp [results,Tryz.results83,go_sem,q0,q1,q2];try rfl) rfl ?_
  exact ⟨rfl,hm9⟩
set_option maxRecDepth 100000 in
set_option maxHeartbeats 1600000 in
theorem run_bad2 (A:Option Addr) (n c:Nat) (X:Option Addr) (m k:Nat) (b:Bok) (L:Option Addr) (p q:Nat) (ps:List Pln) (day:Int) (w:World) (hb:Bq w A n c X m k b) (hr:Ps w L ps) (hn:ps.length=p) (hcap:p≤q) (hml:q≤maxLen) (ht:Tab w) (d0:0≤day) (d9:day≤292193) (hc:bookc b=0) (hc2:plc ps≠0) :
    Calls Tryz.prog 83 #[bv A n c X m k b.shut,.slice L p q,.int .i64 day] w (RunNo w (plc ps)):=by
  have HCk:=Lib.hid (fun w' (h:Mor w w')=>bcheck_any A n c X m k b w' (hb.mor h))
  have HDu:=Lib.hid (fun w' (h:Mor w w')=>due_no L p q ps day w' (hr.mor h) hn hcap hml (ht.mor h) hc2)
  rw [hc] at HCk
  have hb2:(plc ps != 0)=true:=by simpa using hc2
  generalize b.shut=sh at *
  generalize plc ps=r at *
  clear hb hr hn ht
  go_enter Tryz.func83,Tryz.ntmps83
  go_wp2_with fail
  have hM0:=((Mor.refl w).alloc (o:=.cells #[.slice A n c,.slice X m k,.int .i64 sh] 37)).alloc (o:=.cells #[.slice none 0 0,.slice none 0 0,.int .i64 0] 37)
  have hbP0:=(Bk.new w 37 #[.slice A n c,.slice X m k,.int .i64 sh]).alloc (.cells #[.slice none 0 0,.slice none 0 0,.int .i64 0] 37)
  have hbR0:=Bk.new (w.alloc (.cells #[.slice A n c,.slice X m k,.int .i64 sh] 37)) 37 #[.slice none 0 0,.slice none 0 0,.int .i64 0]
  rw [← sz1] at hbR0
  obtain ⟨bP,hgP⟩:∃ g,g=w.heap.size:=⟨_,rfl⟩
  rw [← hgP] at hbP0 hbR0 ⊢
  obtain ⟨bR,hgR⟩:∃ g,g=bP+1:=⟨_,rfl⟩
  rw [← hgR] at hbR0 ⊢
  generalize (w.alloc (.cells #[.slice A n c,.slice X m k,.int .i64 sh] 37)).alloc (.cells #[.slice none 0 0,.slice none 0 0,.int .i64 0] 37)=w0 at *
  have hgPw:w.heap.size≤bP:=by omega
  have hgRw:w.heap.size≤bR:=by omega
  have hPR:bP≠bR:=by omega
  have hRP:bR≠bP:=by omega
  have HP:=Lib.hid (fun w' (h:Mor w0 w')=>hbP0.mor h)
  have HR:=Lib.hid (fun w' (h:Mor w0 w')=>hbR0.mor h)
  have HM0:=Lib.hid hM0
  clear hgP hgR hM0 hbP0 hbR0
  refine (HCk.out _ HM0.out).mono ?_
  rintro e w2 ⟨rfl,hm⟩
  have HM2:=Lib.hid hm
  clear hm
  have hP:=HP.out _ HM2.out
  have p0:=hP.cell 0
  have p1:=hP.cell 1
  have p2:=hP.cell 2
  have pl:=hP.lt
  simp at p0 p1 p2
  go_wp2_with fail
  refine (HDu.out _ (HM0.out.trans' HM2.out)).mono ?_
  rintro e w3 ⟨rfl,hm⟩
  have HM3:=Lib.hid (HM2.out.trans' hm)
  clear hm hP p0 p1 p2 pl
  have hR:=HR.out _ HM3.out
  have f0:=hR.frozen 0
  have f1:=hR.frozen 1
  have f2:=hR.frozen 2
  have r0:=hR.cell 0
  have r1:=hR.cell 1
  have r2:=hR.cell 2
  have rl:=hR.lt
  simp at r0 r1 r2
  have HRx:=Lib.hid hR
  have HMx:=Lib.hid (HM0.out.trans' HM3.out)
  clear hR
  go_wp2_with fail
  have hb9:=((HRx.out.set_ 0 (.slice none 0 0)).set_ 1 (.slice none 0 0)).set_ 2 (.int .i64 0)
  simp only [List.setIfInBounds_toArray,List.set_cons_zero,List.set_cons_succ] at hb9
  have hm9:=((HMx.out.setC (i:=0) (u:=.slice none 0 0) hgRw).setC (i:=1) (u:=.slice none 0 0) hgRw).setC (i:=2) (u:=.int .i64 0) hgRw
  have q0:=hb9.cell 0
  have q1:=hb9.cell 1
  have q2:=hb9.cell 2
  simp at q0 q1 q2
  refine bodyPost_ret (v:=.tuple #[bv none 0 0 none 0 0 0,.int .i64 r]) (by simp [results,Tryz.results83,go_sem,q0,q1,q2];try rfl) rfl ?_
  exact ⟨rfl,hm9⟩
set_option maxRecDepth 100000 in
set_option maxHeartbeats 3200000 in
theorem run_go (A:Option Addr) (n c:Nat) (X:Option Addr) (m k:Nat) (b:Bok) (L:Option Addr) (p q:Nat) (ps:List Pln) (day:Int) (w:World) (hb:Bq w A n c X m k b) (hr:Ps w L ps) (hn:ps.length=p) (hcap:p≤q) (hml:q≤maxLen) (ht:Tab w) (d0:0≤day) (d9:day≤292193) (hc:bookc b=0) (hc2:plc ps=0) :
    Calls Tryz.prog 83 #[bv A n c X m k b.shut,.slice L p q,.int .i64 day] w fun e w' =>
      (puc b (dueP ps day) (dueP ps day).length≠0∧RunNo w (puc b (dueP ps day) (dueP ps day).length) e w')∨(puc b (dueP ps day) (dueP ps day).length=0∧PostYes w (madeb b (dueP ps day)) e w'):=by
  have HCk:=Lib.hid (fun w' (h:Mor w w')=>bcheck_any A n c X m k b w' (hb.mor h))
  have HDu:=Lib.hid (fun w' (h:Mor w w')=>due_any L p q ps day w' (hr.mor h) hn hcap hml (ht.mor h) d0 d9)
  rw [hc] at HCk
  rw [hc2,duev_ok hc2] at HDu
  have hbo:=(bookc_iff b).1 hc
  have hm60:m≤60:=by rw [← hb.length];exact hbo.len
  have hn24:n≤24:=by rw [← hb.ac.length];exact (acc_len hbo.ac)
  have HCp:=Lib.hid (fun w' (h:Mor w w')=>copied_any A n c X m k b w' (hb.mor h) (by omega) (by omega) (fun y hy=>by have:=(linec_ok (entc_ok (hbo.enc y hy)).2.2.2).1;omega))
  have HLe:(dueP ps day).length≤480:=by
    have h1:=plc_ok hc2
    have:=dueP_le ps day h1.2.1 ps.length (Nat.le_refl _)
    rw [List.take_of_length_le (Nat.le_refl _)] at this
    omega
  have HSh:=Lib.hid (fun es=>(madeb_ac b es).2)
  have HAc:=Lib.hid (fun es=>(madeb_ac b es).1)
  generalize hsh:b.shut=sh at *
  have HB0:=Lib.hid hsh
  have HAl:=Lib.hid hb.ac.length
  generalize dueP ps day=es at *
  clear hb hr hn ht hsh hbo
  go_enter Tryz.func83,Tryz.ntmps83
  go_wp2_with fail
  have hM0:=((Mor.refl w).alloc (o:=.cells #[.slice A n c,.slice X m k,.int .i64 sh] 37)).alloc (o:=.cells #[.slice none 0 0,.slice none 0 0,.int .i64 0] 37)
  have hbP0:=(Bk.new w 37 #[.slice A n c,.slice X m k,.int .i64 sh]).alloc (.cells #[.slice none 0 0,.slice none 0 0,.int .i64 0] 37)
  have hbR0:=Bk.new (w.alloc (.cells #[.slice A n c,.slice X m k,.int .i64 sh] 37)) 37 #[.slice none 0 0,.slice none 0 0,.int .i64 0]
  rw [← sz1] at hbR0
  obtain ⟨bP,hgP⟩:∃ g,g=w.heap.size:=⟨_,rfl⟩
  rw [← hgP] at hbP0 hbR0 ⊢
  obtain ⟨bR,hgR⟩:∃ g,g=bP+1:=⟨_,rfl⟩
  rw [← hgR] at hbR0 ⊢
  generalize (w.alloc (.cells #[.slice A n c,.slice X m k,.int .i64 sh] 37)).alloc (.cells #[.slice none 0 0,.slice none 0 0,.int .i64 0] 37)=w0 at *
  have hgPw:w.heap.size≤bP:=by omega
  have hgRw:w.heap.size≤bR:=by omega
  have hPR:bP≠bR:=by omega
  have hRP:bR≠bP:=by omega
  have HP:=Lib.hid (fun w' (h:Mor w0 w')=>hbP0.mor h)
  have HR:=Lib.hid (fun w' (h:Mor w0 w')=>hbR0.mor h)
  have HM0:=Lib.hid hM0
  clear hgP hgR hM0 hbP0 hbR0
  refine (HCk.out _ HM0.out).mono ?_
  rintro e w2 ⟨rfl,hm⟩
  have HM2:=Lib.hid hm
  clear hm
  have hP:=HP.out _ HM2.out
  have p0:=hP.cell 0
  have p1:=hP.cell 1
  have p2:=hP.cell 2
  have pl:=hP.lt
  simp at p0 p1 p2
  go_wp2_with fail
  refine (HDu.out _ (HM0.out.trans' HM2.out)).mono ?_
  rintro e w3 ⟨Xd,md,kd,qs,rfl,hld,hod,hm⟩
  have HM3:=Lib.hid (HM2.out.trans' hm)
  have HOd:=Lib.hid hod
  have HLd:=Lib.hid hld
  clear hm hP p0 p1 p2 pl hod hld HDu HCk
  have hP:=HP.out _ HM3.out
  have p0:=hP.cell 0
  have p1:=hP.cell 1
  have p2:=hP.cell 2
  have pl:=hP.lt
  simp at p0 p1 p2
  go_wp2_with fail
  refine (HCp.out _ (HM0.out.trans' HM3.out)).mono ?_
  rintro e w4 ⟨vA,vX,rfl,ho4,hm⟩
  rw [HB0.out]
  obtain ⟨A5,c5,X5,k5,rfl,rfl,-⟩:=ho4.bq
  have HM4:=Lib.hid (HM3.out.trans' hm)
  have HOd4:=Lib.hid (HOd.out.mor hm)
  have how:w.heap.size≤w3.heap.size:=(HM0.out.trans' HM3.out).below.size
  have ho5:=(ho4.base how).mor ((Mor.refl w4).alloc (o:=.cells #[.slice A5 n c5,.slice X5 m k5,.int .i64 sh] 37))
  have hO5:=Bk.new w4 37 #[.slice A5 n c5,.slice X5 m k5,.int .i64 sh]
  have hM5:=(Mor.refl w4).alloc (o:=.cells #[.slice A5 n c5,.slice X5 m k5,.int .i64 sh] 37)
  clear hm ho4 hP p0 p1 p2 pl HCp HOd
  go_wp2_with fail
  obtain ⟨bO,hbO⟩:∃ g,g=w4.heap.size:=⟨_,rfl⟩
  rw [← hbO] at hO5 ⊢
  generalize w4.alloc (.cells #[.slice A5 n c5,.slice X5 m k5,.int .i64 sh] 37)=w5 at *
  have hgO:w4.heap.size≤bO:=by omega
  have hRO:bR < bO:=by have:=(HR.out _ HM4.out).lt;omega
  have hgOw:w.heap.size≤bO:=by omega
  clear hbO how
  obtain ⟨Xd',kd',ed,hdk,hd63,-,hdes⟩:=HOd4.out.shape
  injection ed with ed1 _ ed3
  subst ed1 ed3
  have HEd:=Lib.hid (fun w' (h:Mor w4 w')=>hdes.mor h)
  have hmd:md≤480:=by rw [← HLd.out];exact HLe
  unfold maxLen at hd63
  clear hdes HOd4
  go_loopw [34] (fun i wr=>∃ (j:Nat) (A':Option Addr) (c':Nat) (X':Option Addr) (m' k':Nat),j≤md∧i=.int .i64 j∧Hid (puc b es j=0)∧Hid (Bk wr bO 37 #[.slice A' n c',.slice X' m' k',.int .i64 sh]∧OwnB wr w.heap.size (.slice A' n c') (.slice X' m' k') n m' (madeb b (es.take j))∧Mor w4 wr)) (fun i _=>md - (intOf i).toNat)
  case atStart=>exact ⟨0,A5,c5,X5,m,k5,Nat.zero_le _,rfl,Lib.hid rfl,Lib.hid ⟨hO5,by rw [List.take_zero];exact ho5,hM5⟩⟩
  case round =>
    clear hO5 ho5 hM5
    obtain ⟨j,A',c',X',m',k',hj,rfl,HPu,HJ⟩:=hrel
    obtain ⟨hO,hown,hm⟩:=HJ.out
    have c0:=hO.cell 0
    have c1:=hO.cell 1
    have c2:=hO.cell 2
    have cl:=hO.lt
    simp at c0 c1 c2
    by_cases hlt:j < md
    · have hji:(j:Int) < (md:Int):=by omega
      have hj0:(0:Int)≤(j:Int):=by omega
      have hjl:j < es.length:=by rw [HLd.out];omega
      obtain ⟨x,A2,n2,c2',hE,hxb,hks,d0,d1,d2,hlq⟩:=(HEd.out _ hm).at_ j hjl
      subst hE
      have HTk:=Lib.hid (madeb_take b es j hjl)
      have hbq:=own_bq hown
      have hsj:=HSh.out (es.take j)
      have haj:=hbq.ac.length
      have HPb:=Lib.hid (fun (h:postc (madeb b (es.take j)) (ne es j)≠0)=>puc_bad HPu.out h (show j < es.length from hjl))
      have HPo:=Lib.hid (fun (h:postc (madeb b (es.take j)) (ne es j)=0)=>puc_ok HPu.out h)
      generalize madeb b (es.take j)=bj at *
      generalize ne es j=y at *
      obtain ⟨ky,dy,ls⟩:=y
      dsimp only at d0 d1 hks hlq
      have HPn:=Lib.hid (fun w' (h:Mor wr w') (hc:postc bj ⟨ky,dy,ls⟩≠0)=>show Calls Tryz.prog 72 #[bv A' n c' X' m' k' sh,.agg #[.string ky,.int .i64 dy,.slice A2 n2 c2']] w' (PostNo w' (postc bj ⟨ky,dy,ls⟩)) by
        have h3:=post_no A' n c' X' m' k' bj ⟨ky,dy,ls⟩ A2 n2 c2' w' (hbq.mor h) (hlq.mor h) hks hc
        rw [hsj] at h3
        exact h3)
      have HPy:=Lib.hid (fun w' (h:Mor wr w') (hc:postc bj ⟨ky,dy,ls⟩=0)=>show Calls Tryz.prog 72 #[bv A' n c' X' m' k' sh,.agg #[.string ky,.int .i64 dy,.slice A2 n2 c2']] w' (fun e w''=>∃ A c X m k,e=.returned (.tuple #[bv A n c X m k sh,.int .i64 0])∧OwnB w'' w'.heap.size (.slice A n c) (.slice X m k) n m (stepb bj ⟨ky,dy,ls⟩)∧Mor w' w'') by
        have h3:=post_yes A' n c' X' m' k' bj ⟨ky,dy,ls⟩ A2 n2 c2' w' (hbq.mor h) (hlq.mor h) hks hc
        rw [hsj] at h3
        refine h3.mono fun e w'' h=>?_
        obtain ⟨A9,c9,X9,m9,k9,he,ho,hm9⟩:=postYes_own h (n:=n) (by rw [(post_ac _ _).1];exact haj)
        rw [(post_ac _ _).2,hsj] at he
        exact ⟨A9,c9,X9,m9,k9,he,by rw [stepb_yes hc];exact ho,hm9⟩)
      have HR2:=Lib.hid (fun w' (h:Mor wr w')=>And.intro (hO.mor h) (hm.trans' h))
      have hww:=(HM0.out.trans' (HM4.out.trans' hm)).below.size
      clear hO hown hm hbq hlq haj hsj HJ hks
      by_cases hc:postc bj ⟨ky,dy,ls⟩=0
      · have HP:=Lib.hid (fun w' h=>HPy.out w' h hc)
        have HPz:=Lib.hid (HPo.out hc)
        clear hc HPn HPy HPb HPo
        go_wp2_with fail
        refine (HP.out _ (Mor.refl _).alloc).mono ?_
        rintro e w6 ⟨A9,c9,X9,m9,k9,rfl,ho,hm4⟩
        obtain ⟨hO,hm⟩:=HR2.out _ ((Mor.refl _).alloc.trans' hm4)
        have HOw:=Lib.hid (ho.base (base':=w.heap.size) (by simp;omega))
        have HO4:=Lib.hid hO
        have HM5:=Lib.hid hm
        have cl:=hO.lt
        have f0:=hO.frozen 0
        have f1:=hO.frozen 1
        have f2:=hO.frozen 2
        clear c0 c1 c2
        have c0:=hO.cell 0
        have c1:=hO.cell 1
        have c2:=hO.cell 2
        simp at c0 c1 c2
        clear hO hm4 hm ho HR2
        go_wp2_with fail
        go_roundw
        case rel =>
          have hb9:=((HO4.out.set_ 0 (.slice A9 n c9)).set_ 1 (.slice X9 m9 k9)).set_ 2 (.int .i64 sh)
          simp only [List.setIfInBounds_toArray,List.set_cons_zero,List.set_cons_succ] at hb9
          have hm9:=((HM5.out.setC (i:=0) (u:=.slice A9 n c9) hgO).setC (i:=1) (u:=.slice X9 m9 k9) hgO).setC (i:=2) (u:=.int .i64 sh) hgO
          exact ⟨j+1,A9,c9,X9,m9,k9,by omega,by go_num,HPz,Lib.hid ⟨hb9,by rw [HTk.out];exact own3 HOw.out HO4.out,hm9⟩⟩
        case measure=>simp [intOf];omega
      · have HP:=Lib.hid (fun w' h=>HPn.out w' h hc)
        have HPz:=Lib.hid (HPb.out hc)
        have hrb:(postc bj ⟨ky,dy,ls⟩ != 0)=true:=by simpa using hc
        have HCn:=Lib.hid hc
        generalize postc bj ⟨ky,dy,ls⟩=r at *
        clear hc HPn HPy HPb HPo
        go_wp2_with fail
        refine (HP.out _ (Mor.refl _).alloc).mono ?_
        rintro e w6 ⟨rfl,hm4⟩
        obtain ⟨hO,hm⟩:=HR2.out _ ((Mor.refl _).alloc.trans' hm4)
        have hO9:=((hO.set_ 0 (.slice none 0 0)).set_ 1 (.slice none 0 0)).set_ 2 (.int .i64 0)
        have hR9:=(((HR.out _ (HM4.out.trans' hm)).set_other bO 0 (.slice none 0 0) (by omega)).set_other bO 1 (.slice none 0 0) (by omega)).set_other bO 2 (.int .i64 0) (by omega)
        have hM9:=((hm.setC (i:=0) (u:=.slice none 0 0) hgO).setC (i:=1) (u:=.slice none 0 0) hgO).setC (i:=2) (u:=.int .i64 0) hgO
        have cl:=hO.lt
        have f0:=hO.frozen 0
        have f1:=hO.frozen 1
        have f2:=hO.frozen 2
        clear c0 c1 c2
        have c0:=hO.cell 0
        have c1:=hO.cell 1
        have c2:=hO.cell 2
        simp at c0 c1 c2
        have g0:=hR9.frozen 0
        have g1:=hR9.frozen 1
        have g2:=hR9.frozen 2
        have r0:=hR9.cell 0
        have r1:=hR9.cell 1
        have r2:=hR9.cell 2
        have rl:=hR9.lt
        simp at r0 r1 r2
        have HRx:=Lib.hid hR9
        have HMx:=Lib.hid ((HM0.out.trans' HM4.out).trans' hM9)
        clear hO hm4 hm HR2 hO9 hR9 hM9
        go_wp2_with fail
        have hb9:=((HRx.out.set_ 0 (.slice none 0 0)).set_ 1 (.slice none 0 0)).set_ 2 (.int .i64 0)
        simp only [List.setIfInBounds_toArray,List.set_cons_zero,List.set_cons_succ] at hb9
        have hm9:=((HMx.out.setC (i:=0) (u:=.slice none 0 0) hgRw).setC (i:=1) (u:=.slice none 0 0) hgRw).setC (i:=2) (u:=.int .i64 0) hgRw
        have q0:=hb9.cell 0
        have q1:=hb9.cell 1
        have q2:=hb9.cell 2
        simp at q0 q1 q2
        refine bodyPost_ret (v:=.tuple #[bv none 0 0 none 0 0 0,.int .i64 r]) (by simp [results,Tryz.results83,go_sem,q0,q1,q2];try rfl) rfl ?_
        refine .inl ⟨by rw [HPz.out];exact HCn.out,by rw [HPz.out];exact ⟨rfl,hm9⟩⟩
    · obtain rfl:j=md:=by omega
      have HOw:=Lib.hid hown
      have HMx:=Lib.hid ((HM0.out.trans' HM4.out).trans' hm)
      have hR:=HR.out _ (HM4.out.trans' hm)
      have f0:=hR.frozen 0
      have f1:=hR.frozen 1
      have f2:=hR.frozen 2
      have r0:=hR.cell 0
      have r1:=hR.cell 1
      have r2:=hR.cell 2
      have rl:=hR.lt
      simp at r0 r1 r2
      have HRx:=Lib.hid hR
      clear hR hO hown hm HJ
      go_wp2_with fail
      have hb9:=((HRx.out.set_ 0 (.slice A' n c')).set_ 1 (.slice X' m' k')).set_ 2 (.int .i64 sh)
      simp only [List.setIfInBounds_toArray,List.set_cons_zero,List.set_cons_succ] at hb9
      have hm9:=((HMx.out.setC (i:=0) (u:=.slice A' n c') hgRw).setC (i:=1) (u:=.slice X' m' k') hgRw).setC (i:=2) (u:=.int .i64 sh) hgRw
      have ho9:=own3 (a:=.slice A' n c') (a':=.slice X' m' k') (a'':=.int .i64 sh) HOw.out HRx.out
      rw [List.take_of_length_le (by rw [HLd.out];exact Nat.le_refl _)] at ho9
      have q0:=hb9.cell 0
      have q1:=hb9.cell 1
      have q2:=hb9.cell 2
      simp at q0 q1 q2
      refine bodyPost_ret (v:=.tuple #[bv A' n c' X' m' k' sh,.int .i64 0]) (by simp [results,Tryz.results83,go_sem,q0,q1,q2];try rfl) rfl ?_
      refine .inr ⟨by rw [HLd.out];exact HPu.out,A',n,c',X',m',k',by rw [HSh.out],ho9,hm9⟩
theorem runc_zero {b:Bok} {ps:List Pln} {day:Int} (h:runc b ps day=0):bookc b=0∧plc ps=0∧puc b (dueP ps day) (dueP ps day).length=0:=by
  unfold runc at h
  split at h
  · exact absurd h (by assumption)
  rename_i h1
  split at h
  · exact absurd h (by assumption)
  rename_i h2
  exact ⟨by simpa using h1,by simpa using h2,h⟩
def RunAny (w:World) (r:Int) (b:Bok) (e:Ending) (w':World):Prop:=(r≠0∧RunNo w r e w')∨(r=0∧PostYes w b e w')
theorem run_any (A:Option Addr) (n c:Nat) (X:Option Addr) (m k:Nat) (b:Bok) (L:Option Addr) (p q:Nat) (ps:List Pln) (day:Int) (w:World) (hb:Bq w A n c X m k b) (hr:Ps w L ps) (hn:ps.length=p) (hcap:p≤q) (hml:q≤maxLen) (ht:Tab w) (d0:0≤day) (d9:day≤292193) :
    Calls Tryz.prog 83 #[bv A n c X m k b.shut,.slice L p q,.int .i64 day] w (RunAny w (runc b ps day) (madeb b (dueP ps day))):=by
  by_cases h1:bookc b=0
  · by_cases h2:plc ps=0
    · have e:runc b ps day=puc b (dueP ps day) (dueP ps day).length:=by unfold runc;rw [if_neg (by simp [h1]),if_neg (by simp [h2])]
      rw [e]
      exact run_go A n c X m k b L p q ps day w hb hr hn hcap hml ht d0 d9 h1 h2
    · have e:runc b ps day=plc ps:=by unfold runc;rw [if_neg (by simp [h1]),if_pos h2]
      rw [e]
      exact (run_bad2 A n c X m k b L p q ps day w hb hr hn hcap hml ht d0 d9 h1 h2).mono fun _ _ h=>.inl ⟨h2,h⟩
  · have e:runc b ps day=bookc b:=by unfold runc;rw [if_pos h1]
    rw [e]
    exact (run_bad1 A n c X m k b L p q ps day w hb hr hn hcap hml ht d0 d9 h1).mono fun _ _ h=>.inl ⟨h1,h⟩
theorem run_yes (A:Option Addr) (n c:Nat) (X:Option Addr) (m k:Nat) (b:Bok) (L:Option Addr) (p q:Nat) (ps:List Pln) (day:Int) (w:World) (hb:Bq w A n c X m k b) (hr:Ps w L ps) (hn:ps.length=p) (hcap:p≤q) (hml:q≤maxLen) (ht:Tab w) (d0:0≤day) (d9:day≤292193) (hc:runc b ps day=0) :
    Calls Tryz.prog 83 #[bv A n c X m k b.shut,.slice L p q,.int .i64 day] w (PostYes w (madeb b (dueP ps day))):=by
  refine (run_any A n c X m k b L p q ps day w hb hr hn hcap hml ht d0 d9).mono fun e w' h=>?_
  rcases h with ⟨h,_⟩ | ⟨_,h⟩
  · exact absurd hc h
  · exact h
theorem run_no (A:Option Addr) (n c:Nat) (X:Option Addr) (m k:Nat) (b:Bok) (L:Option Addr) (p q:Nat) (ps:List Pln) (day:Int) (w:World) (hb:Bq w A n c X m k b) (hr:Ps w L ps) (hn:ps.length=p) (hcap:p≤q) (hml:q≤maxLen) (ht:Tab w) (d0:0≤day) (d9:day≤292193) (hc:runc b ps day≠0) :
    Calls Tryz.prog 83 #[bv A n c X m k b.shut,.slice L p q,.int .i64 day] w (RunNo w (runc b ps day)):=by
  refine (run_any A n c X m k b L p q ps day w hb hr hn hcap hml ht d0 d9).mono fun e w' h=>?_
  rcases h with ⟨_,h⟩ | ⟨h,_⟩
  · exact h
  · exact absurd h hc
set_option maxRecDepth 100000 in
set_option maxHeartbeats 1600000 in
theorem due_day (A:Option Addr) (n cap:Nat) (ps:List Pln) (day:Int) (w:World) (hr:Ps w A ps) (hn:ps.length=n) (hcap:n≤cap) (hml:cap≤maxLen) (ht:Tab w) (hc:plc ps=0) (hd:¬ (0≤day∧day≤292193)) :
    Calls Tryz.prog 134 #[.slice A n cap,.int .i64 day] w fun e w'=>e=.returned (.tuple #[.slice none 0 0,.int .i64 1])∧Mor w w':=by
  have HCk:=Lib.hid (fun w' (h:Mor w w')=>plc_any A n cap ps w' (hr.mor h) hn hcap hml (ht.mor h))
  have HIs:=Lib.hid (fun w=>is_any day w)
  rw [hc] at HCk
  rw [decide_eq_false hd] at HIs
  clear hr ht hn hd
  go_enter Tryz.func134,Tryz.ntmps134
  go_wp2_with (first | (go_at_call 81;(with_reducible refine (HCk.out _ (Mor.refl _)).mono ?_);rintro e w1 ⟨rfl,hm1⟩) | (go_at_call 93;(with_reducible refine (HIs.out _).mono ?_);rintro e w2 ⟨rfl,rfl⟩))
  have HM:=Lib.hid hm1
  clear hm1
  go_returns
  exact ⟨rfl,HM.out⟩
set_option maxRecDepth 100000 in
set_option maxHeartbeats 1600000 in
theorem run_bade (A:Option Addr) (n c:Nat) (X:Option Addr) (m k:Nat) (b:Bok) (L:Option Addr) (p q:Nat) (day r:Int) (w:World) (hb:Bq w A n c X m k b) (hc:bookc b=0) (hr:r≠0)
    (hd:∀ w',Mor w w'→Calls Tryz.prog 134 #[.slice L p q,.int .i64 day] w' fun e w''=>e=.returned (.tuple #[.slice none 0 0,.int .i64 r])∧Mor w' w'') :
    Calls Tryz.prog 83 #[bv A n c X m k b.shut,.slice L p q,.int .i64 day] w (RunNo w r):=by
  have HCk:=Lib.hid (fun w' (h:Mor w w')=>bcheck_any A n c X m k b w' (hb.mor h))
  have HDu:=Lib.hid hd
  rw [hc] at HCk
  have hb2:(r != 0)=true:=by simpa using hr
  generalize b.shut=sh at *
  clear hb hr hd
  go_enter Tryz.func83,Tryz.ntmps83
  go_wp2_with fail
  have hM0:=((Mor.refl w).alloc (o:=.cells #[.slice A n c,.slice X m k,.int .i64 sh] 37)).alloc (o:=.cells #[.slice none 0 0,.slice none 0 0,.int .i64 0] 37)
  have hbP0:=(Bk.new w 37 #[.slice A n c,.slice X m k,.int .i64 sh]).alloc (.cells #[.slice none 0 0,.slice none 0 0,.int .i64 0] 37)
  have hbR0:=Bk.new (w.alloc (.cells #[.slice A n c,.slice X m k,.int .i64 sh] 37)) 37 #[.slice none 0 0,.slice none 0 0,.int .i64 0]
  rw [← sz1] at hbR0
  obtain ⟨bP,hgP⟩:∃ g,g=w.heap.size:=⟨_,rfl⟩
  rw [← hgP] at hbP0 hbR0 ⊢
  obtain ⟨bR,hgR⟩:∃ g,g=bP+1:=⟨_,rfl⟩
  rw [← hgR] at hbR0 ⊢
  generalize (w.alloc (.cells #[.slice A n c,.slice X m k,.int .i64 sh] 37)).alloc (.cells #[.slice none 0 0,.slice none 0 0,.int .i64 0] 37)=w0 at *
  have hgPw:w.heap.size≤bP:=by omega
  have hgRw:w.heap.size≤bR:=by omega
  have hPR:bP≠bR:=by omega
  have hRP:bR≠bP:=by omega
  have HP:=Lib.hid (fun w' (h:Mor w0 w')=>hbP0.mor h)
  have HR:=Lib.hid (fun w' (h:Mor w0 w')=>hbR0.mor h)
  have HM0:=Lib.hid hM0
  clear hgP hgR hM0 hbP0 hbR0
  refine (HCk.out _ HM0.out).mono ?_
  rintro e w2 ⟨rfl,hm⟩
  have HM2:=Lib.hid hm
  clear hm
  have hP:=HP.out _ HM2.out
  have p0:=hP.cell 0
  have p1:=hP.cell 1
  have p2:=hP.cell 2
  have pl:=hP.lt
  simp at p0 p1 p2
  go_wp2_with fail
  refine (HDu.out _ (HM0.out.trans' HM2.out)).mono ?_
  rintro e w3 ⟨rfl,hm⟩
  have HM3:=Lib.hid (HM2.out.trans' hm)
  clear hm hP p0 p1 p2 pl
  have hR:=HR.out _ HM3.out
  have f0:=hR.frozen 0
  have f1:=hR.frozen 1
  have f2:=hR.frozen 2
  have r0:=hR.cell 0
  have r1:=hR.cell 1
  have r2:=hR.cell 2
  have rl:=hR.lt
  simp at r0 r1 r2
  have HRx:=Lib.hid hR
  have HMx:=Lib.hid (HM0.out.trans' HM3.out)
  clear hR
  go_wp2_with fail
  have hb9:=((HRx.out.set_ 0 (.slice none 0 0)).set_ 1 (.slice none 0 0)).set_ 2 (.int .i64 0)
  simp only [List.setIfInBounds_toArray,List.set_cons_zero,List.set_cons_succ] at hb9
  have hm9:=((HMx.out.setC (i:=0) (u:=.slice none 0 0) hgRw).setC (i:=1) (u:=.slice none 0 0) hgRw).setC (i:=2) (u:=.int .i64 0) hgRw
  have q0:=hb9.cell 0
  have q1:=hb9.cell 1
  have q2:=hb9.cell 2
  simp at q0 q1 q2
  refine bodyPost_ret (v:=.tuple #[bv none 0 0 none 0 0 0,.int .i64 r]) (by simp [results,Tryz.results83,go_sem,q0,q1,q2];try rfl) rfl ?_
  exact ⟨rfl,hm9⟩
set_option maxRecDepth 100000 in
set_option maxHeartbeats 1600000 in
theorem run_bad1' (A:Option Addr) (n c:Nat) (X:Option Addr) (m k:Nat) (b:Bok) (L:Option Addr) (p q:Nat) (day:Int) (w:World) (hb:Bq w A n c X m k b) (hc:bookc b≠0) :
    Calls Tryz.prog 83 #[bv A n c X m k b.shut,.slice L p q,.int .i64 day] w (RunNo w (bookc b)):=by
  have HCk:=Lib.hid (fun w' (h:Mor w w')=>bcheck_any A n c X m k b w' (hb.mor h))
  have hb2:(bookc b != 0)=true:=by simpa using hc
  generalize b.shut=sh at *
  generalize bookc b=r at *
  clear hb
  go_enter Tryz.func83,Tryz.ntmps83
  go_wp2_with fail
  have hM0:=((Mor.refl w).alloc (o:=.cells #[.slice A n c,.slice X m k,.int .i64 sh] 37)).alloc (o:=.cells #[.slice none 0 0,.slice none 0 0,.int .i64 0] 37)
  have hbP0:=(Bk.new w 37 #[.slice A n c,.slice X m k,.int .i64 sh]).alloc (.cells #[.slice none 0 0,.slice none 0 0,.int .i64 0] 37)
  have hbR0:=Bk.new (w.alloc (.cells #[.slice A n c,.slice X m k,.int .i64 sh] 37)) 37 #[.slice none 0 0,.slice none 0 0,.int .i64 0]
  rw [← sz1] at hbR0
  obtain ⟨bP,hgP⟩:∃ g,g=w.heap.size:=⟨_,rfl⟩
  rw [← hgP] at hbP0 hbR0 ⊢
  obtain ⟨bR,hgR⟩:∃ g,g=bP+1:=⟨_,rfl⟩
  rw [← hgR] at hbR0 ⊢
  generalize (w.alloc (.cells #[.slice A n c,.slice X m k,.int .i64 sh] 37)).alloc (.cells #[.slice none 0 0,.slice none 0 0,.int .i64 0] 37)=w0 at *
  have hgPw:w.heap.size≤bP:=by omega
  have hgRw:w.heap.size≤bR:=by omega
  have hPR:bP≠bR:=by omega
  have hRP:bR≠bP:=by omega
  have HP:=Lib.hid (fun w' (h:Mor w0 w')=>hbP0.mor h)
  have HR:=Lib.hid (fun w' (h:Mor w0 w')=>hbR0.mor h)
  have HM0:=Lib.hid hM0
  clear hgP hgR hM0 hbP0 hbR0
  refine (HCk.out _ HM0.out).mono ?_
  rintro e w2 ⟨rfl,hm⟩
  have HM2:=Lib.hid hm
  clear hm
  have hR:=HR.out _ HM2.out
  have f0:=hR.frozen 0
  have f1:=hR.frozen 1
  have f2:=hR.frozen 2
  have r0:=hR.cell 0
  have r1:=hR.cell 1
  have r2:=hR.cell 2
  have rl:=hR.lt
  simp at r0 r1 r2
  have HRx:=Lib.hid hR
  have HMx:=Lib.hid (HM0.out.trans' HM2.out)
  clear hR
  go_wp2_with fail
  have hb9:=((HRx.out.set_ 0 (.slice none 0 0)).set_ 1 (.slice none 0 0)).set_ 2 (.int .i64 0)
  simp only [List.setIfInBounds_toArray,List.set_cons_zero,List.set_cons_succ] at hb9
  have hm9:=((HMx.out.setC (i:=0) (u:=.slice none 0 0) hgRw).setC (i:=1) (u:=.slice none 0 0) hgRw).setC (i:=2) (u:=.int .i64 0) hgRw
  have q0:=hb9.cell 0
  have q1:=hb9.cell 1
  have q2:=hb9.cell 2
  simp at q0 q1 q2
  refine bodyPost_ret (v:=.tuple #[bv none 0 0 none 0 0 0,.int .i64 r]) (by simp [results,Tryz.results83,go_sem,q0,q1,q2];try rfl) rfl ?_
  exact ⟨rfl,hm9⟩
end Go.Proofs.YtdhbkifpodekcaaGreatDoor
