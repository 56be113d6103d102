/- Texts of this claim. -/
import Derived.Test.YtdhbkifpodekcaaGreatDoorDeskZ20
import Derived.Test.YtdhbkifpodekcaaGreatDoorDeskZ39
import Derived.Test.YtdhbkifpodekcaaGreatDoorDeskZ40
namespace Go.Proofs.YtdhbkifpodekcaaGreatDoor
open Go.ChangeShapes Go.WideShapes Go.ChangeAt Go.RowKit Go.PlainAid
set_option linter.unusedVariables false
set_option maxRecDepth 100000
theorem acc_len {ac:List Ln} (h:acc ac=0):ac.length≤24:=by
  unfold acc at h;split at h <;> omega
def PostNo (w:World) (c:Int) (e:Ending) (w':World):Prop:=e=.returned (.tuple #[bv none 0 0 none 0 0 0,.int .i64 c])∧Mor w w'
def PostYes (w:World) (b:Bok) (e:Ending) (w':World):Prop :=
  ∃ A n c X m k,e=.returned (.tuple #[bv A n c X m k b.shut,.int .i64 0])∧OwnB w' w.heap.size (.slice A n c) (.slice X m k) n m b∧Mor w w'
set_option maxRecDepth 100000 in
set_option maxHeartbeats 1600000 in
theorem post_bad1 (A:Option Addr) (n c:Nat) (X:Option Addr) (m k:Nat) (b:Bok) (x:En) (B:Option Addr) (p q:Nat) (w:World) (hb:Bq w A n c X m k b) (hx:Lq w B p q x.ls) (hks:x.key.size≤maxLen) (hc:bookc b≠0) :
    Calls Tryz.prog 72 #[bv A n c X m k b.shut,.agg #[.string x.key,.int .i64 x.day,.slice B p q]] w (PostNo w (bookc b)):=by
  have HBq:=Lib.hid hb
  have HXq:=Lib.hid hx
  have HKs:=Lib.hid hks
  have HCk:=Lib.hid (fun w' (h:Mor w w')=>bcheck_any A n c X m k b w' (hb.mor h))
  have HEk:=Lib.hid (fun w' (h:Mor w w')=>check_any x.key x.day B p q x.ls w' hks (hx.si.mor h) hx.length hx.le (Nat.le_trans hx.le hx.max) hx.str)
  rw [show entc x.key x.day x.ls=enc x from rfl] at HEk
  have HF:=Lib.hid (show bookc b=bookc b from rfl)
  generalize bookc b=r at *
  have hr:(r != 0)=true:=by simpa using hc
  clear hc
  generalize hky:x.key=ky at *
  generalize hdy:x.day=dy at *
  generalize hsh:b.shut=sh at *
  have HEq:=Lib.hid (And.intro hky (And.intro hdy hsh))
  clear hb hx hks hky hdy hsh
  go_enter Tryz.func72,Tryz.ntmps72
  go_wp2_with fail
  have hP0:=((Bk.new w 37 #[.slice A n c,.slice X m k,.int .i64 sh]).alloc (.cells #[.string ky,.int .i64 dy,.slice B p q] 111)).alloc (.cells #[.slice none 0 0,.slice none 0 0,.int .i64 0] 37)
  have hX0:=(Bk.new (w.alloc (.cells #[.slice A n c,.slice X m k,.int .i64 sh] 37)) 111 #[.string ky,.int .i64 dy,.slice B p q]).alloc (.cells #[.slice none 0 0,.slice none 0 0,.int .i64 0] 37)
  have hR0:=Bk.new ((w.alloc (.cells #[.slice A n c,.slice X m k,.int .i64 sh] 37)).alloc (.cells #[.string ky,.int .i64 dy,.slice B p q] 111)) 37 #[.slice none 0 0,.slice none 0 0,.int .i64 0]
  have hM0:=(((Mor.refl w).alloc (o:=.cells #[.slice A n c,.slice X m k,.int .i64 sh] 37)).alloc (o:=.cells #[.string ky,.int .i64 dy,.slice B p q] 111)).alloc (o:=.cells #[.slice none 0 0,.slice none 0 0,.int .i64 0] 37)
  rw [← sz1,← sz1] at hR0
  rw [← sz1] at hX0
  obtain ⟨bP,hbP⟩:∃ b,b=w.heap.size:=⟨_,rfl⟩
  rw [← hbP] at hP0 hX0 hR0 ⊢
  obtain ⟨bX,hbX⟩:∃ b,b=bP+1:=⟨_,rfl⟩
  rw [← hbX] at hX0 hR0 ⊢
  obtain ⟨bR,hbR⟩:∃ b,b=bX+1:=⟨_,rfl⟩
  rw [← hbR] at hR0 ⊢
  generalize ((w.alloc (.cells #[.slice A n c,.slice X m k,.int .i64 sh] 37)).alloc (.cells #[.string ky,.int .i64 dy,.slice B p q] 111)).alloc (.cells #[.slice none 0 0,.slice none 0 0,.int .i64 0] 37)=w0 at *
  have HP:=Lib.hid (fun w' (h:Mor w0 w')=>hP0.mor h)
  have HX:=Lib.hid (fun w' (h:Mor w0 w')=>hX0.mor h)
  have HR:=Lib.hid (fun w' (h:Mor w0 w')=>hR0.mor h)
  have HM0:=Lib.hid hM0
  have HbR:=Lib.hid (And.intro (show w.heap.size≤bR by omega) (And.intro (show w.heap.size≤bX by omega) (And.intro (show bX < bR by omega) (And.intro (show bP < bX by omega) (show bR < w0.heap.size from hR0.lt)))))
  clear hP0 hX0 hR0 hM0 hbP hbX hbR
  refine (HCk.out _ HM0.out).mono ?_
  rintro e w1 ⟨rfl,hm⟩
  have HM1:=Lib.hid hm
  clear hm
  have hc:=HP.out _ HM1.out
  have c0:=hc.cell 0
  have c1:=hc.cell 1
  have c2:=hc.cell 2
  have cl:=hc.lt
  have he:=HX.out _ HM1.out
  have e0:=he.cell 0
  have e1:=he.cell 1
  have e2:=he.cell 2
  have ef0:=he.frozen 0
  have ef1:=he.frozen 1
  have ef2:=he.frozen 2
  have el:=he.lt
  have hz:=HR.out _ HM1.out
  have z0:=hz.cell 0
  have z1:=hz.cell 1
  have z2:=hz.cell 2
  have zf0:=hz.frozen 0
  have zf1:=hz.frozen 1
  have zf2:=hz.frozen 2
  have zl:=hz.lt
  simp at c0 c1 c2 e0 e1 e2 z0 z1 z2
  clear hc he hz
  have HE9:=Lib.hid (fun w9 (h:w9=(((w1.setCell ⟨bR,0,none⟩ (.slice none 0 0)).setCell ⟨bR,1,none⟩ (.slice none 0 0)).setCell ⟨bR,2,none⟩ (.int .i64 0)))=>put3 (w:=w) _ _ _ (HM0.out.trans' HM1.out) (HR.out _ HM1.out) HbR.out.1 h)
  go_wp2_with fail
  obtain ⟨w9,hw9⟩:∃ w9,w9=(((w1.setCell ⟨bR,0,none⟩ (.slice none 0 0)).setCell ⟨bR,1,none⟩ (.slice none 0 0)).setCell ⟨bR,2,none⟩ (.int .i64 0)):=⟨_,rfl⟩
  rw [← hw9]
  obtain ⟨⟨q0,q1,q2⟩,q3⟩:=HE9.out w9 hw9
  clear hw9
  refine bodyPost_ret (by simp [results,Tryz.results72,go_sem,q0,q1,q2];try rfl) rfl ?_
  exact ⟨rfl,q3⟩
set_option maxRecDepth 100000 in
set_option maxHeartbeats 1600000 in
theorem post_bad2 (A:Option Addr) (n c:Nat) (X:Option Addr) (m k:Nat) (b:Bok) (x:En) (B:Option Addr) (p q:Nat) (w:World) (hb:Bq w A n c X m k b) (hx:Lq w B p q x.ls) (hks:x.key.size≤maxLen) (hc:bookc b=0) (he:enc x≠0) :
    Calls Tryz.prog 72 #[bv A n c X m k b.shut,.agg #[.string x.key,.int .i64 x.day,.slice B p q]] w (PostNo w (enc x)):=by
  have HBq:=Lib.hid hb
  have HXq:=Lib.hid hx
  have HKs:=Lib.hid hks
  have HCk:=Lib.hid (fun w' (h:Mor w w')=>bcheck_any A n c X m k b w' (hb.mor h))
  have HEk:=Lib.hid (fun w' (h:Mor w w')=>check_any x.key x.day B p q x.ls w' hks (hx.si.mor h) hx.length hx.le (Nat.le_trans hx.le hx.max) hx.str)
  rw [show entc x.key x.day x.ls=enc x from rfl] at HEk
  rw [hc] at HCk
  have HF:=Lib.hid (show enc x=enc x from rfl)
  generalize enc x=r at *
  have hr:(r != 0)=true:=by simpa using he
  clear hc he
  generalize hky:x.key=ky at *
  generalize hdy:x.day=dy at *
  generalize hsh:b.shut=sh at *
  have HEq:=Lib.hid (And.intro hky (And.intro hdy hsh))
  clear hb hx hks hky hdy hsh
  go_enter Tryz.func72,Tryz.ntmps72
  go_wp2_with fail
  have hP0:=((Bk.new w 37 #[.slice A n c,.slice X m k,.int .i64 sh]).alloc (.cells #[.string ky,.int .i64 dy,.slice B p q] 111)).alloc (.cells #[.slice none 0 0,.slice none 0 0,.int .i64 0] 37)
  have hX0:=(Bk.new (w.alloc (.cells #[.slice A n c,.slice X m k,.int .i64 sh] 37)) 111 #[.string ky,.int .i64 dy,.slice B p q]).alloc (.cells #[.slice none 0 0,.slice none 0 0,.int .i64 0] 37)
  have hR0:=Bk.new ((w.alloc (.cells #[.slice A n c,.slice X m k,.int .i64 sh] 37)).alloc (.cells #[.string ky,.int .i64 dy,.slice B p q] 111)) 37 #[.slice none 0 0,.slice none 0 0,.int .i64 0]
  have hM0:=(((Mor.refl w).alloc (o:=.cells #[.slice A n c,.slice X m k,.int .i64 sh] 37)).alloc (o:=.cells #[.string ky,.int .i64 dy,.slice B p q] 111)).alloc (o:=.cells #[.slice none 0 0,.slice none 0 0,.int .i64 0] 37)
  rw [← sz1,← sz1] at hR0
  rw [← sz1] at hX0
  obtain ⟨bP,hbP⟩:∃ b,b=w.heap.size:=⟨_,rfl⟩
  rw [← hbP] at hP0 hX0 hR0 ⊢
  obtain ⟨bX,hbX⟩:∃ b,b=bP+1:=⟨_,rfl⟩
  rw [← hbX] at hX0 hR0 ⊢
  obtain ⟨bR,hbR⟩:∃ b,b=bX+1:=⟨_,rfl⟩
  rw [← hbR] at hR0 ⊢
  generalize ((w.alloc (.cells #[.slice A n c,.slice X m k,.int .i64 sh] 37)).alloc (.cells #[.string ky,.int .i64 dy,.slice B p q] 111)).alloc (.cells #[.slice none 0 0,.slice none 0 0,.int .i64 0] 37)=w0 at *
  have HP:=Lib.hid (fun w' (h:Mor w0 w')=>hP0.mor h)
  have HX:=Lib.hid (fun w' (h:Mor w0 w')=>hX0.mor h)
  have HR:=Lib.hid (fun w' (h:Mor w0 w')=>hR0.mor h)
  have HM0:=Lib.hid hM0
  have HbR:=Lib.hid (And.intro (show w.heap.size≤bR by omega) (And.intro (show w.heap.size≤bX by omega) (And.intro (show bX < bR by omega) (And.intro (show bP < bX by omega) (show bR < w0.heap.size from hR0.lt)))))
  clear hP0 hX0 hR0 hM0 hbP hbX hbR
  refine (HCk.out _ HM0.out).mono ?_
  rintro e w1 ⟨rfl,hm⟩
  have HM1:=Lib.hid hm
  clear hm
  have hc:=HP.out _ HM1.out
  have c0:=hc.cell 0
  have c1:=hc.cell 1
  have c2:=hc.cell 2
  have cl:=hc.lt
  have he:=HX.out _ HM1.out
  have e0:=he.cell 0
  have e1:=he.cell 1
  have e2:=he.cell 2
  have ef0:=he.frozen 0
  have ef1:=he.frozen 1
  have ef2:=he.frozen 2
  have el:=he.lt
  have hz:=HR.out _ HM1.out
  have z0:=hz.cell 0
  have z1:=hz.cell 1
  have z2:=hz.cell 2
  have zf0:=hz.frozen 0
  have zf1:=hz.frozen 1
  have zf2:=hz.frozen 2
  have zl:=hz.lt
  simp at c0 c1 c2 e0 e1 e2 z0 z1 z2
  clear hc he hz
  go_wp2_with fail
  refine (HEk.out _ (HM0.out.trans' HM1.out)).mono ?_
  rintro e w2 ⟨rfl,hm⟩
  have HM2:=Lib.hid (HM1.out.trans' hm)
  clear hm
  clear c0 c1 c2 cl e0 e1 e2 ef0 ef1 ef2 el z0 z1 z2 zf0 zf1 zf2 zl
  have hc:=HP.out _ HM2.out
  have c0:=hc.cell 0
  have c1:=hc.cell 1
  have c2:=hc.cell 2
  have cl:=hc.lt
  have he:=HX.out _ HM2.out
  have e0:=he.cell 0
  have e1:=he.cell 1
  have e2:=he.cell 2
  have ef0:=he.frozen 0
  have ef1:=he.frozen 1
  have ef2:=he.frozen 2
  have el:=he.lt
  have hz:=HR.out _ HM2.out
  have z0:=hz.cell 0
  have z1:=hz.cell 1
  have z2:=hz.cell 2
  have zf0:=hz.frozen 0
  have zf1:=hz.frozen 1
  have zf2:=hz.frozen 2
  have zl:=hz.lt
  simp at c0 c1 c2 e0 e1 e2 z0 z1 z2
  clear hc he hz
  have HE9:=Lib.hid (fun w9 (h:w9=(((w2.setCell ⟨bR,0,none⟩ (.slice none 0 0)).setCell ⟨bR,1,none⟩ (.slice none 0 0)).setCell ⟨bR,2,none⟩ (.int .i64 0)))=>put3 (w:=w) _ _ _ (HM0.out.trans' HM2.out) (HR.out _ HM2.out) HbR.out.1 h)
  go_wp2_with fail
  obtain ⟨w9,hw9⟩:∃ w9,w9=(((w2.setCell ⟨bR,0,none⟩ (.slice none 0 0)).setCell ⟨bR,1,none⟩ (.slice none 0 0)).setCell ⟨bR,2,none⟩ (.int .i64 0)):=⟨_,rfl⟩
  rw [← hw9]
  obtain ⟨⟨q0,q1,q2⟩,q3⟩:=HE9.out w9 hw9
  clear hw9
  refine bodyPost_ret (by simp [results,Tryz.results72,go_sem,q0,q1,q2];try rfl) rfl ?_
  exact ⟨rfl,q3⟩
set_option maxRecDepth 100000 in
set_option maxHeartbeats 1600000 in
theorem post_bad4 (A:Option Addr) (n c:Nat) (X:Option Addr) (m k:Nat) (b:Bok) (x:En) (B:Option Addr) (p q:Nat) (w:World) (hb:Bq w A n c X m k b) (hx:Lq w B p q x.ls) (hks:x.key.size≤maxLen) (hc:bookc b=0) (he:enc x=0) (hf:¬ 0≤findE b.en x.key) (hkn:knownB b.ac x=false) :
    Calls Tryz.prog 72 #[bv A n c X m k b.shut,.agg #[.string x.key,.int .i64 x.day,.slice B p q]] w (PostNo w 4):=by
  have HBq:=Lib.hid hb
  have HXq:=Lib.hid hx
  have HKs:=Lib.hid hks
  have HCk:=Lib.hid (fun w' (h:Mor w w')=>bcheck_any A n c X m k b w' (hb.mor h))
  have HEk:=Lib.hid (fun w' (h:Mor w w')=>check_any x.key x.day B p q x.ls w' hks (hx.si.mor h) hx.length hx.le (Nat.le_trans hx.le hx.max) hx.str)
  rw [show entc x.key x.day x.ls=enc x from rfl] at HEk
  rw [hc] at HCk
  rw [he] at HEk
  have HBO:=Lib.hid ((bookc_iff b).1 hc)
  have HEO:=Lib.hid he
  have hm60:m≤60:=by rw [← hb.length];exact ((bookc_iff b).1 hc).len
  have hn24:n≤24:=by rw [← hb.ac.length];exact (acc_len ((bookc_iff b).1 hc).ac)
  have hp12:p≤12:=by rw [← hx.length];exact (linec_ok (entc_ok he).2.2.2).1
  have HFi:=Lib.hid (fun w' (h:Mor w w')=>find_en A n c X m k b.shut b.en x.key w' (hb.es.mor h) hb.length (by omega))
  have HKn:=Lib.hid (fun w' (h:Mor w w')=>known_any A n c X m k b.shut B p q b.ac x w' (hb.ac.si.mor h) hb.ac.length (by omega) (hx.si.mor h) hx.length (by omega))
  have HCp:=Lib.hid (fun w' (h:Mor w w')=>copied_any A n c X m k b w' (hb.mor h) (by omega) (by omega) (fun y hy=>by have:=(linec_ok (entc_ok (((bookc_iff b).1 hc).enc y hy)).2.2.2).1;omega))
  rw [hkn] at HKn
  generalize findE b.en x.key=fi at *
  clear hc he hkn
  generalize hky:x.key=ky at *
  generalize hdy:x.day=dy at *
  generalize hsh:b.shut=sh at *
  have HEq:=Lib.hid (And.intro hky (And.intro hdy hsh))
  clear hb hx hks hky hdy hsh
  go_enter Tryz.func72,Tryz.ntmps72
  go_wp2_with fail
  have hP0:=((Bk.new w 37 #[.slice A n c,.slice X m k,.int .i64 sh]).alloc (.cells #[.string ky,.int .i64 dy,.slice B p q] 111)).alloc (.cells #[.slice none 0 0,.slice none 0 0,.int .i64 0] 37)
  have hX0:=(Bk.new (w.alloc (.cells #[.slice A n c,.slice X m k,.int .i64 sh] 37)) 111 #[.string ky,.int .i64 dy,.slice B p q]).alloc (.cells #[.slice none 0 0,.slice none 0 0,.int .i64 0] 37)
  have hR0:=Bk.new ((w.alloc (.cells #[.slice A n c,.slice X m k,.int .i64 sh] 37)).alloc (.cells #[.string ky,.int .i64 dy,.slice B p q] 111)) 37 #[.slice none 0 0,.slice none 0 0,.int .i64 0]
  have hM0:=(((Mor.refl w).alloc (o:=.cells #[.slice A n c,.slice X m k,.int .i64 sh] 37)).alloc (o:=.cells #[.string ky,.int .i64 dy,.slice B p q] 111)).alloc (o:=.cells #[.slice none 0 0,.slice none 0 0,.int .i64 0] 37)
  rw [← sz1,← sz1] at hR0
  rw [← sz1] at hX0
  obtain ⟨bP,hbP⟩:∃ b,b=w.heap.size:=⟨_,rfl⟩
  rw [← hbP] at hP0 hX0 hR0 ⊢
  obtain ⟨bX,hbX⟩:∃ b,b=bP+1:=⟨_,rfl⟩
  rw [← hbX] at hX0 hR0 ⊢
  obtain ⟨bR,hbR⟩:∃ b,b=bX+1:=⟨_,rfl⟩
  rw [← hbR] at hR0 ⊢
  generalize ((w.alloc (.cells #[.slice A n c,.slice X m k,.int .i64 sh] 37)).alloc (.cells #[.string ky,.int .i64 dy,.slice B p q] 111)).alloc (.cells #[.slice none 0 0,.slice none 0 0,.int .i64 0] 37)=w0 at *
  have HP:=Lib.hid (fun w' (h:Mor w0 w')=>hP0.mor h)
  have HX:=Lib.hid (fun w' (h:Mor w0 w')=>hX0.mor h)
  have HR:=Lib.hid (fun w' (h:Mor w0 w')=>hR0.mor h)
  have HM0:=Lib.hid hM0
  have HbR:=Lib.hid (And.intro (show w.heap.size≤bR by omega) (And.intro (show w.heap.size≤bX by omega) (And.intro (show bX < bR by omega) (And.intro (show bP < bX by omega) (show bR < w0.heap.size from hR0.lt)))))
  clear hP0 hX0 hR0 hM0 hbP hbX hbR
  refine (HCk.out _ HM0.out).mono ?_
  rintro e w1 ⟨rfl,hm⟩
  have HM1:=Lib.hid hm
  clear hm
  have hc:=HP.out _ HM1.out
  have c0:=hc.cell 0
  have c1:=hc.cell 1
  have c2:=hc.cell 2
  have cl:=hc.lt
  have he:=HX.out _ HM1.out
  have e0:=he.cell 0
  have e1:=he.cell 1
  have e2:=he.cell 2
  have ef0:=he.frozen 0
  have ef1:=he.frozen 1
  have ef2:=he.frozen 2
  have el:=he.lt
  have hz:=HR.out _ HM1.out
  have z0:=hz.cell 0
  have z1:=hz.cell 1
  have z2:=hz.cell 2
  have zf0:=hz.frozen 0
  have zf1:=hz.frozen 1
  have zf2:=hz.frozen 2
  have zl:=hz.lt
  simp at c0 c1 c2 e0 e1 e2 z0 z1 z2
  clear hc he hz
  go_wp2_with fail
  refine (HEk.out _ (HM0.out.trans' HM1.out)).mono ?_
  rintro e w2 ⟨rfl,hm⟩
  have HM2:=Lib.hid (HM1.out.trans' hm)
  clear hm
  clear c0 c1 c2 cl e0 e1 e2 ef0 ef1 ef2 el z0 z1 z2 zf0 zf1 zf2 zl
  have hc:=HP.out _ HM2.out
  have c0:=hc.cell 0
  have c1:=hc.cell 1
  have c2:=hc.cell 2
  have cl:=hc.lt
  have he:=HX.out _ HM2.out
  have e0:=he.cell 0
  have e1:=he.cell 1
  have e2:=he.cell 2
  have ef0:=he.frozen 0
  have ef1:=he.frozen 1
  have ef2:=he.frozen 2
  have el:=he.lt
  have hz:=HR.out _ HM2.out
  have z0:=hz.cell 0
  have z1:=hz.cell 1
  have z2:=hz.cell 2
  have zf0:=hz.frozen 0
  have zf1:=hz.frozen 1
  have zf2:=hz.frozen 2
  have zl:=hz.lt
  simp at c0 c1 c2 e0 e1 e2 z0 z1 z2
  clear hc he hz
  go_wp2_with fail
  refine (HFi.out _ (HM0.out.trans' HM2.out)).mono ?_
  rintro e w3 ⟨rfl,hm⟩
  have HM3:=Lib.hid (HM2.out.trans' hm)
  clear hm
  clear c0 c1 c2 cl e0 e1 e2 ef0 ef1 ef2 el z0 z1 z2 zf0 zf1 zf2 zl
  have hc:=HP.out _ HM3.out
  have c0:=hc.cell 0
  have c1:=hc.cell 1
  have c2:=hc.cell 2
  have cl:=hc.lt
  have he:=HX.out _ HM3.out
  have e0:=he.cell 0
  have e1:=he.cell 1
  have e2:=he.cell 2
  have ef0:=he.frozen 0
  have ef1:=he.frozen 1
  have ef2:=he.frozen 2
  have el:=he.lt
  have hz:=HR.out _ HM3.out
  have z0:=hz.cell 0
  have z1:=hz.cell 1
  have z2:=hz.cell 2
  have zf0:=hz.frozen 0
  have zf1:=hz.frozen 1
  have zf2:=hz.frozen 2
  have zl:=hz.lt
  simp at c0 c1 c2 e0 e1 e2 z0 z1 z2
  clear hc he hz
  go_wp2_with fail
  refine (HKn.out _ (HM0.out.trans' HM3.out)).mono ?_
  rintro e w4 ⟨rfl,hm⟩
  have HM4:=Lib.hid (HM3.out.trans' hm)
  clear hm
  clear c0 c1 c2 cl e0 e1 e2 ef0 ef1 ef2 el z0 z1 z2 zf0 zf1 zf2 zl
  have hc:=HP.out _ HM4.out
  have c0:=hc.cell 0
  have c1:=hc.cell 1
  have c2:=hc.cell 2
  have cl:=hc.lt
  have he:=HX.out _ HM4.out
  have e0:=he.cell 0
  have e1:=he.cell 1
  have e2:=he.cell 2
  have ef0:=he.frozen 0
  have ef1:=he.frozen 1
  have ef2:=he.frozen 2
  have el:=he.lt
  have hz:=HR.out _ HM4.out
  have z0:=hz.cell 0
  have z1:=hz.cell 1
  have z2:=hz.cell 2
  have zf0:=hz.frozen 0
  have zf1:=hz.frozen 1
  have zf2:=hz.frozen 2
  have zl:=hz.lt
  simp at c0 c1 c2 e0 e1 e2 z0 z1 z2
  clear hc he hz
  have HE9:=Lib.hid (fun w9 (h:w9=(((w4.setCell ⟨bR,0,none⟩ (.slice none 0 0)).setCell ⟨bR,1,none⟩ (.slice none 0 0)).setCell ⟨bR,2,none⟩ (.int .i64 0)))=>put3 (w:=w) _ _ _ (HM0.out.trans' HM4.out) (HR.out _ HM4.out) HbR.out.1 h)
  go_wp2_with fail
  obtain ⟨w9,hw9⟩:∃ w9,w9=(((w4.setCell ⟨bR,0,none⟩ (.slice none 0 0)).setCell ⟨bR,1,none⟩ (.slice none 0 0)).setCell ⟨bR,2,none⟩ (.int .i64 0)):=⟨_,rfl⟩
  rw [← hw9]
  obtain ⟨⟨q0,q1,q2⟩,q3⟩:=HE9.out w9 hw9
  clear hw9
  refine bodyPost_ret (by simp [results,Tryz.results72,go_sem,q0,q1,q2];try rfl) rfl ?_
  exact ⟨rfl,q3⟩
set_option maxRecDepth 100000 in
set_option maxHeartbeats 1600000 in
theorem post_bad9 (A:Option Addr) (n c:Nat) (X:Option Addr) (m k:Nat) (b:Bok) (x:En) (B:Option Addr) (p q:Nat) (w:World) (hb:Bq w A n c X m k b) (hx:Lq w B p q x.ls) (hks:x.key.size≤maxLen) (hc:bookc b=0) (he:enc x=0) (hf:¬ 0≤findE b.en x.key) (hkn:knownB b.ac x=true) (hs:x.day≤b.shut) :
    Calls Tryz.prog 72 #[bv A n c X m k b.shut,.agg #[.string x.key,.int .i64 x.day,.slice B p q]] w (PostNo w 9):=by
  have HBq:=Lib.hid hb
  have HXq:=Lib.hid hx
  have HKs:=Lib.hid hks
  have HCk:=Lib.hid (fun w' (h:Mor w w')=>bcheck_any A n c X m k b w' (hb.mor h))
  have HEk:=Lib.hid (fun w' (h:Mor w w')=>check_any x.key x.day B p q x.ls w' hks (hx.si.mor h) hx.length hx.le (Nat.le_trans hx.le hx.max) hx.str)
  rw [show entc x.key x.day x.ls=enc x from rfl] at HEk
  rw [hc] at HCk
  rw [he] at HEk
  have HBO:=Lib.hid ((bookc_iff b).1 hc)
  have HEO:=Lib.hid he
  have hm60:m≤60:=by rw [← hb.length];exact ((bookc_iff b).1 hc).len
  have hn24:n≤24:=by rw [← hb.ac.length];exact (acc_len ((bookc_iff b).1 hc).ac)
  have hp12:p≤12:=by rw [← hx.length];exact (linec_ok (entc_ok he).2.2.2).1
  have HFi:=Lib.hid (fun w' (h:Mor w w')=>find_en A n c X m k b.shut b.en x.key w' (hb.es.mor h) hb.length (by omega))
  have HKn:=Lib.hid (fun w' (h:Mor w w')=>known_any A n c X m k b.shut B p q b.ac x w' (hb.ac.si.mor h) hb.ac.length (by omega) (hx.si.mor h) hx.length (by omega))
  have HCp:=Lib.hid (fun w' (h:Mor w w')=>copied_any A n c X m k b w' (hb.mor h) (by omega) (by omega) (fun y hy=>by have:=(linec_ok (entc_ok (((bookc_iff b).1 hc).enc y hy)).2.2.2).1;omega))
  rw [hkn] at HKn
  generalize findE b.en x.key=fi at *
  clear hc he hkn
  generalize hky:x.key=ky at *
  generalize hdy:x.day=dy at *
  generalize hsh:b.shut=sh at *
  have HEq:=Lib.hid (And.intro hky (And.intro hdy hsh))
  clear hb hx hks hky hdy hsh
  go_enter Tryz.func72,Tryz.ntmps72
  go_wp2_with fail
  have hP0:=((Bk.new w 37 #[.slice A n c,.slice X m k,.int .i64 sh]).alloc (.cells #[.string ky,.int .i64 dy,.slice B p q] 111)).alloc (.cells #[.slice none 0 0,.slice none 0 0,.int .i64 0] 37)
  have hX0:=(Bk.new (w.alloc (.cells #[.slice A n c,.slice X m k,.int .i64 sh] 37)) 111 #[.string ky,.int .i64 dy,.slice B p q]).alloc (.cells #[.slice none 0 0,.slice none 0 0,.int .i64 0] 37)
  have hR0:=Bk.new ((w.alloc (.cells #[.slice A n c,.slice X m k,.int .i64 sh] 37)).alloc (.cells #[.string ky,.int .i64 dy,.slice B p q] 111)) 37 #[.slice none 0 0,.slice none 0 0,.int .i64 0]
  have hM0:=(((Mor.refl w).alloc (o:=.cells #[.slice A n c,.slice X m k,.int .i64 sh] 37)).alloc (o:=.cells #[.string ky,.int .i64 dy,.slice B p q] 111)).alloc (o:=.cells #[.slice none 0 0,.slice none 0 0,.int .i64 0] 37)
  rw [← sz1,← sz1] at hR0
  rw [← sz1] at hX0
  obtain ⟨bP,hbP⟩:∃ b,b=w.heap.size:=⟨_,rfl⟩
  rw [← hbP] at hP0 hX0 hR0 ⊢
  obtain ⟨bX,hbX⟩:∃ b,b=bP+1:=⟨_,rfl⟩
  rw [← hbX] at hX0 hR0 ⊢
  obtain ⟨bR,hbR⟩:∃ b,b=bX+1:=⟨_,rfl⟩
  rw [← hbR] at hR0 ⊢
  generalize ((w.alloc (.cells #[.slice A n c,.slice X m k,.int .i64 sh] 37)).alloc (.cells #[.string ky,.int .i64 dy,.slice B p q] 111)).alloc (.cells #[.slice none 0 0,.slice none 0 0,.int .i64 0] 37)=w0 at *
  have HP:=Lib.hid (fun w' (h:Mor w0 w')=>hP0.mor h)
  have HX:=Lib.hid (fun w' (h:Mor w0 w')=>hX0.mor h)
  have HR:=Lib.hid (fun w' (h:Mor w0 w')=>hR0.mor h)
  have HM0:=Lib.hid hM0
  have HbR:=Lib.hid (And.intro (show w.heap.size≤bR by omega) (And.intro (show w.heap.size≤bX by omega) (And.intro (show bX < bR by omega) (And.intro (show bP < bX by omega) (show bR < w0.heap.size from hR0.lt)))))
  clear hP0 hX0 hR0 hM0 hbP hbX hbR
  refine (HCk.out _ HM0.out).mono ?_
  rintro e w1 ⟨rfl,hm⟩
  have HM1:=Lib.hid hm
  clear hm
  have hc:=HP.out _ HM1.out
  have c0:=hc.cell 0
  have c1:=hc.cell 1
  have c2:=hc.cell 2
  have cl:=hc.lt
  have he:=HX.out _ HM1.out
  have e0:=he.cell 0
  have e1:=he.cell 1
  have e2:=he.cell 2
  have ef0:=he.frozen 0
  have ef1:=he.frozen 1
  have ef2:=he.frozen 2
  have el:=he.lt
  have hz:=HR.out _ HM1.out
  have z0:=hz.cell 0
  have z1:=hz.cell 1
  have z2:=hz.cell 2
  have zf0:=hz.frozen 0
  have zf1:=hz.frozen 1
  have zf2:=hz.frozen 2
  have zl:=hz.lt
  simp at c0 c1 c2 e0 e1 e2 z0 z1 z2
  clear hc he hz
  go_wp2_with fail
  refine (HEk.out _ (HM0.out.trans' HM1.out)).mono ?_
  rintro e w2 ⟨rfl,hm⟩
  have HM2:=Lib.hid (HM1.out.trans' hm)
  clear hm
  clear c0 c1 c2 cl e0 e1 e2 ef0 ef1 ef2 el z0 z1 z2 zf0 zf1 zf2 zl
  have hc:=HP.out _ HM2.out
  have c0:=hc.cell 0
  have c1:=hc.cell 1
  have c2:=hc.cell 2
  have cl:=hc.lt
  have he:=HX.out _ HM2.out
  have e0:=he.cell 0
  have e1:=he.cell 1
  have e2:=he.cell 2
  have ef0:=he.frozen 0
  have ef1:=he.frozen 1
  have ef2:=he.frozen 2
  have el:=he.lt
  have hz:=HR.out _ HM2.out
  have z0:=hz.cell 0
  have z1:=hz.cell 1
  have z2:=hz.cell 2
  have zf0:=hz.frozen 0
  have zf1:=hz.frozen 1
  have zf2:=hz.frozen 2
  have zl:=hz.lt
  simp at c0 c1 c2 e0 e1 e2 z0 z1 z2
  clear hc he hz
  go_wp2_with fail
  refine (HFi.out _ (HM0.out.trans' HM2.out)).mono ?_
  rintro e w3 ⟨rfl,hm⟩
  have HM3:=Lib.hid (HM2.out.trans' hm)
  clear hm
  clear c0 c1 c2 cl e0 e1 e2 ef0 ef1 ef2 el z0 z1 z2 zf0 zf1 zf2 zl
  have hc:=HP.out _ HM3.out
  have c0:=hc.cell 0
  have c1:=hc.cell 1
  have c2:=hc.cell 2
  have cl:=hc.lt
  have he:=HX.out _ HM3.out
  have e0:=he.cell 0
  have e1:=he.cell 1
  have e2:=he.cell 2
  have ef0:=he.frozen 0
  have ef1:=he.frozen 1
  have ef2:=he.frozen 2
  have el:=he.lt
  have hz:=HR.out _ HM3.out
  have z0:=hz.cell 0
  have z1:=hz.cell 1
  have z2:=hz.cell 2
  have zf0:=hz.frozen 0
  have zf1:=hz.frozen 1
  have zf2:=hz.frozen 2
  have zl:=hz.lt
  simp at c0 c1 c2 e0 e1 e2 z0 z1 z2
  clear hc he hz
  go_wp2_with fail
  refine (HKn.out _ (HM0.out.trans' HM3.out)).mono ?_
  rintro e w4 ⟨rfl,hm⟩
  have HM4:=Lib.hid (HM3.out.trans' hm)
  clear hm
  clear c0 c1 c2 cl e0 e1 e2 ef0 ef1 ef2 el z0 z1 z2 zf0 zf1 zf2 zl
  have hc:=HP.out _ HM4.out
  have c0:=hc.cell 0
  have c1:=hc.cell 1
  have c2:=hc.cell 2
  have cl:=hc.lt
  have he:=HX.out _ HM4.out
  have e0:=he.cell 0
  have e1:=he.cell 1
  have e2:=he.cell 2
  have ef0:=he.frozen 0
  have ef1:=he.frozen 1
  have ef2:=he.frozen 2
  have el:=he.lt
  have hz:=HR.out _ HM4.out
  have z0:=hz.cell 0
  have z1:=hz.cell 1
  have z2:=hz.cell 2
  have zf0:=hz.frozen 0
  have zf1:=hz.frozen 1
  have zf2:=hz.frozen 2
  have zl:=hz.lt
  simp at c0 c1 c2 e0 e1 e2 z0 z1 z2
  clear hc he hz
  have HE9:=Lib.hid (fun w9 (h:w9=(((w4.setCell ⟨bR,0,none⟩ (.slice none 0 0)).setCell ⟨bR,1,none⟩ (.slice none 0 0)).setCell ⟨bR,2,none⟩ (.int .i64 0)))=>put3 (w:=w) _ _ _ (HM0.out.trans' HM4.out) (HR.out _ HM4.out) HbR.out.1 h)
  go_wp2_with fail
  obtain ⟨w9,hw9⟩:∃ w9,w9=(((w4.setCell ⟨bR,0,none⟩ (.slice none 0 0)).setCell ⟨bR,1,none⟩ (.slice none 0 0)).setCell ⟨bR,2,none⟩ (.int .i64 0)):=⟨_,rfl⟩
  rw [← hw9]
  obtain ⟨⟨q0,q1,q2⟩,q3⟩:=HE9.out w9 hw9
  clear hw9
  refine bodyPost_ret (by simp [results,Tryz.results72,go_sem,q0,q1,q2];try rfl) rfl ?_
  exact ⟨rfl,q3⟩
set_option maxRecDepth 100000 in
set_option maxHeartbeats 1600000 in
theorem post_bad60 (A:Option Addr) (n c:Nat) (X:Option Addr) (m k:Nat) (b:Bok) (x:En) (B:Option Addr) (p q:Nat) (w:World) (hb:Bq w A n c X m k b) (hx:Lq w B p q x.ls) (hks:x.key.size≤maxLen) (hc:bookc b=0) (he:enc x=0) (hf:¬ 0≤findE b.en x.key) (hkn:knownB b.ac x=true) (hs:¬ x.day≤b.shut) (h60:m=60) :
    Calls Tryz.prog 72 #[bv A n c X m k b.shut,.agg #[.string x.key,.int .i64 x.day,.slice B p q]] w (PostNo w 2):=by
  have HBq:=Lib.hid hb
  have HXq:=Lib.hid hx
  have HKs:=Lib.hid hks
  have HCk:=Lib.hid (fun w' (h:Mor w w')=>bcheck_any A n c X m k b w' (hb.mor h))
  have HEk:=Lib.hid (fun w' (h:Mor w w')=>check_any x.key x.day B p q x.ls w' hks (hx.si.mor h) hx.length hx.le (Nat.le_trans hx.le hx.max) hx.str)
  rw [show entc x.key x.day x.ls=enc x from rfl] at HEk
  rw [hc] at HCk
  rw [he] at HEk
  have HBO:=Lib.hid ((bookc_iff b).1 hc)
  have HEO:=Lib.hid he
  have hm60:m≤60:=by rw [← hb.length];exact ((bookc_iff b).1 hc).len
  have hn24:n≤24:=by rw [← hb.ac.length];exact (acc_len ((bookc_iff b).1 hc).ac)
  have hp12:p≤12:=by rw [← hx.length];exact (linec_ok (entc_ok he).2.2.2).1
  have HFi:=Lib.hid (fun w' (h:Mor w w')=>find_en A n c X m k b.shut b.en x.key w' (hb.es.mor h) hb.length (by omega))
  have HKn:=Lib.hid (fun w' (h:Mor w w')=>known_any A n c X m k b.shut B p q b.ac x w' (hb.ac.si.mor h) hb.ac.length (by omega) (hx.si.mor h) hx.length (by omega))
  have HCp:=Lib.hid (fun w' (h:Mor w w')=>copied_any A n c X m k b w' (hb.mor h) (by omega) (by omega) (fun y hy=>by have:=(linec_ok (entc_ok (((bookc_iff b).1 hc).enc y hy)).2.2.2).1;omega))
  rw [hkn] at HKn
  generalize findE b.en x.key=fi at *
  have h60b:((m:Int) == 60)=true:=by simp;omega
  clear hc he hkn h60
  generalize hky:x.key=ky at *
  generalize hdy:x.day=dy at *
  generalize hsh:b.shut=sh at *
  have HEq:=Lib.hid (And.intro hky (And.intro hdy hsh))
  clear hb hx hks hky hdy hsh
  go_enter Tryz.func72,Tryz.ntmps72
  go_wp2_with fail
  have hP0:=((Bk.new w 37 #[.slice A n c,.slice X m k,.int .i64 sh]).alloc (.cells #[.string ky,.int .i64 dy,.slice B p q] 111)).alloc (.cells #[.slice none 0 0,.slice none 0 0,.int .i64 0] 37)
  have hX0:=(Bk.new (w.alloc (.cells #[.slice A n c,.slice X m k,.int .i64 sh] 37)) 111 #[.string ky,.int .i64 dy,.slice B p q]).alloc (.cells #[.slice none 0 0,.slice none 0 0,.int .i64 0] 37)
  have hR0:=Bk.new ((w.alloc (.cells #[.slice A n c,.slice X m k,.int .i64 sh] 37)).alloc (.cells #[.string ky,.int .i64 dy,.slice B p q] 111)) 37 #[.slice none 0 0,.slice none 0 0,.int .i64 0]
  have hM0:=(((Mor.refl w).alloc (o:=.cells #[.slice A n c,.slice X m k,.int .i64 sh] 37)).alloc (o:=.cells #[.string ky,.int .i64 dy,.slice B p q] 111)).alloc (o:=.cells #[.slice none 0 0,.slice none 0 0,.int .i64 0] 37)
  rw [← sz1,← sz1] at hR0
  rw [← sz1] at hX0
  obtain ⟨bP,hbP⟩:∃ b,b=w.heap.size:=⟨_,rfl⟩
  rw [← hbP] at hP0 hX0 hR0 ⊢
  obtain ⟨bX,hbX⟩:∃ b,b=bP+1:=⟨_,rfl⟩
  rw [← hbX] at hX0 hR0 ⊢
  obtain ⟨bR,hbR⟩:∃ b,b=bX+1:=⟨_,rfl⟩
  rw [← hbR] at hR0 ⊢
  generalize ((w.alloc (.cells #[.slice A n c,.slice X m k,.int .i64 sh] 37)).alloc (.cells #[.string ky,.int .i64 dy,.slice B p q] 111)).alloc (.cells #[.slice none 0 0,.slice none 0 0,.int .i64 0] 37)=w0 at *
  have HP:=Lib.hid (fun w' (h:Mor w0 w')=>hP0.mor h)
  have HX:=Lib.hid (fun w' (h:Mor w0 w')=>hX0.mor h)
  have HR:=Lib.hid (fun w' (h:Mor w0 w')=>hR0.mor h)
  have HM0:=Lib.hid hM0
  have HbR:=Lib.hid (And.intro (show w.heap.size≤bR by omega) (And.intro (show w.heap.size≤bX by omega) (And.intro (show bX < bR by omega) (And.intro (show bP < bX by omega) (show bR < w0.heap.size from hR0.lt)))))
  clear hP0 hX0 hR0 hM0 hbP hbX hbR
  refine (HCk.out _ HM0.out).mono ?_
  rintro e w1 ⟨rfl,hm⟩
  have HM1:=Lib.hid hm
  clear hm
  have hc:=HP.out _ HM1.out
  have c0:=hc.cell 0
  have c1:=hc.cell 1
  have c2:=hc.cell 2
  have cl:=hc.lt
  have he:=HX.out _ HM1.out
  have e0:=he.cell 0
  have e1:=he.cell 1
  have e2:=he.cell 2
  have ef0:=he.frozen 0
  have ef1:=he.frozen 1
  have ef2:=he.frozen 2
  have el:=he.lt
  have hz:=HR.out _ HM1.out
  have z0:=hz.cell 0
  have z1:=hz.cell 1
  have z2:=hz.cell 2
  have zf0:=hz.frozen 0
  have zf1:=hz.frozen 1
  have zf2:=hz.frozen 2
  have zl:=hz.lt
  simp at c0 c1 c2 e0 e1 e2 z0 z1 z2
  clear hc he hz
  go_wp2_with fail
  refine (HEk.out _ (HM0.out.trans' HM1.out)).mono ?_
  rintro e w2 ⟨rfl,hm⟩
  have HM2:=Lib.hid (HM1.out.trans' hm)
  clear hm
  clear c0 c1 c2 cl e0 e1 e2 ef0 ef1 ef2 el z0 z1 z2 zf0 zf1 zf2 zl
  have hc:=HP.out _ HM2.out
  have c0:=hc.cell 0
  have c1:=hc.cell 1
  have c2:=hc.cell 2
  have cl:=hc.lt
  have he:=HX.out _ HM2.out
  have e0:=he.cell 0
  have e1:=he.cell 1
  have e2:=he.cell 2
  have ef0:=he.frozen 0
  have ef1:=he.frozen 1
  have ef2:=he.frozen 2
  have el:=he.lt
  have hz:=HR.out _ HM2.out
  have z0:=hz.cell 0
  have z1:=hz.cell 1
  have z2:=hz.cell 2
  have zf0:=hz.frozen 0
  have zf1:=hz.frozen 1
  have zf2:=hz.frozen 2
  have zl:=hz.lt
  simp at c0 c1 c2 e0 e1 e2 z0 z1 z2
  clear hc he hz
  go_wp2_with fail
  refine (HFi.out _ (HM0.out.trans' HM2.out)).mono ?_
  rintro e w3 ⟨rfl,hm⟩
  have HM3:=Lib.hid (HM2.out.trans' hm)
  clear hm
  clear c0 c1 c2 cl e0 e1 e2 ef0 ef1 ef2 el z0 z1 z2 zf0 zf1 zf2 zl
  have hc:=HP.out _ HM3.out
  have c0:=hc.cell 0
  have c1:=hc.cell 1
  have c2:=hc.cell 2
  have cl:=hc.lt
  have he:=HX.out _ HM3.out
  have e0:=he.cell 0
  have e1:=he.cell 1
  have e2:=he.cell 2
  have ef0:=he.frozen 0
  have ef1:=he.frozen 1
  have ef2:=he.frozen 2
  have el:=he.lt
  have hz:=HR.out _ HM3.out
  have z0:=hz.cell 0
  have z1:=hz.cell 1
  have z2:=hz.cell 2
  have zf0:=hz.frozen 0
  have zf1:=hz.frozen 1
  have zf2:=hz.frozen 2
  have zl:=hz.lt
  simp at c0 c1 c2 e0 e1 e2 z0 z1 z2
  clear hc he hz
  go_wp2_with fail
  refine (HKn.out _ (HM0.out.trans' HM3.out)).mono ?_
  rintro e w4 ⟨rfl,hm⟩
  have HM4:=Lib.hid (HM3.out.trans' hm)
  clear hm
  clear c0 c1 c2 cl e0 e1 e2 ef0 ef1 ef2 el z0 z1 z2 zf0 zf1 zf2 zl
  have hc:=HP.out _ HM4.out
  have c0:=hc.cell 0
  have c1:=hc.cell 1
  have c2:=hc.cell 2
  have cl:=hc.lt
  have he:=HX.out _ HM4.out
  have e0:=he.cell 0
  have e1:=he.cell 1
  have e2:=he.cell 2
  have ef0:=he.frozen 0
  have ef1:=he.frozen 1
  have ef2:=he.frozen 2
  have el:=he.lt
  have hz:=HR.out _ HM4.out
  have z0:=hz.cell 0
  have z1:=hz.cell 1
  have z2:=hz.cell 2
  have zf0:=hz.frozen 0
  have zf1:=hz.frozen 1
  have zf2:=hz.frozen 2
  have zl:=hz.lt
  simp at c0 c1 c2 e0 e1 e2 z0 z1 z2
  clear hc he hz
  have HE9:=Lib.hid (fun w9 (h:w9=(((w4.setCell ⟨bR,0,none⟩ (.slice none 0 0)).setCell ⟨bR,1,none⟩ (.slice none 0 0)).setCell ⟨bR,2,none⟩ (.int .i64 0)))=>put3 (w:=w) _ _ _ (HM0.out.trans' HM4.out) (HR.out _ HM4.out) HbR.out.1 h)
  go_wp2_with fail
  obtain ⟨w9,hw9⟩:∃ w9,w9=(((w4.setCell ⟨bR,0,none⟩ (.slice none 0 0)).setCell ⟨bR,1,none⟩ (.slice none 0 0)).setCell ⟨bR,2,none⟩ (.int .i64 0)):=⟨_,rfl⟩
  rw [← hw9]
  obtain ⟨⟨q0,q1,q2⟩,q3⟩:=HE9.out w9 hw9
  clear hw9
  refine bodyPost_ret (by simp [results,Tryz.results72,go_sem,q0,q1,q2];try rfl) rfl ?_
  exact ⟨rfl,q3⟩
set_option maxRecDepth 100000 in
set_option maxHeartbeats 1600000 in
theorem post_bad5 (A:Option Addr) (n c:Nat) (X:Option Addr) (m k:Nat) (b:Bok) (x:En) (B:Option Addr) (p q:Nat) (w:World) (hb:Bq w A n c X m k b) (hx:Lq w B p q x.ls) (hks:x.key.size≤maxLen) (hc:bookc b=0) (he:enc x=0) (hf:0≤findE b.en x.key) (hne:ne b.en (findE b.en x.key).toNat≠x) :
    Calls Tryz.prog 72 #[bv A n c X m k b.shut,.agg #[.string x.key,.int .i64 x.day,.slice B p q]] w (PostNo w 5):=by
  have HBq:=Lib.hid hb
  have HXq:=Lib.hid hx
  have HKs:=Lib.hid hks
  have HCk:=Lib.hid (fun w' (h:Mor w w')=>bcheck_any A n c X m k b w' (hb.mor h))
  have HEk:=Lib.hid (fun w' (h:Mor w w')=>check_any x.key x.day B p q x.ls w' hks (hx.si.mor h) hx.length hx.le (Nat.le_trans hx.le hx.max) hx.str)
  rw [show entc x.key x.day x.ls=enc x from rfl] at HEk
  rw [hc] at HCk
  rw [he] at HEk
  have HBO:=Lib.hid ((bookc_iff b).1 hc)
  have HEO:=Lib.hid he
  have hm60:m≤60:=by rw [← hb.length];exact ((bookc_iff b).1 hc).len
  have hn24:n≤24:=by rw [← hb.ac.length];exact (acc_len ((bookc_iff b).1 hc).ac)
  have hp12:p≤12:=by rw [← hx.length];exact (linec_ok (entc_ok he).2.2.2).1
  have HFi:=Lib.hid (fun w' (h:Mor w w')=>find_en A n c X m k b.shut b.en x.key w' (hb.es.mor h) hb.length (by omega))
  have HKn:=Lib.hid (fun w' (h:Mor w w')=>known_any A n c X m k b.shut B p q b.ac x w' (hb.ac.si.mor h) hb.ac.length (by omega) (hx.si.mor h) hx.length (by omega))
  have HCp:=Lib.hid (fun w' (h:Mor w w')=>copied_any A n c X m k b w' (hb.mor h) (by omega) (by omega) (fun y hy=>by have:=(linec_ok (entc_ok (((bookc_iff b).1 hc).enc y hy)).2.2.2).1;omega))
  have hil:(findE b.en x.key).toNat < b.en.length:=by
    rcases findE_cases b.en x.key with ⟨e,_⟩ | ⟨i,hi,e,_⟩
    · rw [e] at hf;omega
    · rw [e];simpa using hi
  obtain ⟨i,hi⟩:∃ i:Nat,findE b.en x.key=i:=⟨(findE b.en x.key).toNat,by omega⟩
  rw [hi] at HFi hne hil
  simp only [Int.toNat_natCast] at hne hil
  have HSm:=Lib.hid (fun w' (h:Mor w w') A' n' c' (hq:Lq w' A' n' c' (ne b.en i).ls)=>esame_any (ne b.en i) x A' B n' c' p q w' hq (hx.mor h))
  rw [decide_eq_false hne] at HSm
  have HF:=Lib.hid (show (5:Int)=5 from rfl)
  have hi0:(0:Int)≤(i:Int):=by omega
  have him:(i:Int) < (m:Int):=by rw [← hb.length];omega
  have hil2:i < m:=by omega
  have HN:=Lib.hid hb.length
  clear hc he hf hi hne hil
  generalize hky:x.key=ky at *
  generalize hdy:x.day=dy at *
  generalize hsh:b.shut=sh at *
  have HEq:=Lib.hid (And.intro hky (And.intro hdy hsh))
  clear hb hx hks hky hdy hsh
  generalize hky2:(ne b.en i).key=ky2 at *
  generalize hdy2:(ne b.en i).day=dy2 at *
  have HEq2:=Lib.hid (And.intro hky2 hdy2)
  clear hky2 hdy2
  go_enter Tryz.func72,Tryz.ntmps72
  go_wp2_with fail
  have hP0:=((Bk.new w 37 #[.slice A n c,.slice X m k,.int .i64 sh]).alloc (.cells #[.string ky,.int .i64 dy,.slice B p q] 111)).alloc (.cells #[.slice none 0 0,.slice none 0 0,.int .i64 0] 37)
  have hX0:=(Bk.new (w.alloc (.cells #[.slice A n c,.slice X m k,.int .i64 sh] 37)) 111 #[.string ky,.int .i64 dy,.slice B p q]).alloc (.cells #[.slice none 0 0,.slice none 0 0,.int .i64 0] 37)
  have hR0:=Bk.new ((w.alloc (.cells #[.slice A n c,.slice X m k,.int .i64 sh] 37)).alloc (.cells #[.string ky,.int .i64 dy,.slice B p q] 111)) 37 #[.slice none 0 0,.slice none 0 0,.int .i64 0]
  have hM0:=(((Mor.refl w).alloc (o:=.cells #[.slice A n c,.slice X m k,.int .i64 sh] 37)).alloc (o:=.cells #[.string ky,.int .i64 dy,.slice B p q] 111)).alloc (o:=.cells #[.slice none 0 0,.slice none 0 0,.int .i64 0] 37)
  rw [← sz1,← sz1] at hR0
  rw [← sz1] at hX0
  obtain ⟨bP,hbP⟩:∃ b,b=w.heap.size:=⟨_,rfl⟩
  rw [← hbP] at hP0 hX0 hR0 ⊢
  obtain ⟨bX,hbX⟩:∃ b,b=bP+1:=⟨_,rfl⟩
  rw [← hbX] at hX0 hR0 ⊢
  obtain ⟨bR,hbR⟩:∃ b,b=bX+1:=⟨_,rfl⟩
  rw [← hbR] at hR0 ⊢
  generalize ((w.alloc (.cells #[.slice A n c,.slice X m k,.int .i64 sh] 37)).alloc (.cells #[.string ky,.int .i64 dy,.slice B p q] 111)).alloc (.cells #[.slice none 0 0,.slice none 0 0,.int .i64 0] 37)=w0 at *
  have HP:=Lib.hid (fun w' (h:Mor w0 w')=>hP0.mor h)
  have HX:=Lib.hid (fun w' (h:Mor w0 w')=>hX0.mor h)
  have HR:=Lib.hid (fun w' (h:Mor w0 w')=>hR0.mor h)
  have HM0:=Lib.hid hM0
  have HbR:=Lib.hid (And.intro (show w.heap.size≤bR by omega) (And.intro (show w.heap.size≤bX by omega) (And.intro (show bX < bR by omega) (And.intro (show bP < bX by omega) (show bR < w0.heap.size from hR0.lt)))))
  clear hP0 hX0 hR0 hM0 hbP hbX hbR
  refine (HCk.out _ HM0.out).mono ?_
  rintro e w1 ⟨rfl,hm⟩
  have HM1:=Lib.hid hm
  clear hm
  have hc:=HP.out _ HM1.out
  have c0:=hc.cell 0
  have c1:=hc.cell 1
  have c2:=hc.cell 2
  have cl:=hc.lt
  have he:=HX.out _ HM1.out
  have e0:=he.cell 0
  have e1:=he.cell 1
  have e2:=he.cell 2
  have ef0:=he.frozen 0
  have ef1:=he.frozen 1
  have ef2:=he.frozen 2
  have el:=he.lt
  have hz:=HR.out _ HM1.out
  have z0:=hz.cell 0
  have z1:=hz.cell 1
  have z2:=hz.cell 2
  have zf0:=hz.frozen 0
  have zf1:=hz.frozen 1
  have zf2:=hz.frozen 2
  have zl:=hz.lt
  simp at c0 c1 c2 e0 e1 e2 z0 z1 z2
  clear hc he hz
  go_wp2_with fail
  refine (HEk.out _ (HM0.out.trans' HM1.out)).mono ?_
  rintro e w2 ⟨rfl,hm⟩
  have HM2:=Lib.hid (HM1.out.trans' hm)
  clear hm
  clear c0 c1 c2 cl e0 e1 e2 ef0 ef1 ef2 el z0 z1 z2 zf0 zf1 zf2 zl
  have hc:=HP.out _ HM2.out
  have c0:=hc.cell 0
  have c1:=hc.cell 1
  have c2:=hc.cell 2
  have cl:=hc.lt
  have he:=HX.out _ HM2.out
  have e0:=he.cell 0
  have e1:=he.cell 1
  have e2:=he.cell 2
  have ef0:=he.frozen 0
  have ef1:=he.frozen 1
  have ef2:=he.frozen 2
  have el:=he.lt
  have hz:=HR.out _ HM2.out
  have z0:=hz.cell 0
  have z1:=hz.cell 1
  have z2:=hz.cell 2
  have zf0:=hz.frozen 0
  have zf1:=hz.frozen 1
  have zf2:=hz.frozen 2
  have zl:=hz.lt
  simp at c0 c1 c2 e0 e1 e2 z0 z1 z2
  clear hc he hz
  go_wp2_with fail
  refine (HFi.out _ (HM0.out.trans' HM2.out)).mono ?_
  rintro e w3 ⟨rfl,hm⟩
  have HM3:=Lib.hid (HM2.out.trans' hm)
  clear hm
  clear c0 c1 c2 cl e0 e1 e2 ef0 ef1 ef2 el z0 z1 z2 zf0 zf1 zf2 zl
  have hc:=HP.out _ HM3.out
  have c0:=hc.cell 0
  have c1:=hc.cell 1
  have c2:=hc.cell 2
  have cl:=hc.lt
  have he:=HX.out _ HM3.out
  have e0:=he.cell 0
  have e1:=he.cell 1
  have e2:=he.cell 2
  have ef0:=he.frozen 0
  have ef1:=he.frozen 1
  have ef2:=he.frozen 2
  have el:=he.lt
  have hz:=HR.out _ HM3.out
  have z0:=hz.cell 0
  have z1:=hz.cell 1
  have z2:=hz.cell 2
  have zf0:=hz.frozen 0
  have zf1:=hz.frozen 1
  have zf2:=hz.frozen 2
  have zl:=hz.lt
  simp at c0 c1 c2 e0 e1 e2 z0 z1 z2
  clear hc he hz
  obtain ⟨x',A',n',c',hX,hxb,-,d0,d1,d2,hlq⟩:=(HBq.out.es.mor (HM0.out.trans' HM3.out)).at_ i (by rw [HN.out];exact hil2)
  rw [HEq2.out.1] at d0
  rw [HEq2.out.2] at d1
  subst hX
  have HKp:=Lib.hid (fun w' (h':Mor w3 w')=>show (w'.cell? ⟨bP,1,none⟩=some (.slice (some x') m k)∧w'.cell? ⟨bX,0,none⟩=some (.string ky)∧w'.cell? ⟨bX,1,none⟩=some (.int .i64 dy)∧w'.cell? ⟨bX,2,none⟩=some (.slice B p q)∧w'.cell? (x'.add (i*3))=some (.string ky2)∧w'.cell? ⟨(x'.add (i*3)).block,(x'.add (i*3)).off+1,none⟩=some (.int .i64 dy2)∧w'.cell? ⟨(x'.add (i*3)).block,(x'.add (i*3)).off+2,none⟩=some (.slice A' n' c')) from by
    have hp:=HP.out _ (HM3.out.trans' h')
    have he:=HX.out _ (HM3.out.trans' h')
    exact ⟨by rw [hp.cell];rfl,by rw [he.cell];rfl,by rw [he.cell];rfl,by rw [he.cell];rfl,(h'.below.cell (p:=x'.add (i*3)) (by rw [addb];exact hxb)).trans d0,(h'.below.cell (p:=⟨(x'.add (i*3)).block,(x'.add (i*3)).off+1,none⟩) (by rw [addb];exact hxb)).trans d1,(h'.below.cell (p:=⟨(x'.add (i*3)).block,(x'.add (i*3)).off+2,none⟩) (by rw [addb];exact hxb)).trans d2⟩)
  have HSm3:=Lib.hid (fun w' (h:Mor w3 w')=>HSm.out w' ((HM0.out.trans' HM3.out).trans' h) A' n' c' (hlq.mor h))
  clear hlq HSm
  go_wp2_with fail
  go_region_held3 (fun w'=>w'.cell? ⟨bP,1,none⟩=some (.slice (some x') m k)∧w'.cell? ⟨bX,0,none⟩=some (.string ky)∧w'.cell? ⟨bX,1,none⟩=some (.int .i64 dy)∧w'.cell? ⟨bX,2,none⟩=some (.slice B p q)∧w'.cell? (x'.add (i*3))=some (.string ky2)∧w'.cell? ⟨(x'.add (i*3)).block,(x'.add (i*3)).off+1,none⟩=some (.int .i64 dy2)∧w'.cell? ⟨(x'.add (i*3)).block,(x'.add (i*3)).off+2,none⟩=some (.slice A' n' c')) (exact HKp.out _ (by repeat (first | exact Mor.refl _ | apply Mor.alloc | apply Mor.more | apply Mor.drewN | apply Mor.drew))) (first | (go_at_call 120;(with_reducible refine (HSm3.out _ (by repeat (first | exact Mor.refl _ | apply Mor.alloc | apply Mor.more | apply Mor.drewN | apply Mor.drew))).mono ?_);rintro e w8 ⟨rfl,bs3,dr3,rfl⟩))
  obtain ⟨w4,hwn⟩:∃ wn,wn=more w3 bs3 dr3:=⟨_,rfl⟩
  rw [← hwn]
  have HM4:=Lib.hid (show Mor w0 w4 by rw [hwn];exact HM3.out.trans' (Mor.refl _).more)
  clear hwn HKp d0 d1 d2 hxb HSm3
  clear c0 c1 c2 cl e0 e1 e2 ef0 ef1 ef2 el z0 z1 z2 zf0 zf1 zf2 zl
  have hc:=HP.out _ HM4.out
  have c0:=hc.cell 0
  have c1:=hc.cell 1
  have c2:=hc.cell 2
  have cl:=hc.lt
  have he:=HX.out _ HM4.out
  have e0:=he.cell 0
  have e1:=he.cell 1
  have e2:=he.cell 2
  have ef0:=he.frozen 0
  have ef1:=he.frozen 1
  have ef2:=he.frozen 2
  have el:=he.lt
  have hz:=HR.out _ HM4.out
  have z0:=hz.cell 0
  have z1:=hz.cell 1
  have z2:=hz.cell 2
  have zf0:=hz.frozen 0
  have zf1:=hz.frozen 1
  have zf2:=hz.frozen 2
  have zl:=hz.lt
  simp at c0 c1 c2 e0 e1 e2 z0 z1 z2
  clear hc he hz
  have HE9:=Lib.hid (fun w9 (h:w9=(((w4.setCell ⟨bR,0,none⟩ (.slice none 0 0)).setCell ⟨bR,1,none⟩ (.slice none 0 0)).setCell ⟨bR,2,none⟩ (.int .i64 0)))=>put3 (w:=w) _ _ _ (HM0.out.trans' HM4.out) (HR.out _ HM4.out) HbR.out.1 h)
  go_wp2_with fail
  obtain ⟨w9,hw9⟩:∃ w9,w9=(((w4.setCell ⟨bR,0,none⟩ (.slice none 0 0)).setCell ⟨bR,1,none⟩ (.slice none 0 0)).setCell ⟨bR,2,none⟩ (.int .i64 0)):=⟨_,rfl⟩
  rw [← hw9]
  obtain ⟨⟨q0,q1,q2⟩,q3⟩:=HE9.out w9 hw9
  clear hw9
  refine bodyPost_ret (by simp [results,Tryz.results72,go_sem,q0,q1,q2];try rfl) rfl ?_
  exact ⟨rfl,q3⟩
set_option maxRecDepth 100000 in
set_option maxHeartbeats 1600000 in
theorem post_same (A:Option Addr) (n c:Nat) (X:Option Addr) (m k:Nat) (b:Bok) (x:En) (B:Option Addr) (p q:Nat) (w:World) (hb:Bq w A n c X m k b) (hx:Lq w B p q x.ls) (hks:x.key.size≤maxLen) (hc:bookc b=0) (he:enc x=0) (hf:0≤findE b.en x.key) (hne:ne b.en (findE b.en x.key).toNat=x) :
    Calls Tryz.prog 72 #[bv A n c X m k b.shut,.agg #[.string x.key,.int .i64 x.day,.slice B p q]] w (PostYes w b):=by
  have HBq:=Lib.hid hb
  have HXq:=Lib.hid hx
  have HKs:=Lib.hid hks
  have HCk:=Lib.hid (fun w' (h:Mor w w')=>bcheck_any A n c X m k b w' (hb.mor h))
  have HEk:=Lib.hid (fun w' (h:Mor w w')=>check_any x.key x.day B p q x.ls w' hks (hx.si.mor h) hx.length hx.le (Nat.le_trans hx.le hx.max) hx.str)
  rw [show entc x.key x.day x.ls=enc x from rfl] at HEk
  rw [hc] at HCk
  rw [he] at HEk
  have HBO:=Lib.hid ((bookc_iff b).1 hc)
  have HEO:=Lib.hid he
  have hm60:m≤60:=by rw [← hb.length];exact ((bookc_iff b).1 hc).len
  have hn24:n≤24:=by rw [← hb.ac.length];exact (acc_len ((bookc_iff b).1 hc).ac)
  have hp12:p≤12:=by rw [← hx.length];exact (linec_ok (entc_ok he).2.2.2).1
  have HFi:=Lib.hid (fun w' (h:Mor w w')=>find_en A n c X m k b.shut b.en x.key w' (hb.es.mor h) hb.length (by omega))
  have HKn:=Lib.hid (fun w' (h:Mor w w')=>known_any A n c X m k b.shut B p q b.ac x w' (hb.ac.si.mor h) hb.ac.length (by omega) (hx.si.mor h) hx.length (by omega))
  have HCp:=Lib.hid (fun w' (h:Mor w w')=>copied_any A n c X m k b w' (hb.mor h) (by omega) (by omega) (fun y hy=>by have:=(linec_ok (entc_ok (((bookc_iff b).1 hc).enc y hy)).2.2.2).1;omega))
  have hil:(findE b.en x.key).toNat < b.en.length:=by
    rcases findE_cases b.en x.key with ⟨e,_⟩ | ⟨i,hi,e,_⟩
    · rw [e] at hf;omega
    · rw [e];simpa using hi
  obtain ⟨i,hi⟩:∃ i:Nat,findE b.en x.key=i:=⟨(findE b.en x.key).toNat,by omega⟩
  rw [hi] at HFi hne hil
  simp only [Int.toNat_natCast] at hne hil
  have HSm:=Lib.hid (fun w' (h:Mor w w') A' n' c' (hq:Lq w' A' n' c' (ne b.en i).ls)=>esame_any (ne b.en i) x A' B n' c' p q w' hq (hx.mor h))
  rw [decide_eq_true hne] at HSm
  have HF:=Lib.hid (show (5:Int)=5 from rfl)
  have hi0:(0:Int)≤(i:Int):=by omega
  have him:(i:Int) < (m:Int):=by rw [← hb.length];omega
  have hil2:i < m:=by omega
  have HN:=Lib.hid hb.length
  clear hc he hf hi hne hil
  generalize hky:x.key=ky at *
  generalize hdy:x.day=dy at *
  generalize hsh:b.shut=sh at *
  have HEq:=Lib.hid (And.intro hky (And.intro hdy hsh))
  clear hb hx hks hky hdy hsh
  generalize hky2:(ne b.en i).key=ky2 at *
  generalize hdy2:(ne b.en i).day=dy2 at *
  have HEq2:=Lib.hid (And.intro hky2 hdy2)
  clear hky2 hdy2
  go_enter Tryz.func72,Tryz.ntmps72
  go_wp2_with fail
  have hP0:=((Bk.new w 37 #[.slice A n c,.slice X m k,.int .i64 sh]).alloc (.cells #[.string ky,.int .i64 dy,.slice B p q] 111)).alloc (.cells #[.slice none 0 0,.slice none 0 0,.int .i64 0] 37)
  have hX0:=(Bk.new (w.alloc (.cells #[.slice A n c,.slice X m k,.int .i64 sh] 37)) 111 #[.string ky,.int .i64 dy,.slice B p q]).alloc (.cells #[.slice none 0 0,.slice none 0 0,.int .i64 0] 37)
  have hR0:=Bk.new ((w.alloc (.cells #[.slice A n c,.slice X m k,.int .i64 sh] 37)).alloc (.cells #[.string ky,.int .i64 dy,.slice B p q] 111)) 37 #[.slice none 0 0,.slice none 0 0,.int .i64 0]
  have hM0:=(((Mor.refl w).alloc (o:=.cells #[.slice A n c,.slice X m k,.int .i64 sh] 37)).alloc (o:=.cells #[.string ky,.int .i64 dy,.slice B p q] 111)).alloc (o:=.cells #[.slice none 0 0,.slice none 0 0,.int .i64 0] 37)
  rw [← sz1,← sz1] at hR0
  rw [← sz1] at hX0
  obtain ⟨bP,hbP⟩:∃ b,b=w.heap.size:=⟨_,rfl⟩
  rw [← hbP] at hP0 hX0 hR0 ⊢
  obtain ⟨bX,hbX⟩:∃ b,b=bP+1:=⟨_,rfl⟩
  rw [← hbX] at hX0 hR0 ⊢
  obtain ⟨bR,hbR⟩:∃ b,b=bX+1:=⟨_,rfl⟩
  rw [← hbR] at hR0 ⊢
  generalize ((w.alloc (.cells #[.slice A n c,.slice X m k,.int .i64 sh] 37)).alloc (.cells #[.string ky,.int .i64 dy,.slice B p q] 111)).alloc (.cells #[.slice none 0 0,.slice none 0 0,.int .i64 0] 37)=w0 at *
  have HP:=Lib.hid (fun w' (h:Mor w0 w')=>hP0.mor h)
  have HX:=Lib.hid (fun w' (h:Mor w0 w')=>hX0.mor h)
  have HR:=Lib.hid (fun w' (h:Mor w0 w')=>hR0.mor h)
  have HM0:=Lib.hid hM0
  have HbR:=Lib.hid (And.intro (show w.heap.size≤bR by omega) (And.intro (show w.heap.size≤bX by omega) (And.intro (show bX < bR by omega) (And.intro (show bP < bX by omega) (show bR < w0.heap.size from hR0.lt)))))
  clear hP0 hX0 hR0 hM0 hbP hbX hbR
  refine (HCk.out _ HM0.out).mono ?_
  rintro e w1 ⟨rfl,hm⟩
  have HM1:=Lib.hid hm
  clear hm
  have hc:=HP.out _ HM1.out
  have c0:=hc.cell 0
  have c1:=hc.cell 1
  have c2:=hc.cell 2
  have cl:=hc.lt
  have he:=HX.out _ HM1.out
  have e0:=he.cell 0
  have e1:=he.cell 1
  have e2:=he.cell 2
  have ef0:=he.frozen 0
  have ef1:=he.frozen 1
  have ef2:=he.frozen 2
  have el:=he.lt
  have hz:=HR.out _ HM1.out
  have z0:=hz.cell 0
  have z1:=hz.cell 1
  have z2:=hz.cell 2
  have zf0:=hz.frozen 0
  have zf1:=hz.frozen 1
  have zf2:=hz.frozen 2
  have zl:=hz.lt
  simp at c0 c1 c2 e0 e1 e2 z0 z1 z2
  clear hc he hz
  go_wp2_with fail
  refine (HEk.out _ (HM0.out.trans' HM1.out)).mono ?_
  rintro e w2 ⟨rfl,hm⟩
  have HM2:=Lib.hid (HM1.out.trans' hm)
  clear hm
  clear c0 c1 c2 cl e0 e1 e2 ef0 ef1 ef2 el z0 z1 z2 zf0 zf1 zf2 zl
  have hc:=HP.out _ HM2.out
  have c0:=hc.cell 0
  have c1:=hc.cell 1
  have c2:=hc.cell 2
  have cl:=hc.lt
  have he:=HX.out _ HM2.out
  have e0:=he.cell 0
  have e1:=he.cell 1
  have e2:=he.cell 2
  have ef0:=he.frozen 0
  have ef1:=he.frozen 1
  have ef2:=he.frozen 2
  have el:=he.lt
  have hz:=HR.out _ HM2.out
  have z0:=hz.cell 0
  have z1:=hz.cell 1
  have z2:=hz.cell 2
  have zf0:=hz.frozen 0
  have zf1:=hz.frozen 1
  have zf2:=hz.frozen 2
  have zl:=hz.lt
  simp at c0 c1 c2 e0 e1 e2 z0 z1 z2
  clear hc he hz
  go_wp2_with fail
  refine (HFi.out _ (HM0.out.trans' HM2.out)).mono ?_
  rintro e w3 ⟨rfl,hm⟩
  have HM3:=Lib.hid (HM2.out.trans' hm)
  clear hm
  clear c0 c1 c2 cl e0 e1 e2 ef0 ef1 ef2 el z0 z1 z2 zf0 zf1 zf2 zl
  have hc:=HP.out _ HM3.out
  have c0:=hc.cell 0
  have c1:=hc.cell 1
  have c2:=hc.cell 2
  have cl:=hc.lt
  have he:=HX.out _ HM3.out
  have e0:=he.cell 0
  have e1:=he.cell 1
  have e2:=he.cell 2
  have ef0:=he.frozen 0
  have ef1:=he.frozen 1
  have ef2:=he.frozen 2
  have el:=he.lt
  have hz:=HR.out _ HM3.out
  have z0:=hz.cell 0
  have z1:=hz.cell 1
  have z2:=hz.cell 2
  have zf0:=hz.frozen 0
  have zf1:=hz.frozen 1
  have zf2:=hz.frozen 2
  have zl:=hz.lt
  simp at c0 c1 c2 e0 e1 e2 z0 z1 z2
  clear hc he hz
  obtain ⟨x',A',n',c',hX,hxb,-,d0,d1,d2,hlq⟩:=(HBq.out.es.mor (HM0.out.trans' HM3.out)).at_ i (by rw [HN.out];exact hil2)
  rw [HEq2.out.1] at d0
  rw [HEq2.out.2] at d1
  subst hX
  have HKp:=Lib.hid (fun w' (h':Mor w3 w')=>show (w'.cell? ⟨bP,1,none⟩=some (.slice (some x') m k)∧w'.cell? ⟨bX,0,none⟩=some (.string ky)∧w'.cell? ⟨bX,1,none⟩=some (.int .i64 dy)∧w'.cell? ⟨bX,2,none⟩=some (.slice B p q)∧w'.cell? (x'.add (i*3))=some (.string ky2)∧w'.cell? ⟨(x'.add (i*3)).block,(x'.add (i*3)).off+1,none⟩=some (.int .i64 dy2)∧w'.cell? ⟨(x'.add (i*3)).block,(x'.add (i*3)).off+2,none⟩=some (.slice A' n' c')) from by
    have hp:=HP.out _ (HM3.out.trans' h')
    have he:=HX.out _ (HM3.out.trans' h')
    exact ⟨by rw [hp.cell];rfl,by rw [he.cell];rfl,by rw [he.cell];rfl,by rw [he.cell];rfl,(h'.below.cell (p:=x'.add (i*3)) (by rw [addb];exact hxb)).trans d0,(h'.below.cell (p:=⟨(x'.add (i*3)).block,(x'.add (i*3)).off+1,none⟩) (by rw [addb];exact hxb)).trans d1,(h'.below.cell (p:=⟨(x'.add (i*3)).block,(x'.add (i*3)).off+2,none⟩) (by rw [addb];exact hxb)).trans d2⟩)
  have HSm3:=Lib.hid (fun w' (h:Mor w3 w')=>HSm.out w' ((HM0.out.trans' HM3.out).trans' h) A' n' c' (hlq.mor h))
  clear hlq HSm
  go_wp2_with fail
  go_region_held3 (fun w'=>w'.cell? ⟨bP,1,none⟩=some (.slice (some x') m k)∧w'.cell? ⟨bX,0,none⟩=some (.string ky)∧w'.cell? ⟨bX,1,none⟩=some (.int .i64 dy)∧w'.cell? ⟨bX,2,none⟩=some (.slice B p q)∧w'.cell? (x'.add (i*3))=some (.string ky2)∧w'.cell? ⟨(x'.add (i*3)).block,(x'.add (i*3)).off+1,none⟩=some (.int .i64 dy2)∧w'.cell? ⟨(x'.add (i*3)).block,(x'.add (i*3)).off+2,none⟩=some (.slice A' n' c')) (exact HKp.out _ (by repeat (first | exact Mor.refl _ | apply Mor.alloc | apply Mor.more | apply Mor.drewN | apply Mor.drew))) (first | (go_at_call 120;(with_reducible refine (HSm3.out _ (by repeat (first | exact Mor.refl _ | apply Mor.alloc | apply Mor.more | apply Mor.drewN | apply Mor.drew))).mono ?_);rintro e w8 ⟨rfl,bs3,dr3,rfl⟩))
  obtain ⟨w4,hwn⟩:∃ wn,wn=more w3 bs3 dr3:=⟨_,rfl⟩
  rw [← hwn]
  have HM4:=Lib.hid (show Mor w0 w4 by rw [hwn];exact HM3.out.trans' (Mor.refl _).more)
  clear hwn HKp d0 d1 d2 hxb HSm3
  clear c0 c1 c2 cl e0 e1 e2 ef0 ef1 ef2 el z0 z1 z2 zf0 zf1 zf2 zl
  have hc:=HP.out _ HM4.out
  have c0:=hc.cell 0
  have c1:=hc.cell 1
  have c2:=hc.cell 2
  have cl:=hc.lt
  have he:=HX.out _ HM4.out
  have e0:=he.cell 0
  have e1:=he.cell 1
  have e2:=he.cell 2
  have ef0:=he.frozen 0
  have ef1:=he.frozen 1
  have ef2:=he.frozen 2
  have el:=he.lt
  have hz:=HR.out _ HM4.out
  have z0:=hz.cell 0
  have z1:=hz.cell 1
  have z2:=hz.cell 2
  have zf0:=hz.frozen 0
  have zf1:=hz.frozen 1
  have zf2:=hz.frozen 2
  have zl:=hz.lt
  simp at c0 c1 c2 e0 e1 e2 z0 z1 z2
  clear hc he hz
  go_wp2_with fail
  refine (HCp.out _ (HM0.out.trans' HM4.out)).mono ?_
  rintro e w5 ⟨vA,vX,rfl,hown,hm⟩
  obtain ⟨A5,c5,X5,k5,rfl,rfl,hbq5⟩:=hown.bq
  have HM5:=Lib.hid (HM4.out.trans' hm)
  have HO5:=Lib.hid hown
  have HSz:=Lib.hid (show w.heap.size≤w4.heap.size∧bR < w4.heap.size from ⟨(HM0.out.trans' HM4.out).below.size,(HR.out _ HM4.out).lt⟩)
  clear hm hown hbq5
  clear c0 c1 c2 cl e0 e1 e2 ef0 ef1 ef2 el z0 z1 z2 zf0 zf1 zf2 zl
  have hc:=HP.out _ HM5.out
  have c0:=hc.cell 0
  have c1:=hc.cell 1
  have c2:=hc.cell 2
  have cl:=hc.lt
  have he:=HX.out _ HM5.out
  have e0:=he.cell 0
  have e1:=he.cell 1
  have e2:=he.cell 2
  have ef0:=he.frozen 0
  have ef1:=he.frozen 1
  have ef2:=he.frozen 2
  have el:=he.lt
  have hz:=HR.out _ HM5.out
  have z0:=hz.cell 0
  have z1:=hz.cell 1
  have z2:=hz.cell 2
  have zf0:=hz.frozen 0
  have zf1:=hz.frozen 1
  have zf2:=hz.frozen 2
  have zl:=hz.lt
  simp at c0 c1 c2 e0 e1 e2 z0 z1 z2
  clear hc he hz
  have HSh:=Lib.hid HEq.out.2.2
  have HE9:=Lib.hid (fun w9 (h:w9=(((w5.setCell ⟨bR,0,none⟩ (.slice A5 n c5)).setCell ⟨bR,1,none⟩ (.slice X5 m k5)).setCell ⟨bR,2,none⟩ (.int .i64 sh)))=>put3 (w:=w) _ _ _ (HM0.out.trans' HM5.out) (HR.out _ HM5.out) HbR.out.1 h)
  rw [HSh.out]
  go_wp2_with fail
  obtain ⟨w9,hw9⟩:∃ w9,w9=(((w5.setCell ⟨bR,0,none⟩ (.slice A5 n c5)).setCell ⟨bR,1,none⟩ (.slice X5 m k5)).setCell ⟨bR,2,none⟩ (.int .i64 sh)):=⟨_,rfl⟩
  rw [← hw9]
  obtain ⟨⟨q0,q1,q2⟩,q3⟩:=HE9.out w9 hw9
  have HW9:=Lib.hid hw9
  clear hw9
  refine bodyPost_ret (by simp [results,Tryz.results72,go_sem,q0,q1,q2];try rfl) rfl ?_
  refine ⟨A5,n,c5,X5,m,k5,by rw [HSh.out],?_,q3⟩
  rw [HW9.out]
  exact (((HO5.out.setlt HSz.out.2).setlt HSz.out.2).setlt HSz.out.2).base HSz.out.1
set_option maxRecDepth 100000 in
set_option maxHeartbeats 1600000 in
theorem post_new_ok (A:Option Addr) (n c:Nat) (X:Option Addr) (m k:Nat) (b:Bok) (x:En) (B:Option Addr) (p q:Nat) (w:World) (hb:Bq w A n c X m k b) (hx:Lq w B p q x.ls) (hks:x.key.size≤maxLen) (hc:bookc b=0) (he:enc x=0) (hf:¬ 0≤findE b.en x.key) (hkn:knownB b.ac x=true) (hs:¬ x.day≤b.shut) (h60:m≠60) :
    Calls Tryz.prog 72 #[bv A n c X m k b.shut,.agg #[.string x.key,.int .i64 x.day,.slice B p q]] w (PostYes w { b with en:=ins x b.en }):=by
  have HBq:=Lib.hid hb
  have HXq:=Lib.hid hx
  have HKs:=Lib.hid hks
  have HCk:=Lib.hid (fun w' (h:Mor w w')=>bcheck_any A n c X m k b w' (hb.mor h))
  have HEk:=Lib.hid (fun w' (h:Mor w w')=>check_any x.key x.day B p q x.ls w' hks (hx.si.mor h) hx.length hx.le (Nat.le_trans hx.le hx.max) hx.str)
  rw [show entc x.key x.day x.ls=enc x from rfl] at HEk
  rw [hc] at HCk
  rw [he] at HEk
  have HBO:=Lib.hid ((bookc_iff b).1 hc)
  have HEO:=Lib.hid he
  have hm60:m≤60:=by rw [← hb.length];exact ((bookc_iff b).1 hc).len
  have hn24:n≤24:=by rw [← hb.ac.length];exact (acc_len ((bookc_iff b).1 hc).ac)
  have hp12:p≤12:=by rw [← hx.length];exact (linec_ok (entc_ok he).2.2.2).1
  have HFi:=Lib.hid (fun w' (h:Mor w w')=>find_en A n c X m k b.shut b.en x.key w' (hb.es.mor h) hb.length (by omega))
  have HKn:=Lib.hid (fun w' (h:Mor w w')=>known_any A n c X m k b.shut B p q b.ac x w' (hb.ac.si.mor h) hb.ac.length (by omega) (hx.si.mor h) hx.length (by omega))
  have HCp:=Lib.hid (fun w' (h:Mor w w')=>copied_any A n c X m k b w' (hb.mor h) (by omega) (by omega) (fun y hy=>by have:=(linec_ok (entc_ok (((bookc_iff b).1 hc).enc y hy)).2.2.2).1;omega))
  rw [hkn] at HKn
  have HCl:=Lib.hid (fun w' (h:Mor w w')=>show Calls Tryz.prog 123 #[.slice B p q] w' fun e w2=>∃ A2 c2,e=.returned (.slice A2 p c2)∧w2.ownsRow w'.heap.size 149 2 (.slice A2 p c2) p (flat pc x.ls)∧Mor w' w2 from
    (clone_lq B p q x.ls w' (hx.mor h) (by omega)).mono (by
      rintro e w2 ⟨v,rfl,ho,hm2⟩
      obtain ⟨A',c',rfl,_,_,_⟩:=own_shape ho
      exact ⟨A',c',rfl,ho,hm2⟩))
  have HBs:=Lib.hid (fun w' X' k' B' p' q' (h:Es w' X' b.en)=>bsearch_en X' m k' b.en x B' p' q' w' h hb.length (by omega) (fun i hi=>enc_days (((bookc_iff b).1 hc).enc _ (by rw [ne_eq _ _ (by rw [hb.length];exact hi)];exact List.getElem_mem _))) (enc_days he).1 (enc_days he).2 ((bookc_iff b).1 hc).sorted)
  have hil:insAt x b.en≤m:=by rw [← hb.length];exact insAt_le x b.en
  have HIe:=Lib.hid (ins_eq x b.en)
  have HN:=Lib.hid hb.length
  have h60':((m:Int) == 60)=false:=by simp;omega
  generalize findE b.en x.key=fi at *
  clear hc he hkn h60
  generalize hky:x.key=ky at *
  generalize hdy:x.day=dy at *
  generalize hsh:b.shut=sh at *
  have HEq:=Lib.hid (And.intro hky (And.intro hdy hsh))
  clear hb hx hks hky hdy hsh
  go_enter Tryz.func72,Tryz.ntmps72
  go_wp2_with fail
  have hP0:=((Bk.new w 37 #[.slice A n c,.slice X m k,.int .i64 sh]).alloc (.cells #[.string ky,.int .i64 dy,.slice B p q] 111)).alloc (.cells #[.slice none 0 0,.slice none 0 0,.int .i64 0] 37)
  have hX0:=(Bk.new (w.alloc (.cells #[.slice A n c,.slice X m k,.int .i64 sh] 37)) 111 #[.string ky,.int .i64 dy,.slice B p q]).alloc (.cells #[.slice none 0 0,.slice none 0 0,.int .i64 0] 37)
  have hR0:=Bk.new ((w.alloc (.cells #[.slice A n c,.slice X m k,.int .i64 sh] 37)).alloc (.cells #[.string ky,.int .i64 dy,.slice B p q] 111)) 37 #[.slice none 0 0,.slice none 0 0,.int .i64 0]
  have hM0:=(((Mor.refl w).alloc (o:=.cells #[.slice A n c,.slice X m k,.int .i64 sh] 37)).alloc (o:=.cells #[.string ky,.int .i64 dy,.slice B p q] 111)).alloc (o:=.cells #[.slice none 0 0,.slice none 0 0,.int .i64 0] 37)
  rw [← sz1,← sz1] at hR0
  rw [← sz1] at hX0
  obtain ⟨bP,hbP⟩:∃ b,b=w.heap.size:=⟨_,rfl⟩
  rw [← hbP] at hP0 hX0 hR0 ⊢
  obtain ⟨bX,hbX⟩:∃ b,b=bP+1:=⟨_,rfl⟩
  rw [← hbX] at hX0 hR0 ⊢
  obtain ⟨bR,hbR⟩:∃ b,b=bX+1:=⟨_,rfl⟩
  rw [← hbR] at hR0 ⊢
  generalize ((w.alloc (.cells #[.slice A n c,.slice X m k,.int .i64 sh] 37)).alloc (.cells #[.string ky,.int .i64 dy,.slice B p q] 111)).alloc (.cells #[.slice none 0 0,.slice none 0 0,.int .i64 0] 37)=w0 at *
  have HP:=Lib.hid (fun w' (h:Mor w0 w')=>hP0.mor h)
  have HX:=Lib.hid (fun w' (h:Mor w0 w')=>hX0.mor h)
  have HR:=Lib.hid (fun w' (h:Mor w0 w')=>hR0.mor h)
  have HM0:=Lib.hid hM0
  have HbR:=Lib.hid (And.intro (show w.heap.size≤bR by omega) (And.intro (show w.heap.size≤bX by omega) (And.intro (show bX < bR by omega) (And.intro (show bP < bX by omega) (show bR < w0.heap.size from hR0.lt)))))
  clear hP0 hX0 hR0 hM0 hbP hbX hbR
  refine (HCk.out _ HM0.out).mono ?_
  rintro e w1 ⟨rfl,hm⟩
  have HM1:=Lib.hid hm
  clear hm
  have hc:=HP.out _ HM1.out
  have c0:=hc.cell 0
  have c1:=hc.cell 1
  have c2:=hc.cell 2
  have cl:=hc.lt
  have he:=HX.out _ HM1.out
  have e0:=he.cell 0
  have e1:=he.cell 1
  have e2:=he.cell 2
  have ef0:=he.frozen 0
  have ef1:=he.frozen 1
  have ef2:=he.frozen 2
  have el:=he.lt
  have hz:=HR.out _ HM1.out
  have z0:=hz.cell 0
  have z1:=hz.cell 1
  have z2:=hz.cell 2
  have zf0:=hz.frozen 0
  have zf1:=hz.frozen 1
  have zf2:=hz.frozen 2
  have zl:=hz.lt
  simp at c0 c1 c2 e0 e1 e2 z0 z1 z2
  clear hc he hz
  go_wp2_with fail
  refine (HEk.out _ (HM0.out.trans' HM1.out)).mono ?_
  rintro e w2 ⟨rfl,hm⟩
  have HM2:=Lib.hid (HM1.out.trans' hm)
  clear hm
  clear c0 c1 c2 cl e0 e1 e2 ef0 ef1 ef2 el z0 z1 z2 zf0 zf1 zf2 zl
  have hc:=HP.out _ HM2.out
  have c0:=hc.cell 0
  have c1:=hc.cell 1
  have c2:=hc.cell 2
  have cl:=hc.lt
  have he:=HX.out _ HM2.out
  have e0:=he.cell 0
  have e1:=he.cell 1
  have e2:=he.cell 2
  have ef0:=he.frozen 0
  have ef1:=he.frozen 1
  have ef2:=he.frozen 2
  have el:=he.lt
  have hz:=HR.out _ HM2.out
  have z0:=hz.cell 0
  have z1:=hz.cell 1
  have z2:=hz.cell 2
  have zf0:=hz.frozen 0
  have zf1:=hz.frozen 1
  have zf2:=hz.frozen 2
  have zl:=hz.lt
  simp at c0 c1 c2 e0 e1 e2 z0 z1 z2
  clear hc he hz
  go_wp2_with fail
  refine (HFi.out _ (HM0.out.trans' HM2.out)).mono ?_
  rintro e w3 ⟨rfl,hm⟩
  have HM3:=Lib.hid (HM2.out.trans' hm)
  clear hm
  clear c0 c1 c2 cl e0 e1 e2 ef0 ef1 ef2 el z0 z1 z2 zf0 zf1 zf2 zl
  have hc:=HP.out _ HM3.out
  have c0:=hc.cell 0
  have c1:=hc.cell 1
  have c2:=hc.cell 2
  have cl:=hc.lt
  have he:=HX.out _ HM3.out
  have e0:=he.cell 0
  have e1:=he.cell 1
  have e2:=he.cell 2
  have ef0:=he.frozen 0
  have ef1:=he.frozen 1
  have ef2:=he.frozen 2
  have el:=he.lt
  have hz:=HR.out _ HM3.out
  have z0:=hz.cell 0
  have z1:=hz.cell 1
  have z2:=hz.cell 2
  have zf0:=hz.frozen 0
  have zf1:=hz.frozen 1
  have zf2:=hz.frozen 2
  have zl:=hz.lt
  simp at c0 c1 c2 e0 e1 e2 z0 z1 z2
  clear hc he hz
  go_wp2_with fail
  refine (HKn.out _ (HM0.out.trans' HM3.out)).mono ?_
  rintro e w4 ⟨rfl,hm⟩
  have HM4:=Lib.hid (HM3.out.trans' hm)
  clear hm
  clear c0 c1 c2 cl e0 e1 e2 ef0 ef1 ef2 el z0 z1 z2 zf0 zf1 zf2 zl
  have hc:=HP.out _ HM4.out
  have c0:=hc.cell 0
  have c1:=hc.cell 1
  have c2:=hc.cell 2
  have cl:=hc.lt
  have he:=HX.out _ HM4.out
  have e0:=he.cell 0
  have e1:=he.cell 1
  have e2:=he.cell 2
  have ef0:=he.frozen 0
  have ef1:=he.frozen 1
  have ef2:=he.frozen 2
  have el:=he.lt
  have hz:=HR.out _ HM4.out
  have z0:=hz.cell 0
  have z1:=hz.cell 1
  have z2:=hz.cell 2
  have zf0:=hz.frozen 0
  have zf1:=hz.frozen 1
  have zf2:=hz.frozen 2
  have zl:=hz.lt
  simp at c0 c1 c2 e0 e1 e2 z0 z1 z2
  clear hc he hz
  go_wp2_with fail
  refine (HCp.out _ (HM0.out.trans' HM4.out)).mono ?_
  rintro e w5 ⟨vA,vX,rfl,hown,hm⟩
  obtain ⟨A5,c5,X5,k5,rfl,rfl,hbq5⟩:=hown.bq
  have HM5:=Lib.hid (HM4.out.trans' hm)
  have HO5:=Lib.hid hown
  obtain ⟨base,hbase⟩:∃ b,b=w4.heap.size:=⟨_,rfl⟩
  rw [← hbase] at HO5
  have HSz:=Lib.hid (show w.heap.size≤base∧bR < base∧base≤w5.heap.size from ⟨by rw [hbase];exact (HM0.out.trans' HM4.out).below.size,by rw [hbase];exact (HR.out _ HM4.out).lt,by rw [hbase];exact hm.below.size⟩)
  rw [HEq.out.2.2]
  clear hm hown hbq5 hbase
  clear c0 c1 c2 cl e0 e1 e2 ef0 ef1 ef2 el z0 z1 z2 zf0 zf1 zf2 zl
  have hc:=HP.out _ HM5.out
  have c0:=hc.cell 0
  have c1:=hc.cell 1
  have c2:=hc.cell 2
  have cl:=hc.lt
  have he:=HX.out _ HM5.out
  have e0:=he.cell 0
  have e1:=he.cell 1
  have e2:=he.cell 2
  have ef0:=he.frozen 0
  have ef1:=he.frozen 1
  have ef2:=he.frozen 2
  have el:=he.lt
  have hz:=HR.out _ HM5.out
  have z0:=hz.cell 0
  have z1:=hz.cell 1
  have z2:=hz.cell 2
  have zf0:=hz.frozen 0
  have zf1:=hz.frozen 1
  have zf2:=hz.frozen 2
  have zl:=hz.lt
  simp at c0 c1 c2 e0 e1 e2 z0 z1 z2
  clear hc he hz
  go_wp2_with fail
  refine (HCl.out _ ((HM0.out.trans' HM5.out).alloc)).mono ?_
  rintro e w6 ⟨A2,c2',rfl,hrow,hm⟩
  have hO6:=(HO5.out.mor (Mor.refl _).alloc).mor hm
  have hbO:=(Bk.new w5 37 #[.slice A5 n c5,.slice X5 m k5,.int .i64 sh]).mor hm
  obtain ⟨bO,hbO2⟩:∃ b,b=w5.heap.size:=⟨_,rfl⟩
  rw [← hbO2] at hbO ⊢
  have HbO:=Lib.hid (show bR < bO∧base≤bO by have:=HSz.out;omega)
  have HO6:=Lib.hid hO6
  have HBO6:=Lib.hid hbO
  have HRow:=Lib.hid (own_base hrow (show base≤_ by have:=HSz.out;show _≤(w5.heap.push _).size;rw [Array.size_push];omega))
  have HM6:=Lib.hid ((HM5.out.alloc).trans' hm)
  clear hrow hm hO6 hbO hbO2
  clear c0 c1 c2 cl e0 e1 e2 ef0 ef1 ef2 el z0 z1 z2 zf0 zf1 zf2 zl
  have hc:=HP.out _ HM6.out
  have c0:=hc.cell 0
  have c1:=hc.cell 1
  have c2:=hc.cell 2
  have cl:=hc.lt
  have he:=HX.out _ HM6.out
  have e0:=he.cell 0
  have e1:=he.cell 1
  have e2:=he.cell 2
  have ef0:=he.frozen 0
  have ef1:=he.frozen 1
  have ef2:=he.frozen 2
  have el:=he.lt
  have hz:=HR.out _ HM6.out
  have z0:=hz.cell 0
  have z1:=hz.cell 1
  have z2:=hz.cell 2
  have zf0:=hz.frozen 0
  have zf1:=hz.frozen 1
  have zf2:=hz.frozen 2
  have zl:=hz.lt
  simp at c0 c1 c2 e0 e1 e2 z0 z1 z2
  clear hc he hz
  have hbX7:=(HX.out _ HM6.out).set_ 2 (.slice A2 p c2')
  have hbO7:=HBO6.out.set_other bX 2 (.slice A2 p c2') (by have:=HbO.out;have:=HbR.out;omega)
  have hbR7:=(HR.out _ HM6.out).set_other bX 2 (.slice A2 p c2') (by have:=HbR.out;omega)
  have hO7:=HO6.out.setlt (i:=2) (u:=.slice A2 p c2') (show bX < base by have:=HSz.out;have:=HbR.out;omega)
  have hR7:=own_set (i:=2) (u:=.slice A2 p c2') HRow.out (show bX < base by have:=HSz.out;have:=HbR.out;omega)
  have hM7:Mor w (w6.setCell ⟨bX,2,none⟩ (.slice A2 p c2')):=Mor.of_below ((HM0.out.trans' HM6.out).below.setCell (p:=⟨bX,2,none⟩) HbR.out.2.1 _)
  obtain ⟨w7,hw7⟩:∃ w7,w7=w6.setCell ⟨bX,2,none⟩ (.slice A2 p c2'):=⟨_,rfl⟩
  rw [← hw7] at hbX7 hbO7 hbR7 hO7 hR7 hM7
  have HW7:=Lib.hid hw7
  have HBX7:=Lib.hid (show Bk w7 bX 111 #[.string ky,.int .i64 dy,.slice A2 p c2'] by simpa using hbX7)
  have HBO7:=Lib.hid hbO7
  have HBR7:=Lib.hid hbR7
  have HO7:=Lib.hid hO7
  have HR7:=Lib.hid hR7
  have HM7:=Lib.hid hM7
  have HSz7:=Lib.hid (show base≤w7.heap.size by rw [hw7];have:=HSz.out;have:=HM6.out;have h5:=HBO6.out.lt;have:=HbO.out;simp [World.setCell];omega)
  have o0:=HBO6.out.cell 0
  have o1:=HBO6.out.cell 1
  have o2:=HBO6.out.cell 2
  have ol:=HBO6.out.lt
  have hne1:bO≠bX:=by have:=HbO.out;have:=HbR.out;omega
  have hne2:bX≠bO:=fun e=>hne1 e.symm
  simp at o0 o1 o2
  obtain ⟨_,_,X7,k7,e7a,e7b,hbq7⟩:=HO7.out.bq
  injection e7a with e7a1 _ e7a3
  injection e7b with e7b1 _ e7b3
  subst e7a1 e7a3 e7b1 e7b3
  have HBq7:=Lib.hid hbq7
  clear hbX7 hbO7 hbR7 hO7 hR7 hM7 hbq7
  have HBs7:=Lib.hid (HBs.out w7 X5 k5 A2 p c2' HBq7.out.es)
  rw [HW7.out] at HBs7
  clear hw7
  go_wp2_with fail
  refine HBs7.out.mono ?_
  rintro e w8 ⟨fnd,rfl,hm⟩
  rw [← HW7.out] at hm
  have HM8:=Lib.hid (HM7.out.trans' hm)
  have HBX8:=Lib.hid (HBX7.out.mor hm)
  have HBO8:=Lib.hid (HBO7.out.mor hm)
  have HBR8:=Lib.hid (HBR7.out.mor hm)
  have HO8:=Lib.hid (HO7.out.mor hm)
  have HR8:=Lib.hid (own_mor HR7.out hm)
  have HSz8:=Lib.hid (Nat.le_trans HSz7.out hm.below.size)
  clear hm
  clear c0 c1 c2 cl e0 e1 e2 ef0 ef1 ef2 el z0 z1 z2 zf0 zf1 zf2 zl
  clear o0 o1 o2 ol
  have x0:=HBX8.out.cell 0
  have x1:=HBX8.out.cell 1
  have x2:=HBX8.out.cell 2
  have xl:=HBX8.out.lt
  have o0:=HBO8.out.cell 0
  have o1:=HBO8.out.cell 1
  have o2:=HBO8.out.cell 2
  have ol:=HBO8.out.lt
  simp at x0 x1 x2 o0 o1 o2
  obtain ⟨qs,hqs⟩:=HO8.out.es
  have HQs:=Lib.hid hqs
  clear hqs
  go_wp2_with fail
  have hE9:=HQs.out.mor ((Mor.refl w8).alloc (o:=.cells #[.string ky,.int .i64 dy,.slice A2 p c2'] 111))
  have hR9:=own_mor HR8.out ((Mor.refl w8).alloc (o:=.cells #[.string ky,.int .i64 dy,.slice A2 p c2'] 111))
  have hO9:=HO8.out.mor ((Mor.refl w8).alloc (o:=.cells #[.string ky,.int .i64 dy,.slice A2 p c2'] 111))
  have hbO9:=HBO8.out.alloc (.cells #[.string ky,.int .i64 dy,.slice A2 p c2'] 111)
  have hbR9:=HBR8.out.alloc (.cells #[.string ky,.int .i64 dy,.slice A2 p c2'] 111)
  have hb9:=Bk.new w8 111 (ec ⟨ky,dy,A2,p,c2'⟩).toArray
  have hM9:=HM8.out.alloc (o:=.cells #[.string ky,.int .i64 dy,.slice A2 p c2'] 111)
  have hS9:w8.heap.size < (w8.alloc (.cells #[.string ky,.int .i64 dy,.slice A2 p c2'] 111)).heap.size:=by rw [← sz1];omega
  have hvb:∀ g,(Value.slice X5 m k5).ownBlock=some g→g≠w8.heap.size:=fun g hg=>by have:=(own_blk HQs.out.row hg).1;omega
  have hb9':Bk (w8.alloc (.cells #[.string ky,.int .i64 dy,.slice A2 p c2'] 111)) w8.heap.size 111 (ec ⟨ky,dy,A2,p,c2'⟩).toArray:=hb9
  clear hb9
  generalize w8.alloc (.cells #[.string ky,.int .i64 dy,.slice A2 p c2'] 111)=w9 at *
  have HE9:=Lib.hid hE9
  have HR9:=Lib.hid hR9
  have HO9:=Lib.hid hO9
  have HBO9:=Lib.hid hbO9
  have HBR9:=Lib.hid hbR9
  have HM9:=Lib.hid hM9
  have HSz9:=Lib.hid (Nat.le_of_lt (Nat.lt_of_le_of_lt HSz8.out hS9))
  have HIn:=Lib.hid (insert_any base (.slice X5 m k5) m (insAt x b.en) qs w8.heap.size ⟨ky,dy,A2,p,c2'⟩ w9 hE9.row hE9.ql hb9' (fun e=>hvb _ e rfl) hil (by omega) HSz9.out)
  clear hE9 hR9 hO9 hbO9 hbR9 hb9' hM9 hS9 hvb x0 x1 x2 xl o0 o1 o2 ol
  refine HIn.out.mono ?_
  rintro e w10 ⟨v',rfl,hrow,hg⟩
  obtain ⟨X6,k6,rfl,-,-,-⟩:=own_shape hrow
  have hrowE:=HE9.out.row
  have hbO10:=HBO9.out.growT hrowE hg (by decide)
  have hbR10:=HBR9.out.growT hrowE hg (by decide)
  have hA10:=own_grows HO9.out.ac hrowE hg (by decide)
  have hR10:=own_grows HR9.out hrowE hg (by decide)
  have hEn10:∀ i,i < m→OwnE w10 base (qe qs i) (ne b.en i):=fun i hi=>by
    have h:=HE9.out.ent i hi
    exact ⟨h.key,h.day,own_grows h.row hrowE hg (by decide),h.len,h.ks,h.str⟩
  have hx10:OwnE w10 base ⟨ky,dy,A2,p,c2'⟩ x:=⟨HEq.out.1.symm,HEq.out.2.1.symm,hR10,HXq.out.length,by rw [HEq.out.1];exact HKs.out,HXq.out.str⟩
  have hEs10:=OwnEs.insert (insAt x b.en) hil HE9.out.ql HN.out hrow hEn10 hx10
  rw [← HIe.out] at hEs10
  have hM10:Below w.heap.size w w10:=HM9.out.below.grown hg HM9.out.below.size (fun g hgg=>by have:=(own_blk hrowE hgg).2.1;have:=HSz.out;omega)
  have HEs10:=Lib.hid hEs10
  have HA10:=Lib.hid hA10
  have HBO10:=Lib.hid hbO10
  have HBR10:=Lib.hid hbR10
  have HM10:=Lib.hid hM10
  have o0:=hbO10.cell 0
  have o1:=hbO10.cell 1
  have o2:=hbO10.cell 2
  have of1:=hbO10.frozen 1
  have ol:=hbO10.lt
  have z0:=hbR10.cell 0
  have z1:=hbR10.cell 1
  have z2:=hbR10.cell 2
  have zf0:=hbR10.frozen 0
  have zf1:=hbR10.frozen 1
  have zf2:=hbR10.frozen 2
  have zl:=hbR10.lt
  have hne3:bO≠bR:=by have:=HbO.out;omega
  have hne4:bR≠bO:=fun e=>hne3 e.symm
  simp at o0 o1 o2 z0 z1 z2
  clear hrow hg hrowE hbO10 hbR10 hA10 hR10 hEn10 hx10 hEs10 hM10
  obtain ⟨w11,hw11⟩:∃ w11,w11=w10.setCell ⟨bO,1,none⟩ (.slice X6 (m+1) k6):=⟨_,rfl⟩
  have HBR11:=Lib.hid (show Bk w11 bR 37 #[.slice none 0 0,.slice none 0 0,.int .i64 0] by rw [hw11];exact HBR10.out.set_other _ _ _ hne4)
  have HM11:=Lib.hid (show Mor w w11 by rw [hw11];exact Mor.of_below (HM10.out.setCell (p:=⟨bO,1,none⟩) (show w.heap.size≤bO by have:=HbO.out;have:=HSz.out;omega) _))
  have HB11:=Lib.hid (show OwnB w11 base (.slice A5 n c5) (.slice X6 (m+1) k6) n (m+1) { b with en:=ins x b.en } by
    rw [hw11]
    exact ⟨own_setT HA10.out HBO10.out (by decide),HO9.out.al,HO9.out.astr,_,HEs10.out.setT HBO10.out⟩)
  have HW11:=Lib.hid hw11
  clear hw11
  have HE12:=Lib.hid (fun w12 (h:w12=(((w11.setCell ⟨bR,0,none⟩ (.slice A5 n c5)).setCell ⟨bR,1,none⟩ (.slice X6 (m+1) k6)).setCell ⟨bR,2,none⟩ (.int .i64 sh)))=>put3 (w:=w) _ _ _ HM11.out HBR11.out HbR.out.1 h)
  rw [HW11.out] at HE12
  go_wp2_with fail
  obtain ⟨w12,hw12⟩:∃ w12,w12=((((w10.setCell ⟨bO,1,none⟩ (.slice X6 (m+1) k6)).setCell ⟨bR,0,none⟩ (.slice A5 n c5)).setCell ⟨bR,1,none⟩ (.slice X6 (m+1) k6)).setCell ⟨bR,2,none⟩ (.int .i64 sh)):=⟨_,rfl⟩
  rw [← hw12]
  obtain ⟨⟨q0,q1,q2⟩,q3⟩:=HE12.out w12 hw12
  have HW12:=Lib.hid hw12
  clear hw12
  refine bodyPost_ret (by simp [results,Tryz.results72,go_sem,q0,q1,q2];try rfl) rfl ?_
  refine ⟨A5,n,c5,X6,m+1,k6,by rw [← HEq.out.2.2],?_,q3⟩
  rw [HW12.out,← HW11.out]
  have hbR0:bR < base:=HSz.out.2.1
  have hB11:=HB11.out
  rw [HEq.out.2.2] at hB11
  exact (((hB11.setlt hbR0).setlt hbR0).setlt hbR0).base HSz.out.1
theorem post_no (A:Option Addr) (n c:Nat) (X:Option Addr) (m k:Nat) (b:Bok) (x:En) (B:Option Addr) (p q:Nat) (w:World) (hb:Bq w A n c X m k b) (hx:Lq w B p q x.ls) (hks:x.key.size≤maxLen) (hc:postc b x≠0) :
    Calls Tryz.prog 72 #[bv A n c X m k b.shut,.agg #[.string x.key,.int .i64 x.day,.slice B p q]] w (PostNo w (postc b x)):=by
  unfold postc at hc ⊢
  by_cases h1:bookc b=0
  · rw [if_neg (by simp [h1])] at hc ⊢
    by_cases h2:enc x=0
    · rw [if_neg (by simp [h2])] at hc ⊢
      by_cases h3:0≤findE b.en x.key
      · rw [if_pos h3] at hc ⊢
        by_cases h4:ne b.en (findE b.en x.key).toNat=x
        · rw [if_pos h4] at hc;exact absurd rfl hc
        · rw [if_neg h4];exact post_bad5 A n c X m k b x B p q w hb hx hks h1 h2 h3 h4
      · rw [if_neg h3] at hc ⊢
        by_cases h4:knownB b.ac x=false
        · rw [if_pos h4];exact post_bad4 A n c X m k b x B p q w hb hx hks h1 h2 h3 h4
        · rw [if_neg h4] at hc ⊢
          by_cases h5:x.day≤b.shut
          · rw [if_pos h5];exact post_bad9 A n c X m k b x B p q w hb hx hks h1 h2 h3 (by simpa using h4) h5
          · rw [if_neg h5] at hc ⊢
            by_cases h6:b.en.length=60
            · rw [if_pos h6];exact post_bad60 A n c X m k b x B p q w hb hx hks h1 h2 h3 (by simpa using h4) h5 (by rw [← hb.length];exact h6)
            · rw [if_neg h6] at hc;exact absurd rfl hc
    · rw [if_pos h2];exact post_bad2 A n c X m k b x B p q w hb hx hks h1 h2
  · rw [if_pos h1];exact post_bad1 A n c X m k b x B p q w hb hx hks h1
theorem post_yes (A:Option Addr) (n c:Nat) (X:Option Addr) (m k:Nat) (b:Bok) (x:En) (B:Option Addr) (p q:Nat) (w:World) (hb:Bq w A n c X m k b) (hx:Lq w B p q x.ls) (hks:x.key.size≤maxLen) (hc:postc b x=0) :
    Calls Tryz.prog 72 #[bv A n c X m k b.shut,.agg #[.string x.key,.int .i64 x.day,.slice B p q]] w (PostYes w (postb b x)):=by
  obtain ⟨h1,h2,h3⟩:=post_pre hc
  by_cases hf:0≤findE b.en x.key
  · rw [if_pos hf] at h3
    rw [show postb b x=b by unfold postb;rw [if_pos hf]]
    by_cases h4:ne b.en (findE b.en x.key).toNat=x
    · exact post_same A n c X m k b x B p q w hb hx hks ((bookc_iff b).2 h1) h2 hf h4
    · rw [if_neg h4] at h3;omega
  · rw [if_neg hf] at h3
    rw [show postb b x={ b with en:=ins x b.en } by unfold postb;rw [if_neg hf]]
    by_cases h4:knownB b.ac x=false
    · rw [if_pos h4] at h3;omega
    · rw [if_neg h4] at h3
      by_cases h5:x.day≤b.shut
      · rw [if_pos h5] at h3;omega
      · rw [if_neg h5] at h3
        by_cases h6:b.en.length=60
        · rw [if_pos h6] at h3;omega
        · exact post_new_ok A n c X m k b x B p q w hb hx hks ((bookc_iff b).2 h1) h2 hf (by simpa using h4) h5 (by rw [← hb.length];exact h6)
theorem put3a {w W w9:World} {bR:Nat} {T:TypeId} {a b c:Value} (u0 u1 u2:Value) (o:Obj) (hM:Mor w W) (hR:Bk W bR T #[a,b,c]) (hb:w.heap.size≤bR) (h:w9=(((W.setCell ⟨bR,0,none⟩ u0).setCell ⟨bR,1,none⟩ u1).setCell ⟨bR,2,none⟩ u2).alloc o) :
    (w9.cell? ⟨bR,0,none⟩=some u0∧w9.cell? ⟨bR,1,none⟩=some u1∧w9.cell? ⟨bR,2,none⟩=some u2)∧Mor w w9:=by
  have hB:=(((hR.set_ 0 u0).set_ 1 u1).set_ 2 u2).alloc o
  rw [← h] at hB
  refine ⟨⟨by rw [hB.cell];rfl,by rw [hB.cell];rfl,by rw [hB.cell];rfl⟩,?_⟩
  rw [h]
  exact (Mor.of_below (((hM.below.setCell (p:=⟨bR,0,none⟩) hb _).setCell (p:=⟨bR,1,none⟩) hb _).setCell (p:=⟨bR,2,none⟩) hb _)).alloc
def shutc (b:Bok) (day:Int):Int:=if bookc b≠0 then bookc b else if day < 0∨292193 < day then 1 else if day < b.shut then 9 else 0
def shutb (b:Bok) (day:Int):Bok:={ b with shut:=day }
set_option maxRecDepth 100000 in
set_option maxHeartbeats 1600000 in
theorem shut_bad1 (A:Option Addr) (n c:Nat) (X:Option Addr) (m k:Nat) (b:Bok) (day:Int) (w:World) (hb:Bq w A n c X m k b) (hc:bookc b≠0) :
    Calls Tryz.prog 74 #[bv A n c X m k b.shut,.int .i64 day] w (PostNo w (bookc b)):=by
  have HCk:=Lib.hid (fun w' (hm:Mor w w')=>bcheck_any A n c X m k b w' (hb.mor hm))
  have HD:=Lib.hid (fun w=>cis_any day w)
  generalize bookc b=r at *
  have hr:(r != 0)=true:=by simpa using hc
  clear hc hb
  generalize b.shut=sh at *
  go_enter Tryz.func74,Tryz.ntmps74
  go_wp2_with fail
  have hP0:=(Bk.new w 37 #[.slice A n c,.slice X m k,.int .i64 sh]).alloc (.cells #[.slice none 0 0,.slice none 0 0,.int .i64 0] 37)
  have hR0:=Bk.new (w.alloc (.cells #[.slice A n c,.slice X m k,.int .i64 sh] 37)) 37 #[.slice none 0 0,.slice none 0 0,.int .i64 0]
  have hM0:=((Mor.refl w).alloc (o:=.cells #[.slice A n c,.slice X m k,.int .i64 sh] 37)).alloc (o:=.cells #[.slice none 0 0,.slice none 0 0,.int .i64 0] 37)
  rw [← sz1] at hR0
  obtain ⟨bP,hbP⟩:∃ b,b=w.heap.size:=⟨_,rfl⟩
  rw [← hbP] at hP0 hR0 ⊢
  obtain ⟨bR,hbR⟩:∃ b,b=bP+1:=⟨_,rfl⟩
  rw [← hbR] at hR0 ⊢
  generalize (w.alloc (.cells #[.slice A n c,.slice X m k,.int .i64 sh] 37)).alloc (.cells #[.slice none 0 0,.slice none 0 0,.int .i64 0] 37)=w0 at *
  have HP:=Lib.hid (fun w' (h:Mor w0 w')=>hP0.mor h)
  have HR:=Lib.hid (fun w' (h:Mor w0 w')=>hR0.mor h)
  have HM0:=Lib.hid hM0
  have HbR:=Lib.hid (And.intro (show w.heap.size≤bR by omega) (And.intro (show bP < bR by omega) (show bR < w0.heap.size from hR0.lt)))
  clear hP0 hR0 hM0 hbP hbR
  refine (HCk.out _ HM0.out).mono ?_
  rintro e w1 ⟨rfl,hm⟩
  have HM1:=Lib.hid hm
  clear hm
  have hc:=HP.out _ HM1.out
  have c0:=hc.cell 0
  have c1:=hc.cell 1
  have c2:=hc.cell 2
  have cl:=hc.lt
  have hz:=HR.out _ HM1.out
  have z0:=hz.cell 0
  have z1:=hz.cell 1
  have z2:=hz.cell 2
  have zf0:=hz.frozen 0
  have zf1:=hz.frozen 1
  have zf2:=hz.frozen 2
  have zl:=hz.lt
  simp at c0 c1 c2 z0 z1 z2
  clear hc hz
  have HE9:=Lib.hid (fun w9 (h:w9=(((w1.setCell ⟨bR,0,none⟩ (.slice none 0 0)).setCell ⟨bR,1,none⟩ (.slice none 0 0)).setCell ⟨bR,2,none⟩ (.int .i64 0)))=>put3 (w:=w) _ _ _ (HM0.out.trans' HM1.out) (HR.out _ HM1.out) HbR.out.1 h)
  go_wp2_with fail
  obtain ⟨w9,hw9⟩:∃ w9,w9=(((w1.setCell ⟨bR,0,none⟩ (.slice none 0 0)).setCell ⟨bR,1,none⟩ (.slice none 0 0)).setCell ⟨bR,2,none⟩ (.int .i64 0)):=⟨_,rfl⟩
  rw [← hw9]
  obtain ⟨⟨q0,q1,q2⟩,q3⟩:=HE9.out w9 hw9
  clear hw9
  refine bodyPost_ret (by simp [results,Tryz.results74,go_sem,q0,q1,q2];try rfl) rfl ?_
  exact ⟨rfl,q3⟩
set_option maxRecDepth 100000 in
set_option maxHeartbeats 1600000 in
theorem shut_bad2 (A:Option Addr) (n c:Nat) (X:Option Addr) (m k:Nat) (b:Bok) (day:Int) (w:World) (hb:Bq w A n c X m k b) (hc:bookc b=0) (hd:day < 0∨292193 < day) :
    Calls Tryz.prog 74 #[bv A n c X m k b.shut,.int .i64 day] w (PostNo w 1):=by
  have HCk:=Lib.hid (fun w' (hm:Mor w w')=>bcheck_any A n c X m k b w' (hb.mor hm))
  have HD:=Lib.hid (fun w=>cis_any day w)
  rw [hc] at HCk
  rw [show (decide (0≤day) && decide (day≤292193))=false by simp;omega] at HD
  clear hc hb hd
  generalize b.shut=sh at *
  go_enter Tryz.func74,Tryz.ntmps74
  go_wp2_with fail
  have hP0:=(Bk.new w 37 #[.slice A n c,.slice X m k,.int .i64 sh]).alloc (.cells #[.slice none 0 0,.slice none 0 0,.int .i64 0] 37)
  have hR0:=Bk.new (w.alloc (.cells #[.slice A n c,.slice X m k,.int .i64 sh] 37)) 37 #[.slice none 0 0,.slice none 0 0,.int .i64 0]
  have hM0:=((Mor.refl w).alloc (o:=.cells #[.slice A n c,.slice X m k,.int .i64 sh] 37)).alloc (o:=.cells #[.slice none 0 0,.slice none 0 0,.int .i64 0] 37)
  rw [← sz1] at hR0
  obtain ⟨bP,hbP⟩:∃ b,b=w.heap.size:=⟨_,rfl⟩
  rw [← hbP] at hP0 hR0 ⊢
  obtain ⟨bR,hbR⟩:∃ b,b=bP+1:=⟨_,rfl⟩
  rw [← hbR] at hR0 ⊢
  generalize (w.alloc (.cells #[.slice A n c,.slice X m k,.int .i64 sh] 37)).alloc (.cells #[.slice none 0 0,.slice none 0 0,.int .i64 0] 37)=w0 at *
  have HP:=Lib.hid (fun w' (h:Mor w0 w')=>hP0.mor h)
  have HR:=Lib.hid (fun w' (h:Mor w0 w')=>hR0.mor h)
  have HM0:=Lib.hid hM0
  have HbR:=Lib.hid (And.intro (show w.heap.size≤bR by omega) (And.intro (show bP < bR by omega) (show bR < w0.heap.size from hR0.lt)))
  clear hP0 hR0 hM0 hbP hbR
  refine (HCk.out _ HM0.out).mono ?_
  rintro e w1 ⟨rfl,hm⟩
  have HM1:=Lib.hid hm
  clear hm
  have hc:=HP.out _ HM1.out
  have c0:=hc.cell 0
  have c1:=hc.cell 1
  have c2:=hc.cell 2
  have cl:=hc.lt
  have hz:=HR.out _ HM1.out
  have z0:=hz.cell 0
  have z1:=hz.cell 1
  have z2:=hz.cell 2
  have zf0:=hz.frozen 0
  have zf1:=hz.frozen 1
  have zf2:=hz.frozen 2
  have zl:=hz.lt
  simp at c0 c1 c2 z0 z1 z2
  clear hc hz
  have HE9:=Lib.hid (fun w9 (h:w9=(((w1.setCell ⟨bR,0,none⟩ (.slice none 0 0)).setCell ⟨bR,1,none⟩ (.slice none 0 0)).setCell ⟨bR,2,none⟩ (.int .i64 0)))=>put3 (w:=w) _ _ _ (HM0.out.trans' HM1.out) (HR.out _ HM1.out) HbR.out.1 h)
  go_wp2_with (go_at_call 93;(with_reducible refine (HD.out _).mono ?_);rintro e w2 ⟨rfl,rfl⟩)
  obtain ⟨w9,hw9⟩:∃ w9,w9=(((w1.setCell ⟨bR,0,none⟩ (.slice none 0 0)).setCell ⟨bR,1,none⟩ (.slice none 0 0)).setCell ⟨bR,2,none⟩ (.int .i64 0)):=⟨_,rfl⟩
  rw [← hw9]
  obtain ⟨⟨q0,q1,q2⟩,q3⟩:=HE9.out w9 hw9
  clear hw9
  refine bodyPost_ret (by simp [results,Tryz.results74,go_sem,q0,q1,q2];try rfl) rfl ?_
  exact ⟨rfl,q3⟩
set_option maxRecDepth 100000 in
set_option maxHeartbeats 1600000 in
theorem shut_bad9 (A:Option Addr) (n c:Nat) (X:Option Addr) (m k:Nat) (b:Bok) (day:Int) (w:World) (hb:Bq w A n c X m k b) (hc:bookc b=0) (h0:0≤day) (h9:day≤292193) (hs:day < b.shut) :
    Calls Tryz.prog 74 #[bv A n c X m k b.shut,.int .i64 day] w (PostNo w 9):=by
  have HCk:=Lib.hid (fun w' (hm:Mor w w')=>bcheck_any A n c X m k b w' (hb.mor hm))
  have HD:=Lib.hid (fun w=>cis_any day w)
  rw [hc] at HCk
  rw [show (decide (0≤day) && decide (day≤292193))=true by simp;omega] at HD
  clear hc hb
  generalize b.shut=sh at *
  go_enter Tryz.func74,Tryz.ntmps74
  go_wp2_with fail
  have hP0:=(Bk.new w 37 #[.slice A n c,.slice X m k,.int .i64 sh]).alloc (.cells #[.slice none 0 0,.slice none 0 0,.int .i64 0] 37)
  have hR0:=Bk.new (w.alloc (.cells #[.slice A n c,.slice X m k,.int .i64 sh] 37)) 37 #[.slice none 0 0,.slice none 0 0,.int .i64 0]
  have hM0:=((Mor.refl w).alloc (o:=.cells #[.slice A n c,.slice X m k,.int .i64 sh] 37)).alloc (o:=.cells #[.slice none 0 0,.slice none 0 0,.int .i64 0] 37)
  rw [← sz1] at hR0
  obtain ⟨bP,hbP⟩:∃ b,b=w.heap.size:=⟨_,rfl⟩
  rw [← hbP] at hP0 hR0 ⊢
  obtain ⟨bR,hbR⟩:∃ b,b=bP+1:=⟨_,rfl⟩
  rw [← hbR] at hR0 ⊢
  generalize (w.alloc (.cells #[.slice A n c,.slice X m k,.int .i64 sh] 37)).alloc (.cells #[.slice none 0 0,.slice none 0 0,.int .i64 0] 37)=w0 at *
  have HP:=Lib.hid (fun w' (h:Mor w0 w')=>hP0.mor h)
  have HR:=Lib.hid (fun w' (h:Mor w0 w')=>hR0.mor h)
  have HM0:=Lib.hid hM0
  have HbR:=Lib.hid (And.intro (show w.heap.size≤bR by omega) (And.intro (show bP < bR by omega) (show bR < w0.heap.size from hR0.lt)))
  clear hP0 hR0 hM0 hbP hbR
  refine (HCk.out _ HM0.out).mono ?_
  rintro e w1 ⟨rfl,hm⟩
  have HM1:=Lib.hid hm
  clear hm
  have hc:=HP.out _ HM1.out
  have c0:=hc.cell 0
  have c1:=hc.cell 1
  have c2:=hc.cell 2
  have cl:=hc.lt
  have hz:=HR.out _ HM1.out
  have z0:=hz.cell 0
  have z1:=hz.cell 1
  have z2:=hz.cell 2
  have zf0:=hz.frozen 0
  have zf1:=hz.frozen 1
  have zf2:=hz.frozen 2
  have zl:=hz.lt
  simp at c0 c1 c2 z0 z1 z2
  clear hc hz
  have HE9:=Lib.hid (fun w9 (h:w9=(((w1.setCell ⟨bR,0,none⟩ (.slice none 0 0)).setCell ⟨bR,1,none⟩ (.slice none 0 0)).setCell ⟨bR,2,none⟩ (.int .i64 0)))=>put3 (w:=w) _ _ _ (HM0.out.trans' HM1.out) (HR.out _ HM1.out) HbR.out.1 h)
  go_wp2_with (go_at_call 93;(with_reducible refine (HD.out _).mono ?_);rintro e w2 ⟨rfl,rfl⟩)
  obtain ⟨w9,hw9⟩:∃ w9,w9=(((w1.setCell ⟨bR,0,none⟩ (.slice none 0 0)).setCell ⟨bR,1,none⟩ (.slice none 0 0)).setCell ⟨bR,2,none⟩ (.int .i64 0)):=⟨_,rfl⟩
  rw [← hw9]
  obtain ⟨⟨q0,q1,q2⟩,q3⟩:=HE9.out w9 hw9
  clear hw9
  refine bodyPost_ret (by simp [results,Tryz.results74,go_sem,q0,q1,q2];try rfl) rfl ?_
  exact ⟨rfl,q3⟩
set_option maxRecDepth 100000 in
set_option maxHeartbeats 1600000 in
theorem shut_yes (A:Option Addr) (n c:Nat) (X:Option Addr) (m k:Nat) (b:Bok) (day:Int) (w:World) (hb:Bq w A n c X m k b) (hc:bookc b=0) (h0:0≤day) (h9:day≤292193) (hs:¬ day < b.shut) :
    Calls Tryz.prog 74 #[bv A n c X m k b.shut,.int .i64 day] w (PostYes w (shutb b day)):=by
  have HCk:=Lib.hid (fun w' (hm:Mor w w')=>bcheck_any A n c X m k b w' (hb.mor hm))
  have HD:=Lib.hid (fun w=>cis_any day w)
  rw [hc] at HCk
  rw [show (decide (0≤day) && decide (day≤292193))=true by simp;omega] at HD
  have hm60:m≤60:=by rw [← hb.length];exact ((bookc_iff b).1 hc).len
  have hn24:n≤24:=by rw [← hb.ac.length];exact (acc_len ((bookc_iff b).1 hc).ac)
  have HCp:=Lib.hid (fun w' (h:Mor w w')=>copied_any A n c X m k b w' (hb.mor h) (by omega) (by omega) (fun y hy=>by have:=(linec_ok (entc_ok (((bookc_iff b).1 hc).enc y hy)).2.2.2).1;omega))
  clear hc hb
  generalize hsh:b.shut=sh at *
  have HSh:=Lib.hid hsh
  clear hsh
  go_enter Tryz.func74,Tryz.ntmps74
  go_wp2_with fail
  have hP0:=(Bk.new w 37 #[.slice A n c,.slice X m k,.int .i64 sh]).alloc (.cells #[.slice none 0 0,.slice none 0 0,.int .i64 0] 37)
  have hR0:=Bk.new (w.alloc (.cells #[.slice A n c,.slice X m k,.int .i64 sh] 37)) 37 #[.slice none 0 0,.slice none 0 0,.int .i64 0]
  have hM0:=((Mor.refl w).alloc (o:=.cells #[.slice A n c,.slice X m k,.int .i64 sh] 37)).alloc (o:=.cells #[.slice none 0 0,.slice none 0 0,.int .i64 0] 37)
  rw [← sz1] at hR0
  obtain ⟨bP,hbP⟩:∃ b,b=w.heap.size:=⟨_,rfl⟩
  rw [← hbP] at hP0 hR0 ⊢
  obtain ⟨bR,hbR⟩:∃ b,b=bP+1:=⟨_,rfl⟩
  rw [← hbR] at hR0 ⊢
  generalize (w.alloc (.cells #[.slice A n c,.slice X m k,.int .i64 sh] 37)).alloc (.cells #[.slice none 0 0,.slice none 0 0,.int .i64 0] 37)=w0 at *
  have HP:=Lib.hid (fun w' (h:Mor w0 w')=>hP0.mor h)
  have HR:=Lib.hid (fun w' (h:Mor w0 w')=>hR0.mor h)
  have HM0:=Lib.hid hM0
  have HbR:=Lib.hid (And.intro (show w.heap.size≤bR by omega) (And.intro (show bP < bR by omega) (show bR < w0.heap.size from hR0.lt)))
  clear hP0 hR0 hM0 hbP hbR
  refine (HCk.out _ HM0.out).mono ?_
  rintro e w1 ⟨rfl,hm⟩
  have HM1:=Lib.hid hm
  clear hm
  have hc:=HP.out _ HM1.out
  have c0:=hc.cell 0
  have c1:=hc.cell 1
  have c2:=hc.cell 2
  have cl:=hc.lt
  have hz:=HR.out _ HM1.out
  have z0:=hz.cell 0
  have z1:=hz.cell 1
  have z2:=hz.cell 2
  have zf0:=hz.frozen 0
  have zf1:=hz.frozen 1
  have zf2:=hz.frozen 2
  have zl:=hz.lt
  simp at c0 c1 c2 z0 z1 z2
  clear hc hz
  go_wp2_with (first | (go_at_call 93;(with_reducible refine (HD.out _).mono ?_);rintro e w2 ⟨rfl,rfl⟩))
  refine (HCp.out _ (HM0.out.trans' HM1.out)).mono ?_
  rintro e w5 ⟨vA,vX,rfl,hown,hm⟩
  obtain ⟨A5,c5,X5,k5,rfl,rfl,hbq5⟩:=hown.bq
  have HM5:=Lib.hid (HM1.out.trans' hm)
  have HO5:=Lib.hid hown
  have HSz:=Lib.hid (show w.heap.size≤w1.heap.size∧bR < w1.heap.size∧w1.heap.size≤w5.heap.size from ⟨(HM0.out.trans' HM1.out).below.size,(HR.out _ HM1.out).lt,hm.below.size⟩)
  clear hm hown hbq5
  clear c0 c1 c2 cl z0 z1 z2 zl zf0 zf1 zf2
  have hc:=HP.out _ HM5.out
  have c0:=hc.cell 0
  have c1:=hc.cell 1
  have c2:=hc.cell 2
  have cl:=hc.lt
  have hz:=HR.out _ HM5.out
  have z0:=hz.cell 0
  have z1:=hz.cell 1
  have z2:=hz.cell 2
  have zf0:=hz.frozen 0
  have zf1:=hz.frozen 1
  have zf2:=hz.frozen 2
  have zl:=hz.lt
  simp at c0 c1 c2 z0 z1 z2
  clear hc hz
  rw [HSh.out]
  obtain ⟨w9,hw9⟩:∃ w9,w9=(((w5.setCell ⟨bR,0,none⟩ (.slice A5 n c5)).setCell ⟨bR,1,none⟩ (.slice X5 m k5)).setCell ⟨bR,2,none⟩ (.int .i64 day)).alloc (.cells #[.slice A5 n c5,.slice X5 m k5,.int .i64 day] 37):=⟨_,rfl⟩
  have HE9:=Lib.hid (put3a (w:=w) _ _ _ _ (HM0.out.trans' HM5.out) (HR.out _ HM5.out) HbR.out.1 hw9)
  have HB9:=Lib.hid (show OwnB w9 w.heap.size (.slice A5 n c5) (.slice X5 m k5) n m (shutb b day) by
    have h:=((((HO5.out.setlt (i:=0) (u:=.slice A5 n c5) HSz.out.2.1).setlt (i:=1) (u:=.slice X5 m k5) HSz.out.2.1).setlt (i:=2) (u:=.int .i64 day) HSz.out.2.1).base HSz.out.1).mor ((Mor.refl _).alloc (o:=.cells #[.slice A5 n c5,.slice X5 m k5,.int .i64 day] 37))
    rw [← hw9] at h
    obtain ⟨a1,a2,a3,qs,a4⟩:=h
    exact ⟨a1,a2,a3,qs,a4⟩)
  have HW9:=Lib.hid hw9
  clear hw9
  go_wp2_with fail
  rw [← HW9.out]
  obtain ⟨⟨q0,q1,q2⟩,q3⟩:=HE9.out
  refine bodyPost_ret (by simp [results,Tryz.results74,go_sem,q0,q1,q2];try rfl) rfl ?_
  exact ⟨A5,n,c5,X5,m,k5,rfl,HB9.out,q3⟩
def GetNo (w:World) (c:Int) (e:Ending) (w':World):Prop:=e=.returned (.tuple #[.agg #[.string { data:=#[] },.int .i64 0,.slice none 0 0],.int .i64 c])∧Mor w w'
def GetYes (w:World) (x:En) (e:Ending) (w':World):Prop:=∃ A n c,e=.returned (.tuple #[.agg #[.string x.key,.int .i64 x.day,.slice A n c],.int .i64 0])∧OwnE w' w.heap.size ⟨x.key,x.day,A,n,c⟩ x∧Mor w w'
set_option maxRecDepth 100000 in
set_option maxHeartbeats 1600000 in
theorem get_bad1 (A:Option Addr) (n c:Nat) (X:Option Addr) (m k:Nat) (b:Bok) (key:ByteArray) (w:World) (hb:Bq w A n c X m k b) (hc:bookc b≠0) :
    Calls Tryz.prog 129 #[bv A n c X m k b.shut,.string key] w (GetNo w (bookc b)):=by
  have HCk:=Lib.hid (fun w' (hm:Mor w w')=>bcheck_any A n c X m k b w' (hb.mor hm))
  generalize bookc b=r at *
  have hr:(r != 0)=true:=by simpa using hc
  clear hc hb
  generalize b.shut=sh at *
  go_enter Tryz.func129,Tryz.ntmps129
  go_wp2_with fail
  have hP0:=(Bk.new w 37 #[.slice A n c,.slice X m k,.int .i64 sh]).alloc (.cells #[.string { data:=#[] },.int .i64 0,.slice none 0 0] 111)
  have hR0:=Bk.new (w.alloc (.cells #[.slice A n c,.slice X m k,.int .i64 sh] 37)) 111 #[.string { data:=#[] },.int .i64 0,.slice none 0 0]
  have hM0:=((Mor.refl w).alloc (o:=.cells #[.slice A n c,.slice X m k,.int .i64 sh] 37)).alloc (o:=.cells #[.string { data:=#[] },.int .i64 0,.slice none 0 0] 111)
  rw [← sz1] at hR0
  obtain ⟨bP,hbP⟩:∃ b,b=w.heap.size:=⟨_,rfl⟩
  rw [← hbP] at hP0 hR0 ⊢
  obtain ⟨bR,hbR⟩:∃ b,b=bP+1:=⟨_,rfl⟩
  rw [← hbR] at hR0 ⊢
  generalize (w.alloc (.cells #[.slice A n c,.slice X m k,.int .i64 sh] 37)).alloc (.cells #[.string { data:=#[] },.int .i64 0,.slice none 0 0] 111)=w0 at *
  have HP:=Lib.hid (fun w' (h:Mor w0 w')=>hP0.mor h)
  have HR:=Lib.hid (fun w' (h:Mor w0 w')=>hR0.mor h)
  have HM0:=Lib.hid hM0
  have HbR:=Lib.hid (And.intro (show w.heap.size≤bR by omega) (And.intro (show bP < bR by omega) (show bR < w0.heap.size from hR0.lt)))
  clear hP0 hR0 hM0 hbP hbR
  refine (HCk.out _ HM0.out).mono ?_
  rintro e w1 ⟨rfl,hm⟩
  have HM1:=Lib.hid hm
  clear hm
  have hc:=HP.out _ HM1.out
  have c0:=hc.cell 0
  have c1:=hc.cell 1
  have c2:=hc.cell 2
  have cl:=hc.lt
  have hz:=HR.out _ HM1.out
  have z0:=hz.cell 0
  have z1:=hz.cell 1
  have z2:=hz.cell 2
  have zf0:=hz.frozen 0
  have zf1:=hz.frozen 1
  have zf2:=hz.frozen 2
  have zl:=hz.lt
  simp at c0 c1 c2 z0 z1 z2
  clear hc hz
  have HE9:=Lib.hid (fun w9 (h:w9=(((w1.setCell ⟨bR,0,none⟩ (.string { data:=#[] })).setCell ⟨bR,1,none⟩ (.int .i64 0)).setCell ⟨bR,2,none⟩ (.slice none 0 0)))=>put3 (w:=w) _ _ _ (HM0.out.trans' HM1.out) (HR.out _ HM1.out) HbR.out.1 h)
  go_wp2_with fail
  obtain ⟨w9,hw9⟩:∃ w9,w9=(((w1.setCell ⟨bR,0,none⟩ (.string { data:=#[] })).setCell ⟨bR,1,none⟩ (.int .i64 0)).setCell ⟨bR,2,none⟩ (.slice none 0 0)):=⟨_,rfl⟩
  rw [← hw9]
  obtain ⟨⟨q0,q1,q2⟩,q3⟩:=HE9.out w9 hw9
  clear hw9
  refine bodyPost_ret (by simp [results,Tryz.results129,go_sem,q0,q1,q2];try rfl) rfl ?_
  exact ⟨rfl,q3⟩
set_option maxRecDepth 100000 in
set_option maxHeartbeats 1600000 in
theorem get_bad4 (A:Option Addr) (n c:Nat) (X:Option Addr) (m k:Nat) (b:Bok) (key:ByteArray) (w:World) (hb:Bq w A n c X m k b) (hc:bookc b=0) (hf:findE b.en key < 0) :
    Calls Tryz.prog 129 #[bv A n c X m k b.shut,.string key] w (GetNo w 4):=by
  have HCk:=Lib.hid (fun w' (hm:Mor w w')=>bcheck_any A n c X m k b w' (hb.mor hm))
  rw [hc] at HCk
  have hm60:m≤60:=by rw [← hb.length];exact ((bookc_iff b).1 hc).len
  have HFi:=Lib.hid (fun w' (h:Mor w w')=>find_en A n c X m k b.shut b.en key w' (hb.es.mor h) hb.length (by omega))
  generalize findE b.en key=fi at *
  clear hc hb
  generalize b.shut=sh at *
  go_enter Tryz.func129,Tryz.ntmps129
  go_wp2_with fail
  have hP0:=(Bk.new w 37 #[.slice A n c,.slice X m k,.int .i64 sh]).alloc (.cells #[.string { data:=#[] },.int .i64 0,.slice none 0 0] 111)
  have hR0:=Bk.new (w.alloc (.cells #[.slice A n c,.slice X m k,.int .i64 sh] 37)) 111 #[.string { data:=#[] },.int .i64 0,.slice none 0 0]
  have hM0:=((Mor.refl w).alloc (o:=.cells #[.slice A n c,.slice X m k,.int .i64 sh] 37)).alloc (o:=.cells #[.string { data:=#[] },.int .i64 0,.slice none 0 0] 111)
  rw [← sz1] at hR0
  obtain ⟨bP,hbP⟩:∃ b,b=w.heap.size:=⟨_,rfl⟩
  rw [← hbP] at hP0 hR0 ⊢
  obtain ⟨bR,hbR⟩:∃ b,b=bP+1:=⟨_,rfl⟩
  rw [← hbR] at hR0 ⊢
  generalize (w.alloc (.cells #[.slice A n c,.slice X m k,.int .i64 sh] 37)).alloc (.cells #[.string { data:=#[] },.int .i64 0,.slice none 0 0] 111)=w0 at *
  have HP:=Lib.hid (fun w' (h:Mor w0 w')=>hP0.mor h)
  have HR:=Lib.hid (fun w' (h:Mor w0 w')=>hR0.mor h)
  have HM0:=Lib.hid hM0
  have HbR:=Lib.hid (And.intro (show w.heap.size≤bR by omega) (And.intro (show bP < bR by omega) (show bR < w0.heap.size from hR0.lt)))
  clear hP0 hR0 hM0 hbP hbR
  refine (HCk.out _ HM0.out).mono ?_
  rintro e w1 ⟨rfl,hm⟩
  have HM1:=Lib.hid hm
  clear hm
  have hc:=HP.out _ HM1.out
  have c0:=hc.cell 0
  have c1:=hc.cell 1
  have c2:=hc.cell 2
  have cl:=hc.lt
  have hz:=HR.out _ HM1.out
  have z0:=hz.cell 0
  have z1:=hz.cell 1
  have z2:=hz.cell 2
  have zf0:=hz.frozen 0
  have zf1:=hz.frozen 1
  have zf2:=hz.frozen 2
  have zl:=hz.lt
  simp at c0 c1 c2 z0 z1 z2
  clear hc hz
  go_wp2_with fail
  refine (HFi.out _ (HM0.out.trans' HM1.out)).mono ?_
  rintro e w3 ⟨rfl,hm⟩
  have HM3:=Lib.hid (HM1.out.trans' hm)
  clear hm
  clear c0 c1 c2 cl z0 z1 z2 zl zf0 zf1 zf2
  have hc:=HP.out _ HM3.out
  have c0:=hc.cell 0
  have c1:=hc.cell 1
  have c2:=hc.cell 2
  have cl:=hc.lt
  have hz:=HR.out _ HM3.out
  have z0:=hz.cell 0
  have z1:=hz.cell 1
  have z2:=hz.cell 2
  have zf0:=hz.frozen 0
  have zf1:=hz.frozen 1
  have zf2:=hz.frozen 2
  have zl:=hz.lt
  simp at c0 c1 c2 z0 z1 z2
  clear hc hz
  have HE9:=Lib.hid (fun w9 (h:w9=(((w3.setCell ⟨bR,0,none⟩ (.string { data:=#[] })).setCell ⟨bR,1,none⟩ (.int .i64 0)).setCell ⟨bR,2,none⟩ (.slice none 0 0)))=>put3 (w:=w) _ _ _ (HM0.out.trans' HM3.out) (HR.out _ HM3.out) HbR.out.1 h)
  go_wp2_with fail
  obtain ⟨w9,hw9⟩:∃ w9,w9=(((w3.setCell ⟨bR,0,none⟩ (.string { data:=#[] })).setCell ⟨bR,1,none⟩ (.int .i64 0)).setCell ⟨bR,2,none⟩ (.slice none 0 0)):=⟨_,rfl⟩
  rw [← hw9]
  obtain ⟨⟨q0,q1,q2⟩,q3⟩:=HE9.out w9 hw9
  clear hw9
  refine bodyPost_ret (by simp [results,Tryz.results129,go_sem,q0,q1,q2];try rfl) rfl ?_
  exact ⟨rfl,q3⟩
set_option maxRecDepth 100000 in
set_option maxHeartbeats 1600000 in
theorem get_yes (A:Option Addr) (n c:Nat) (X:Option Addr) (m k:Nat) (b:Bok) (key:ByteArray) (w:World) (hb:Bq w A n c X m k b) (hc:bookc b=0) (i:Nat) (hi:i < m) (hf:findE b.en key=i) :
    Calls Tryz.prog 129 #[bv A n c X m k b.shut,.string key] w (GetYes w (ne b.en i)):=by
  have HCk:=Lib.hid (fun w' (hm:Mor w w')=>bcheck_any A n c X m k b w' (hb.mor hm))
  rw [hc] at HCk
  have hm60:m≤60:=by rw [← hb.length];exact ((bookc_iff b).1 hc).len
  have HFi:=Lib.hid (fun w' (h:Mor w w')=>find_en A n c X m k b.shut b.en key w' (hb.es.mor h) hb.length (by omega))
  rw [hf] at HFi
  have HBq:=Lib.hid hb
  have HN:=Lib.hid hb.length
  have hi0:(0:Int)≤(i:Int):=by omega
  have him:(i:Int) < (m:Int):=by omega
  have HLn:=Lib.hid (show (ne b.en i).ls.length≤12 from (linec_ok (entc_ok (((bookc_iff b).1 hc).enc _ (by rw [ne_eq _ _ (by rw [hb.length];exact hi)];exact List.getElem_mem _))).2.2.2).1)
  clear hc hb hf
  generalize hky:(ne b.en i).key=ky at *
  generalize hdy:(ne b.en i).day=dy at *
  have HEq:=Lib.hid (And.intro hky hdy)
  clear hky hdy
  generalize hsh:b.shut=sh at *
  clear hsh
  go_enter Tryz.func129,Tryz.ntmps129
  go_wp2_with fail
  have hP0:=(Bk.new w 37 #[.slice A n c,.slice X m k,.int .i64 sh]).alloc (.cells #[.string { data:=#[] },.int .i64 0,.slice none 0 0] 111)
  have hR0:=Bk.new (w.alloc (.cells #[.slice A n c,.slice X m k,.int .i64 sh] 37)) 111 #[.string { data:=#[] },.int .i64 0,.slice none 0 0]
  have hM0:=((Mor.refl w).alloc (o:=.cells #[.slice A n c,.slice X m k,.int .i64 sh] 37)).alloc (o:=.cells #[.string { data:=#[] },.int .i64 0,.slice none 0 0] 111)
  rw [← sz1] at hR0
  obtain ⟨bP,hbP⟩:∃ b,b=w.heap.size:=⟨_,rfl⟩
  rw [← hbP] at hP0 hR0 ⊢
  obtain ⟨bR,hbR⟩:∃ b,b=bP+1:=⟨_,rfl⟩
  rw [← hbR] at hR0 ⊢
  generalize (w.alloc (.cells #[.slice A n c,.slice X m k,.int .i64 sh] 37)).alloc (.cells #[.string { data:=#[] },.int .i64 0,.slice none 0 0] 111)=w0 at *
  have HP:=Lib.hid (fun w' (h:Mor w0 w')=>hP0.mor h)
  have HR:=Lib.hid (fun w' (h:Mor w0 w')=>hR0.mor h)
  have HM0:=Lib.hid hM0
  have HbR:=Lib.hid (And.intro (show w.heap.size≤bR by omega) (And.intro (show bP < bR by omega) (show bR < w0.heap.size from hR0.lt)))
  clear hP0 hR0 hM0 hbP hbR
  refine (HCk.out _ HM0.out).mono ?_
  rintro e w1 ⟨rfl,hm⟩
  have HM1:=Lib.hid hm
  clear hm
  have hc:=HP.out _ HM1.out
  have c0:=hc.cell 0
  have c1:=hc.cell 1
  have c2:=hc.cell 2
  have cl:=hc.lt
  have hz:=HR.out _ HM1.out
  have z0:=hz.cell 0
  have z1:=hz.cell 1
  have z2:=hz.cell 2
  have zf0:=hz.frozen 0
  have zf1:=hz.frozen 1
  have zf2:=hz.frozen 2
  have zl:=hz.lt
  simp at c0 c1 c2 z0 z1 z2
  clear hc hz
  go_wp2_with fail
  refine (HFi.out _ (HM0.out.trans' HM1.out)).mono ?_
  rintro e w3 ⟨rfl,hm⟩
  have HM3:=Lib.hid (HM1.out.trans' hm)
  clear hm
  clear c0 c1 c2 cl z0 z1 z2 zl zf0 zf1 zf2
  have hc:=HP.out _ HM3.out
  have c0:=hc.cell 0
  have c1:=hc.cell 1
  have c2:=hc.cell 2
  have cl:=hc.lt
  have hz:=HR.out _ HM3.out
  have z0:=hz.cell 0
  have z1:=hz.cell 1
  have z2:=hz.cell 2
  have zf0:=hz.frozen 0
  have zf1:=hz.frozen 1
  have zf2:=hz.frozen 2
  have zl:=hz.lt
  simp at c0 c1 c2 z0 z1 z2
  clear hc hz
  obtain ⟨x,B,p,q,hX,hxb,hks,d0,d1,d2,hlq⟩:=(HBq.out.es.mor (HM0.out.trans' HM3.out)).at_ i (by rw [HN.out];exact hi)
  rw [HEq.out.1] at d0 hks
  rw [HEq.out.2] at d1
  subst hX
  have HKs:=Lib.hid hks
  have HQ:=Lib.hid hlq
  have HCl:=Lib.hid (fun w' (h:Mor w3 w')=>show Calls Tryz.prog 123 #[.slice B p q] w' fun e w2=>∃ A2 c2,e=.returned (.slice A2 p c2)∧w2.ownsRow w'.heap.size 149 2 (.slice A2 p c2) p (flat pc (ne b.en i).ls)∧Mor w' w2 from
    (clone_lq B p q (ne b.en i).ls w' (hlq.mor h) (by rw [← hlq.length];have:=HLn.out;omega)).mono (by
      rintro e w2 ⟨v,rfl,ho,hm2⟩
      obtain ⟨A',c',rfl,_,_,_⟩:=own_shape ho
      exact ⟨A',c',rfl,ho,hm2⟩))
  clear hlq hks
  go_wp2_with fail
  refine (HCl.out _ (Mor.refl _).alloc).mono ?_
  rintro e w6 ⟨A2,c2',rfl,hrow,hm⟩
  have hbE:=(Bk.new w3 111 #[.string ky,.int .i64 dy,.slice B p q]).mor hm
  obtain ⟨bE,hbE2⟩:∃ b,b=w3.heap.size:=⟨_,rfl⟩
  rw [← hbE2] at hbE ⊢
  have HSz:=Lib.hid (show w.heap.size≤bE∧bR < bE from ⟨by rw [hbE2];exact (HM0.out.trans' HM3.out).below.size,by rw [hbE2];exact (HR.out _ HM3.out).lt⟩)
  have HM6:=Lib.hid ((HM3.out.alloc).trans' hm)
  have HRow:=Lib.hid hrow
  have HSz2:=Lib.hid (show bE < (w3.alloc (.cells #[.string ky,.int .i64 dy,.slice B p q] 111)).heap.size by rw [← sz1];omega)
  have HBE:=Lib.hid hbE
  clear hrow hm hbE2 d0 d1 d2 hxb
  clear c0 c1 c2 cl z0 z1 z2 zl zf0 zf1 zf2
  have hc:=HP.out _ HM6.out
  have c0:=hc.cell 0
  have c1:=hc.cell 1
  have c2:=hc.cell 2
  have cl:=hc.lt
  have hz:=HR.out _ HM6.out
  have z0:=hz.cell 0
  have z1:=hz.cell 1
  have z2:=hz.cell 2
  have zf0:=hz.frozen 0
  have zf1:=hz.frozen 1
  have zf2:=hz.frozen 2
  have zl:=hz.lt
  simp at c0 c1 c2 z0 z1 z2
  clear hc hz
  have e0:=hbE.cell 0
  have e1:=hbE.cell 1
  have e2:=hbE.cell 2
  have ef:=hbE.frozen 2
  have el:=hbE.lt
  simp at e0 e1 e2
  have hne:bE≠bR:=by have:=HSz.out;omega
  have hne':bR≠bE:=fun e=>hne e.symm
  clear hbE
  obtain ⟨w7,hw7⟩:∃ w7,w7=w6.setCell ⟨bE,2,none⟩ (.slice A2 p c2'):=⟨_,rfl⟩
  have HR7:=Lib.hid (show Bk w7 bR 111 #[.string { data:=#[] },.int .i64 0,.slice none 0 0] by rw [hw7];exact (HR.out _ HM6.out).set_other _ _ _ hne')
  have HM7:=Lib.hid (show Mor w w7 by rw [hw7];exact Mor.of_below ((HM0.out.trans' HM6.out).below.setCell (p:=⟨bE,2,none⟩) HSz.out.1 _))
  have HRow7:=Lib.hid (show w7.ownsRow _ 149 2 (.slice A2 p c2') p (flat pc (ne b.en i).ls) by rw [hw7];exact own_set HRow.out HSz2.out)
  have HE9:=Lib.hid (fun w9 (h:w9=(((w7.setCell ⟨bR,0,none⟩ (.string ky)).setCell ⟨bR,1,none⟩ (.int .i64 dy)).setCell ⟨bR,2,none⟩ (.slice A2 p c2')))=>put3 (w:=w) _ _ _ HM7.out HR7.out HbR.out.1 h)
  have HO9:=Lib.hid (fun w9 (h:w9=(((w7.setCell ⟨bR,0,none⟩ (.string ky)).setCell ⟨bR,1,none⟩ (.int .i64 dy)).setCell ⟨bR,2,none⟩ (.slice A2 p c2')))=>show OwnE w9 w.heap.size ⟨ky,dy,A2,p,c2'⟩ (ne b.en i) by
    have hlt:bR < (w3.alloc (.cells #[.string ky,.int .i64 dy,.slice B p q] 111)).heap.size:=by have:=HSz.out;have:=HSz2.out;omega
    rw [h]
    exact ⟨HEq.out.1.symm,HEq.out.2.symm,own_base (own_set (own_set (own_set HRow7.out hlt) hlt) hlt) (Nat.le_of_lt (Nat.lt_of_le_of_lt HSz.out.1 HSz2.out)),HQ.out.length,by rw [HEq.out.1];exact HKs.out,HQ.out.str⟩)
  rw [hw7] at HE9 HO9
  clear hw7
  go_wp2_with fail
  obtain ⟨w9,hw9⟩:∃ w9,w9=((((w6.setCell ⟨bE,2,none⟩ (.slice A2 p c2')).setCell ⟨bR,0,none⟩ (.string ky)).setCell ⟨bR,1,none⟩ (.int .i64 dy)).setCell ⟨bR,2,none⟩ (.slice A2 p c2')):=⟨_,rfl⟩
  rw [← hw9]
  obtain ⟨⟨q0,q1,q2⟩,q3⟩:=HE9.out w9 hw9
  have HW9:=Lib.hid (HO9.out w9 hw9)
  clear hw9
  refine bodyPost_ret (by simp [results,Tryz.results129,go_sem,q0,q1,q2];try rfl) rfl ?_
  rw [← HEq.out.1,← HEq.out.2]
  rw [← HEq.out.1,← HEq.out.2] at HW9
  exact ⟨A2,p,c2',by rw [HEq.out.1,HEq.out.2],HW9.out,q3⟩
theorem postYes_bq {w w':World} {b:Bok} {e:Ending} (h:PostYes w b e w'):∃ A n c X m k,e=.returned (.tuple #[bv A n c X m k b.shut,.int .i64 0])∧Bq w' A n c X m k b∧OwnB w' w.heap.size (.slice A n c) (.slice X m k) n m b∧Mor w w':=by
  obtain ⟨A,n,c,X,m,k,he,ho,hm⟩:=h
  obtain ⟨A',c',X',k',e1,e2,hb⟩:=ho.bq
  injection e1 with e1 _ e3
  injection e2 with e4 _ e6
  subst e1 e3 e4 e6
  exact ⟨A,n,c,X,m,k,he,hb,ho,hm⟩
theorem bk_book (w:World) (A:Option Addr) (n c:Nat) (X:Option Addr) (m k:Nat) (s:Int) {w':World} (h:Mor (w.alloc (.cells #[.slice A n c,.slice X m k,.int .i64 s] 37)) w') :
    w'.cell? ⟨w.heap.size,0,none⟩=some (.slice A n c)∧w'.cell? ⟨w.heap.size,1,none⟩=some (.slice X m k)∧w'.cell? ⟨w.heap.size,2,none⟩=some (.int .i64 s)∧w.heap.size < w'.heap.size:=by
  have hb:=(Bk.new w 37 #[.slice A n c,.slice X m k,.int .i64 s]).mor h
  exact ⟨by rw [hb.cell];rfl,by rw [hb.cell];rfl,by rw [hb.cell];rfl,hb.lt⟩
theorem post_ac (b:Bok) (x:En):(postb b x).ac=b.ac∧(postb b x).shut=b.shut:=by
  unfold postb;split <;> exact ⟨rfl,rfl⟩
def lookc (b:Bok) (day:Int):Int:=if bookc b≠0 then bookc b else if day < 0∨292193 < day then 1 else 0
set_option maxHeartbeats 800000 in
theorem look_any (A:Option Addr) (n c:Nat) (X:Option Addr) (m k:Nat) (b:Bok) (day:Int) (w:World) (h:Bq w A n c X m k b) :
    Calls Tryz.prog 175 #[bv A n c X m k b.shut,.int .i64 day] w fun e w'=>e=.returned (.int .i64 (lookc b day))∧Mor w w':=by
  have HC:=Lib.hid (fun w' (hm:Mor w w')=>bcheck_any A n c X m k b w' (h.mor hm))
  have HL:=Lib.hid (show lookc b day=if bookc b≠0 then bookc b else if day < 0∨292193 < day then 1 else 0 from rfl)
  have HD:=Lib.hid (fun w=>cis_any day w)
  generalize lookc b day=l at *
  generalize bookc b=r at *
  generalize b.shut=sh at *
  clear h
  by_cases h1:r=0
  · subst h1
    rw [if_neg (by simp)] at HL
    by_cases h3:day < 0∨292193 < day
    · rw [if_pos h3] at HL
      rw [show (decide (0≤day) && decide (day≤292193))=false by simp;omega] at HD
      go_enter Tryz.func175,Tryz.ntmps175
      go_wp2_with fail
      refine (HC.out _ (Mor.refl _).alloc).mono ?_
      rintro e w1 ⟨rfl,hm⟩
      have HM:=Lib.hid ((Mor.refl w).alloc.trans' hm)
      clear hm
      go_wp2_with (go_at_call 93;(with_reducible refine (HD.out _).mono ?_);rintro e w2 ⟨rfl,rfl⟩)
      go_ret
      exact ⟨by rw [HL.out] <;> rfl,HM.out⟩
    · rw [if_neg h3] at HL
      rw [show (decide (0≤day) && decide (day≤292193))=true by simp;omega] at HD
      go_enter Tryz.func175,Tryz.ntmps175
      go_wp2_with fail
      refine (HC.out _ (Mor.refl _).alloc).mono ?_
      rintro e w1 ⟨rfl,hm⟩
      have HM:=Lib.hid ((Mor.refl w).alloc.trans' hm)
      clear hm
      go_wp2_with (go_at_call 93;(with_reducible refine (HD.out _).mono ?_);rintro e w2 ⟨rfl,rfl⟩)
      go_ret
      exact ⟨by rw [HL.out] <;> rfl,HM.out⟩
  · rw [if_pos h1] at HL
    have hr:(r != 0)=true:=by simpa using h1
    go_enter Tryz.func175,Tryz.ntmps175
    go_wp2_with fail
    refine (HC.out _ (Mor.refl _).alloc).mono ?_
    rintro e w1 ⟨rfl,hm⟩
    have HM:=Lib.hid ((Mor.refl w).alloc.trans' hm)
    clear hm
    go_wp2_with fail
    go_ret
    exact ⟨by rw [HL.out] <;> rfl,HM.out⟩
theorem lookc_zero {b:Bok} {d:Int} (h:lookc b d=0):BOk b∧0≤d∧d≤292193:=by
  unfold lookc at h
  by_cases h1:bookc b=0
  · rw [if_neg (by simp [h1])] at h
    by_cases h2:d < 0∨292193 < d
    · rw [if_pos h2] at h;omega
    · exact ⟨(bookc_iff b).1 h1,by omega,by omega⟩
  · rw [if_pos h1] at h;exact absurd h h1
theorem lookc_of {b:Bok} {d:Int} (h1:BOk b) (h2:0≤d) (h3:d≤292193):lookc b d=0:=by
  unfold lookc;rw [if_neg (by simp [(bookc_iff b).2 h1]),if_neg (by omega)]
def posv (es:List En) (t:Int) (a:Ln):Int:=if 0 < ofS es a.1 0 t then ofS es a.1 0 t else 0
def negv (es:List En) (t:Int) (a:Ln):Int:=if 0 < ofS es a.1 0 t then 0 else -ofS es a.1 0 t
def posS (b:Bok) (t:Int):Int:=sm (posv b.en t) b.ac
def negS (b:Bok) (t:Int):Int:=sm (negv b.en t) b.ac
set_option maxRecDepth 100000 in
set_option maxHeartbeats 3200000 in
theorem trial_ok (A:Option Addr) (n c:Nat) (X:Option Addr) (m k:Nat) (b:Bok) (t:Int) (w:World) (h:Bq w A n c X m k b) (hl:lookc b t=0) :
    Calls Tryz.prog 140 #[bv A n c X m k b.shut,.int .i64 t] w fun e w'=>e=.returned (.tuple #[.int .i64 (posS b t),.int .i64 (negS b t),.int .i64 0])∧Mor w w':=by
  obtain ⟨hbo,h0,h9⟩:=lookc_zero hl
  have HL:=Lib.hid (fun w' (hm:Mor w w')=>look_any A n c X m k b t w' (h.mor hm))
  rw [hl] at HL
  have HO:=Lib.hid (fun w' (hm:Mor w w') s=>of_any A n c X m k b.shut b.en s 0 t w' (h.es.mor hm) h.length (by rw [← h.length];exact hbo.len) hbo.enc)
  have HAc:=Lib.hid (fun w' (hm:Mor w w')=>h.ac.si.mor hm)
  have HN:=Lib.hid h.ac.length
  have hn24:n≤24:=by rw [← h.ac.length];exact (acc_ok hbo.ac).1
  have HSb:=Lib.hid (fun s=>ofS_bd hbo.enc hbo.len s 0 t)
  have HTp:=Lib.hid (fun j (hj:j < n)=>show sm (posv b.en t) (b.ac.take (j+1))=sm (posv b.en t) (b.ac.take j)+posv b.en t (cd b.ac j,0) by
    rw [sm_take _ _ _ (by rw [h.ac.length];exact hj),(cd_at b.ac j (by rw [h.ac.length];exact hj)).1];rfl)
  have HTn:=Lib.hid (fun j (hj:j < n)=>show sm (negv b.en t) (b.ac.take (j+1))=sm (negv b.en t) (b.ac.take j)+negv b.en t (cd b.ac j,0) by
    rw [sm_take _ _ _ (by rw [h.ac.length];exact hj),(cd_at b.ac j (by rw [h.ac.length];exact hj)).1];rfl)
  have HBp:=Lib.hid (fun j (hj:j≤n)=>show -720000000000000*(j:Int)≤sm (posv b.en t) (b.ac.take j)∧sm (posv b.en t) (b.ac.take j)≤720000000000000*j by
    have:=sm_bd (f:=posv b.en t) (M:=720000000000000) (xs:=b.ac.take j) (fun a _=>by have:=ofS_bd hbo.enc hbo.len a.1 0 t;unfold posv;split <;> omega)
    rw [show (b.ac.take j).length=j by rw [List.length_take,h.ac.length];omega] at this
    omega)
  have HBn:=Lib.hid (fun j (hj:j≤n)=>show -720000000000000*(j:Int)≤sm (negv b.en t) (b.ac.take j)∧sm (negv b.en t) (b.ac.take j)≤720000000000000*j by
    have:=sm_bd (f:=negv b.en t) (M:=720000000000000) (xs:=b.ac.take j) (fun a _=>by have:=ofS_bd hbo.enc hbo.len a.1 0 t;unfold negv;split <;> omega)
    rw [show (b.ac.take j).length=j by rw [List.length_take,h.ac.length];omega] at this
    omega)
  have HAll:=Lib.hid (show sm (posv b.en t) (b.ac.take n)=posS b t∧sm (negv b.en t) (b.ac.take n)=negS b t by
    rw [List.take_of_length_le (by rw [h.ac.length];exact Nat.le_refl _)];exact ⟨rfl,rfl⟩)
  generalize b.shut=sh at *
  clear h hl hbo
  go_enter Tryz.func140,Tryz.ntmps140
  go_wp2_with fail
  refine (HL.out _ (Mor.refl _).alloc).mono ?_
  rintro e w1 ⟨rfl,hm⟩
  obtain ⟨c0,c1,c2,cl⟩:=bk_book _ _ _ _ _ _ _ _ hm
  obtain ⟨bP,hbP⟩:∃ g,g=w.heap.size:=⟨_,rfl⟩
  rw [← hbP] at c0 c1 c2 cl ⊢
  have HM1:=Lib.hid ((Mor.refl w).alloc.trans' hm)
  have HC:=Lib.hid (fun w' (h:Mor w1 w')=>show (w'.cell? ⟨bP,0,none⟩=some (.slice A n c)∧w'.cell? ⟨bP,1,none⟩=some (.slice X m k)∧w'.cell? ⟨bP,2,none⟩=some (.int .i64 sh)∧bP < w'.heap.size) by rw [hbP];exact bk_book _ _ _ _ _ _ _ _ (hm.trans' h))
  clear hm hbP
  go_wp2_with fail
  go_loopw [8,9,22] (fun v u i wr=>∃ j:Nat,j≤n∧i=.int .i64 j∧v=.int .i64 (sm (posv b.en t) (b.ac.take j))∧u=.int .i64 (sm (negv b.en t) (b.ac.take j))∧Hid (Mor w1 wr)) (fun _ _ i _=>n - (intOf i).toNat)
  case atStart=>exact ⟨0,Nat.zero_le _,rfl,rfl,rfl,Lib.hid (Mor.refl _)⟩
  case round =>
    obtain ⟨j,hj,rfl,rfl,rfl,HM⟩:=hrel
    by_cases hlt:j < n
    · have hji:(j:Int) < (n:Int):=by omega
      have hj0:(0:Int)≤(j:Int):=by omega
      obtain ⟨x,hA,hxb,d0,d1⟩:=(HAc.out _ (HM1.out.trans' HM.out)).at_ j (by rw [HN.out];exact hlt)
      subst hA
      obtain ⟨e0,e1,e2,el⟩:=HC.out _ HM.out
      have HOj:=Lib.hid (fun w' (h:Mor wr w')=>HO.out w' ((HM1.out.trans' HM.out).trans' h) (cd b.ac j))
      have HT1:=Lib.hid (HTp.out j hlt)
      have HT2:=Lib.hid (HTn.out j hlt)
      obtain ⟨s1,s2⟩:=HSb.out (cd b.ac j)
      obtain ⟨q1,q2⟩:=HBp.out j hj
      obtain ⟨q3,q4⟩:=HBn.out j hj
      have HP1:=Lib.hid (show posv b.en t (cd b.ac j,0)=if 0 < ofS b.en (cd b.ac j) 0 t then ofS b.en (cd b.ac j) 0 t else 0 from rfl)
      have HP2:=Lib.hid (show negv b.en t (cd b.ac j,0)=if 0 < ofS b.en (cd b.ac j) 0 t then 0 else -ofS b.en (cd b.ac j) 0 t from rfl)
      generalize sm (posv b.en t) (b.ac.take j)=S at *
      generalize sm (negv b.en t) (b.ac.take j)=R at *
      generalize posv b.en t (cd b.ac j,0)=pv at *
      generalize negv b.en t (cd b.ac j,0)=nv at *
      generalize ofS b.en (cd b.ac j) 0 t=o at *
      generalize cd b.ac j=s at *
      generalize am b.ac j=a at *
      by_cases ho:0 < o
      · rw [if_pos ho] at HP1 HP2
        go_wp2_with ((go_at_call 128;(with_reducible refine (HOj.out _ (Mor.refl _).alloc).mono ?_);rintro e w6 ⟨rfl,bs,dr,rfl⟩))
        go_roundw
        case rel=>exact ⟨j+1,by omega,by go_num,by rw [HT1.out,HP1.out],by rw [HT2.out,HP2.out,Int.add_zero],Lib.hid (HM.out.alloc.more)⟩
        case measure=>simp [intOf];omega
      · rw [if_neg ho] at HP1 HP2
        go_wp2_with ((go_at_call 128;(with_reducible refine (HOj.out _ (Mor.refl _).alloc).mono ?_);rintro e w6 ⟨rfl,bs,dr,rfl⟩))
        go_roundw
        case rel=>exact ⟨j+1,by omega,by go_num,by rw [HT1.out,HP1.out,Int.add_zero],by rw [HT2.out,HP2.out];rfl,Lib.hid (HM.out.alloc.more)⟩
        case measure=>simp [intOf];omega
    · obtain rfl:j=n:=by omega
      rw [HAll.out.1,HAll.out.2]
      go_wp2_with fail
      go_returns
      exact ⟨rfl,HM1.out.trans' HM.out⟩
set_option maxHeartbeats 800000 in
theorem trial_no (A:Option Addr) (n c:Nat) (X:Option Addr) (m k:Nat) (b:Bok) (t:Int) (w:World) (h:Bq w A n c X m k b) (hl:lookc b t≠0) :
    Calls Tryz.prog 140 #[bv A n c X m k b.shut,.int .i64 t] w fun e w'=>e=.returned (.tuple #[.int .i64 0,.int .i64 0,.int .i64 (lookc b t)])∧Mor w w':=by
  have HL:=Lib.hid (fun w' (hm:Mor w w')=>look_any A n c X m k b t w' (h.mor hm))
  generalize lookc b t=r at *
  generalize b.shut=sh at *
  have hr:(r != 0)=true:=by simpa using hl
  clear h hl
  go_enter Tryz.func140,Tryz.ntmps140
  go_wp2_with fail
  refine (HL.out _ (Mor.refl _).alloc).mono ?_
  rintro e w1 ⟨rfl,hm⟩
  have HM:=Lib.hid ((Mor.refl w).alloc.trans' hm)
  clear hm
  go_wp2_with fail
  go_returns
  exact ⟨rfl,HM.out⟩
def C3 (w:World) (g:Nat) (a b c:Value):Prop:=w.cell? ⟨g,0,none⟩=some a∧w.cell? ⟨g,1,none⟩=some b∧w.cell? ⟨g,2,none⟩=some c∧g < w.heap.size
end Go.Proofs.YtdhbkifpodekcaaGreatDoor
