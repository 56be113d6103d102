/- Texts of this claim. -/
import Derived.Test.YtdhbkifpodekcaaGreatDoorDeskZ29
import Derived.Deep.RegionHeld2
namespace Go.Proofs.YtdhbkifpodekcaaGreatDoor
open Go Go.ChangeShapes Go.WideShapes Go.ChangeAt Go.RowKit Go.PlainAid
set_option linter.unusedVariables false
set_option maxRecDepth 100000
theorem cell_morD {w w':World} (h:Mor w w') {p:Addr} {v:Value} (hc:w.cell? p=some v):w'.cell? p=some v :=
  (h.below.cell (p:=p) (World.block_lt_of_cell? _ _ hc)).trans hc
theorem borneC {P:Program} {f:FuncId} {args:Array Value} {w:World} {R F:Ending→World→Prop} (h:Calls P f args w R) (e':Ending) (hG:∀ e w',R e w'→F e w') (_:Hid False→F e' w):Calls P f args w F:=h.mono hG
set_option maxHeartbeats 3200000 in
theorem rec_day:RecOk 35 3:=by
  intro a l ha
  obtain ⟨x,y,z,rfl⟩:=len3 ha
  obtain ⟨v,c,hv,hc,hF⟩:=of_v x y z
  refine ⟨(c,[v]),⟨hc,by simp,by intro q hq;simp at hq;subst hq;exact hv⟩,fun w g n cp B m k h hcp=>?_⟩
  have c0:=h.cell 0 (by simp)
  have c1:=h.cell 1 (by simp)
  have c2:=h.cell 2 (by simp)
  simp at c0 c1 c2
  have HKp:=Lib.hid (fun w' (hm:Mor w w')=>show w'.cell? ⟨g,0,none⟩=some (.int .i64 x)∧w'.cell? ⟨g,1,none⟩=some (.int .i64 y)∧w'.cell? ⟨g,2,none⟩=some (.int .i64 z) from ⟨cell_morD hm c0,cell_morD hm c1,cell_morD hm c2⟩)
  have hn:n=3:=by rw [← h.len];rfl
  subst hn
  have HF:=Lib.hid (fun w' (hm:Mor w w')=>hF w' (h.tab.mor hm))
  have HO:=Lib.hid (fun w' (hm:Mor w w')=>kone_any v c w' hv (h.tb.mor hm))
  clear h hF hv
  by_cases hc0:c=0
  · have HOk:=Lib.hid (fun w' (hm:Mor w w')=>(HO.out w' hm).mono fun e w2 hh=>RecPost.ok hh hc0)
    have HC:=Lib.hid hc0
    clear hc0 HO hc
    go_enter Tryz.func35,Tryz.ntmps35
    go_wp2_with fail
    go_region_held3 (fun w'=>w'.cell? ⟨g,0,none⟩=some (.int .i64 x)∧w'.cell? ⟨g,1,none⟩=some (.int .i64 y)∧w'.cell? ⟨g,2,none⟩=some (.int .i64 z)) (exact HKp.out _ (by repeat (first | exact Mor.refl _ | apply Mor.alloc | apply Mor.more | apply Mor.drewN | apply Mor.drew))) (first
      | (go_at_call 37;(with_reducible refine (HF.out _ (by repeat (first | exact Mor.refl _ | apply Mor.alloc | apply Mor.more | apply Mor.drewN | apply Mor.drew))).mono ?_);rintro e w5 ⟨rfl,bs,dk,rfl⟩)
      | (go_at_call 36;(with_reducible refine (HOk.out _ (by repeat (first | exact Mor.refl _ | apply Mor.alloc | apply Mor.more | apply Mor.drewN | apply Mor.drew))).mono ?_);rintro e w6 ⟨rfl,bs2,dk2,rfl⟩))
    all_goals go_wp2_with fail
    all_goals go_returns
    all_goals exact ⟨.inl ⟨HC.out,rfl⟩,(by repeat (first | exact Mor.refl _ | apply Mor.alloc | apply Mor.more | apply Mor.drewN | apply Mor.drew))⟩
  · have HOn:=Lib.hid (fun w' (hm:Mor w w')=>(HO.out w' hm).mono fun e w2 hh=>RecPost.no hh hc0)
    have HC:=Lib.hid hc0
    clear hc0 HO hc
    go_enter Tryz.func35,Tryz.ntmps35
    go_wp2_with fail
    go_region_held2 (fun w'=>w'.cell? ⟨g,0,none⟩=some (.int .i64 x)∧w'.cell? ⟨g,1,none⟩=some (.int .i64 y)∧w'.cell? ⟨g,2,none⟩=some (.int .i64 z)) (exact HKp.out _ (by repeat (first | exact Mor.refl _ | apply Mor.alloc | apply Mor.more | apply Mor.drewN | apply Mor.drew))) (first
      | (go_at_call 37;(with_reducible refine (HF.out _ (by repeat (first | exact Mor.refl _ | apply Mor.alloc | apply Mor.more | apply Mor.drewN | apply Mor.drew))).mono ?_);rintro e w5 ⟨rfl,bs,dk,rfl⟩)
      | (go_at_call 36;(with_reducible refine borneC (HOn.out _ (by repeat (first | exact Mor.refl _ | apply Mor.alloc | apply Mor.more | apply Mor.drewN | apply Mor.drew))) (.returned (.string (tolB []))) ?_ (fun HN=>?_));(rintro e w6 ⟨he,bs2,dk2,rfl⟩;rw [bang] at he;subst he;exact ⟨rfl,.inr ⟨HC.out,rfl⟩,(by repeat (first | exact Mor.refl _ | apply Mor.alloc | apply Mor.more | apply Mor.drewN | apply Mor.drew))⟩);go_simp))
    exact HN.out.elim
set_option maxHeartbeats 3200000 in
theorem rec_add_of (x y v c:Int) (l:List Int) (hv:I64 v) (hc:CB c) (hF:∀ w,Tab w→Calls Tryz.prog 39 #[.int .i64 x,.int .i64 y] w (NV w v c)) (w:World) (g n cp:Nat) (B:Option Addr) (m k:Nat) (h:Arg w g n B m k [x,y] l) (hcp:n≤cp) :
    Calls Tryz.prog 38 #[.slice (some ⟨g,0,none⟩) n cp,.slice B m k] w (RecPost w (c,[v])):=by
  have c0:=h.cell 0 (by simp)
  have c1:=h.cell 1 (by simp)
  simp at c0 c1
  have HKp:=Lib.hid (fun w' (hm:Mor w w')=>show w'.cell? ⟨g,0,none⟩=some (.int .i64 x)∧w'.cell? ⟨g,1,none⟩=some (.int .i64 y) from ⟨cell_morD hm c0,cell_morD hm c1⟩)
  have hn:n=2:=by rw [← h.len];rfl
  subst hn
  have HF:=Lib.hid (fun w' (hm:Mor w w')=>hF w' (h.tab.mor hm))
  have HO:=Lib.hid (fun w' (hm:Mor w w')=>kone_any v c w' hv (h.tb.mor hm))
  clear h hF hv
  by_cases hc0:c=0
  · have HOk:=Lib.hid (fun w' (hm:Mor w w')=>(HO.out w' hm).mono fun e w2 hh=>RecPost.ok hh hc0)
    have HC:=Lib.hid hc0
    clear hc0 HO hc
    go_enter Tryz.func38,Tryz.ntmps38
    go_wp2_with fail
    go_region_held3 (fun w'=>w'.cell? ⟨g,0,none⟩=some (.int .i64 x)∧w'.cell? ⟨g,1,none⟩=some (.int .i64 y)) (exact HKp.out _ (by repeat (first | exact Mor.refl _ | apply Mor.alloc | apply Mor.more | apply Mor.drewN | apply Mor.drew))) (first
      | (go_at_call 39;(with_reducible refine (HF.out _ (by repeat (first | exact Mor.refl _ | apply Mor.alloc | apply Mor.more | apply Mor.drewN | apply Mor.drew))).mono ?_);rintro e w5 ⟨rfl,bs,dk,rfl⟩)
      | (go_at_call 36;(with_reducible refine (HOk.out _ (by repeat (first | exact Mor.refl _ | apply Mor.alloc | apply Mor.more | apply Mor.drewN | apply Mor.drew))).mono ?_);rintro e w6 ⟨rfl,bs2,dk2,rfl⟩))
    all_goals go_wp2_with fail
    all_goals go_returns
    all_goals exact ⟨.inl ⟨HC.out,rfl⟩,(by repeat (first | exact Mor.refl _ | apply Mor.alloc | apply Mor.more | apply Mor.drewN | apply Mor.drew))⟩
  · have HOn:=Lib.hid (fun w' (hm:Mor w w')=>(HO.out w' hm).mono fun e w2 hh=>RecPost.no hh hc0)
    have HC:=Lib.hid hc0
    clear hc0 HO hc
    go_enter Tryz.func38,Tryz.ntmps38
    go_wp2_with fail
    go_region_held2 (fun w'=>w'.cell? ⟨g,0,none⟩=some (.int .i64 x)∧w'.cell? ⟨g,1,none⟩=some (.int .i64 y)) (exact HKp.out _ (by repeat (first | exact Mor.refl _ | apply Mor.alloc | apply Mor.more | apply Mor.drewN | apply Mor.drew))) (first
      | (go_at_call 39;(with_reducible refine (HF.out _ (by repeat (first | exact Mor.refl _ | apply Mor.alloc | apply Mor.more | apply Mor.drewN | apply Mor.drew))).mono ?_);rintro e w5 ⟨rfl,bs,dk,rfl⟩)
      | (go_at_call 36;(with_reducible refine borneC (HOn.out _ (by repeat (first | exact Mor.refl _ | apply Mor.alloc | apply Mor.more | apply Mor.drewN | apply Mor.drew))) (.returned (.string (tolB []))) ?_ (fun HN=>?_));(rintro e w6 ⟨he,bs2,dk2,rfl⟩;rw [bang] at he;subst he;exact ⟨rfl,.inr ⟨HC.out,rfl⟩,(by repeat (first | exact Mor.refl _ | apply Mor.alloc | apply Mor.more | apply Mor.drewN | apply Mor.drew))⟩);go_simp))
    exact HN.out.elim
theorem rec_add:RecOk 38 2:=by
  intro a l ha
  obtain ⟨x,y,rfl⟩:=len2 ha
  obtain ⟨v,c,hv,hc,hF⟩:=add_v x y
  exact ⟨(c,[v]),⟨hc,by simp,by intro q hq;simp at hq;subst hq;exact hv⟩,rec_add_of x y v c l hv hc hF⟩
set_option maxHeartbeats 3200000 in
theorem rec_share:RecOk 45 3:=by
  intro a l ha
  obtain ⟨x,y,z,rfl⟩:=len3 ha
  obtain ⟨v,c,hv,hc,hF⟩:=share_v x y z
  refine ⟨(c,[v]),⟨hc,by simp,by intro q hq;simp at hq;subst hq;exact hv⟩,fun w g n cp B m k h hcp=>?_⟩
  have c0:=h.cell 0 (by simp)
  have c1:=h.cell 1 (by simp)
  have c2:=h.cell 2 (by simp)
  simp at c0 c1 c2
  have HKp:=Lib.hid (fun w' (hm:Mor w w')=>show w'.cell? ⟨g,0,none⟩=some (.int .i64 x)∧w'.cell? ⟨g,1,none⟩=some (.int .i64 y)∧w'.cell? ⟨g,2,none⟩=some (.int .i64 z) from ⟨cell_morD hm c0,cell_morD hm c1,cell_morD hm c2⟩)
  have hn:n=3:=by rw [← h.len];rfl
  subst hn
  have HF:=Lib.hid (fun w' (hm:Mor w w')=>hF w')
  have HO:=Lib.hid (fun w' (hm:Mor w w')=>kone_any v c w' hv (h.tb.mor hm))
  clear h hF hv
  by_cases hc0:c=0
  · have HOk:=Lib.hid (fun w' (hm:Mor w w')=>(HO.out w' hm).mono fun e w2 hh=>RecPost.ok hh hc0)
    have HC:=Lib.hid hc0
    clear hc0 HO hc
    go_enter Tryz.func45,Tryz.ntmps45
    go_wp2_with fail
    go_region_held3 (fun w'=>w'.cell? ⟨g,0,none⟩=some (.int .i64 x)∧w'.cell? ⟨g,1,none⟩=some (.int .i64 y)∧w'.cell? ⟨g,2,none⟩=some (.int .i64 z)) (exact HKp.out _ (by repeat (first | exact Mor.refl _ | apply Mor.alloc | apply Mor.more | apply Mor.drewN | apply Mor.drew))) (first
      | (go_at_call 46;(with_reducible refine (HF.out _ (by repeat (first | exact Mor.refl _ | apply Mor.alloc | apply Mor.more | apply Mor.drewN | apply Mor.drew))).mono ?_);rintro e w5 ⟨rfl,bs,dk,rfl⟩)
      | (go_at_call 36;(with_reducible refine (HOk.out _ (by repeat (first | exact Mor.refl _ | apply Mor.alloc | apply Mor.more | apply Mor.drewN | apply Mor.drew))).mono ?_);rintro e w6 ⟨rfl,bs2,dk2,rfl⟩))
    all_goals go_wp2_with fail
    all_goals go_returns
    all_goals exact ⟨.inl ⟨HC.out,rfl⟩,(by repeat (first | exact Mor.refl _ | apply Mor.alloc | apply Mor.more | apply Mor.drewN | apply Mor.drew))⟩
  · have HOn:=Lib.hid (fun w' (hm:Mor w w')=>(HO.out w' hm).mono fun e w2 hh=>RecPost.no hh hc0)
    have HC:=Lib.hid hc0
    clear hc0 HO hc
    go_enter Tryz.func45,Tryz.ntmps45
    go_wp2_with fail
    go_region_held2 (fun w'=>w'.cell? ⟨g,0,none⟩=some (.int .i64 x)∧w'.cell? ⟨g,1,none⟩=some (.int .i64 y)∧w'.cell? ⟨g,2,none⟩=some (.int .i64 z)) (exact HKp.out _ (by repeat (first | exact Mor.refl _ | apply Mor.alloc | apply Mor.more | apply Mor.drewN | apply Mor.drew))) (first
      | (go_at_call 46;(with_reducible refine (HF.out _ (by repeat (first | exact Mor.refl _ | apply Mor.alloc | apply Mor.more | apply Mor.drewN | apply Mor.drew))).mono ?_);rintro e w5 ⟨rfl,bs,dk,rfl⟩)
      | (go_at_call 36;(with_reducible refine borneC (HOn.out _ (by repeat (first | exact Mor.refl _ | apply Mor.alloc | apply Mor.more | apply Mor.drewN | apply Mor.drew))) (.returned (.string (tolB []))) ?_ (fun HN=>?_));(rintro e w6 ⟨he,bs2,dk2,rfl⟩;rw [bang] at he;subst he;exact ⟨rfl,.inr ⟨HC.out,rfl⟩,(by repeat (first | exact Mor.refl _ | apply Mor.alloc | apply Mor.more | apply Mor.drewN | apply Mor.drew))⟩);go_simp))
    exact HN.out.elim
set_option maxHeartbeats 3200000 in
theorem rec_least:RecOk 53 3:=by
  intro a l ha
  obtain ⟨x,y,z,rfl⟩:=len3 ha
  obtain ⟨v,c,hv,hc,hF⟩:=least_v x y z
  refine ⟨(c,[v]),⟨hc,by simp,by intro q hq;simp at hq;subst hq;exact hv⟩,fun w g n cp B m k h hcp=>?_⟩
  have c0:=h.cell 0 (by simp)
  have c1:=h.cell 1 (by simp)
  have c2:=h.cell 2 (by simp)
  simp at c0 c1 c2
  have HKp:=Lib.hid (fun w' (hm:Mor w w')=>show w'.cell? ⟨g,0,none⟩=some (.int .i64 x)∧w'.cell? ⟨g,1,none⟩=some (.int .i64 y)∧w'.cell? ⟨g,2,none⟩=some (.int .i64 z) from ⟨cell_morD hm c0,cell_morD hm c1,cell_morD hm c2⟩)
  have hn:n=3:=by rw [← h.len];rfl
  subst hn
  have HF:=Lib.hid (fun w' (hm:Mor w w')=>hF w')
  have HO:=Lib.hid (fun w' (hm:Mor w w')=>kone_any v c w' hv (h.tb.mor hm))
  clear h hF hv
  by_cases hc0:c=0
  · have HOk:=Lib.hid (fun w' (hm:Mor w w')=>(HO.out w' hm).mono fun e w2 hh=>RecPost.ok hh hc0)
    have HC:=Lib.hid hc0
    clear hc0 HO hc
    go_enter Tryz.func53,Tryz.ntmps53
    go_wp2_with fail
    go_region_held3 (fun w'=>w'.cell? ⟨g,0,none⟩=some (.int .i64 x)∧w'.cell? ⟨g,1,none⟩=some (.int .i64 y)∧w'.cell? ⟨g,2,none⟩=some (.int .i64 z)) (exact HKp.out _ (by repeat (first | exact Mor.refl _ | apply Mor.alloc | apply Mor.more | apply Mor.drewN | apply Mor.drew))) (first
      | (go_at_call 54;(with_reducible refine (HF.out _ (by repeat (first | exact Mor.refl _ | apply Mor.alloc | apply Mor.more | apply Mor.drewN | apply Mor.drew))).mono ?_);rintro e w5 ⟨rfl,bs,dk,rfl⟩)
      | (go_at_call 36;(with_reducible refine (HOk.out _ (by repeat (first | exact Mor.refl _ | apply Mor.alloc | apply Mor.more | apply Mor.drewN | apply Mor.drew))).mono ?_);rintro e w6 ⟨rfl,bs2,dk2,rfl⟩))
    all_goals go_wp2_with fail
    all_goals go_returns
    all_goals exact ⟨.inl ⟨HC.out,rfl⟩,(by repeat (first | exact Mor.refl _ | apply Mor.alloc | apply Mor.more | apply Mor.drewN | apply Mor.drew))⟩
  · have HOn:=Lib.hid (fun w' (hm:Mor w w')=>(HO.out w' hm).mono fun e w2 hh=>RecPost.no hh hc0)
    have HC:=Lib.hid hc0
    clear hc0 HO hc
    go_enter Tryz.func53,Tryz.ntmps53
    go_wp2_with fail
    go_region_held2 (fun w'=>w'.cell? ⟨g,0,none⟩=some (.int .i64 x)∧w'.cell? ⟨g,1,none⟩=some (.int .i64 y)∧w'.cell? ⟨g,2,none⟩=some (.int .i64 z)) (exact HKp.out _ (by repeat (first | exact Mor.refl _ | apply Mor.alloc | apply Mor.more | apply Mor.drewN | apply Mor.drew))) (first
      | (go_at_call 54;(with_reducible refine (HF.out _ (by repeat (first | exact Mor.refl _ | apply Mor.alloc | apply Mor.more | apply Mor.drewN | apply Mor.drew))).mono ?_);rintro e w5 ⟨rfl,bs,dk,rfl⟩)
      | (go_at_call 36;(with_reducible refine borneC (HOn.out _ (by repeat (first | exact Mor.refl _ | apply Mor.alloc | apply Mor.more | apply Mor.drewN | apply Mor.drew))) (.returned (.string (tolB []))) ?_ (fun HN=>?_));(rintro e w6 ⟨he,bs2,dk2,rfl⟩;rw [bang] at he;subst he;exact ⟨rfl,.inr ⟨HC.out,rfl⟩,(by repeat (first | exact Mor.refl _ | apply Mor.alloc | apply Mor.more | apply Mor.drewN | apply Mor.drew))⟩);go_simp))
    exact HN.out.elim
set_option maxHeartbeats 3200000 in
theorem rec_deal:RecOk 40 2:=by
  intro a l ha
  obtain ⟨x,y,rfl⟩:=len2 ha
  obtain ⟨o,c,hv,hc,hF⟩:=deal_v x y l
  refine ⟨(c,o),⟨hc,hv⟩,fun w g n cp B m k h hcp=>?_⟩
  have c0:=h.cell 0 (by simp)
  have c1:=h.cell 1 (by simp)
  simp at c0 c1
  have HKp:=Lib.hid (fun w' (hm:Mor w w')=>show w'.cell? ⟨g,0,none⟩=some (.int .i64 x)∧w'.cell? ⟨g,1,none⟩=some (.int .i64 y) from ⟨cell_morD hm c0,cell_morD hm c1⟩)
  have hn:n=2:=by rw [← h.len];rfl
  subst hn
  have HF:=Lib.hid (fun w' (hm:Mor w w')=>hF w' B m k (h.ri.mor hm) h.ll)
  have HO:=Lib.hid (fun A k w' (hk:o.length≤k) (hr:Ri w' A o) (hm:Mor w w')=>many_any A o.length k o c w' hr rfl hk hv (h.tb.mor hm))
  clear h hF hv
  by_cases hc0:c=0
  · have HOk:=Lib.hid (fun A k w' hk hr (hm:Mor w w')=>(HO.out A k w' hk hr hm).mono fun e w2 hh=>RecPost.ok hh hc0)
    have HC:=Lib.hid hc0
    clear hc0 HO hc
    go_enter Tryz.func40,Tryz.ntmps40
    go_wp2_with fail
    go_region_held3 (fun w'=>w'.cell? ⟨g,0,none⟩=some (.int .i64 x)∧w'.cell? ⟨g,1,none⟩=some (.int .i64 y)) (exact HKp.out _ (by repeat (first | exact Mor.refl _ | apply Mor.alloc | apply Mor.more | apply Mor.drewN | apply Mor.drew))) (first
      | (go_at_call 42;(with_reducible refine (HF.out _ (by repeat (first | exact Mor.refl _ | apply Mor.alloc | apply Mor.more | apply Mor.drewN | apply Mor.drew))).mono ?_);rintro e w5 ⟨A5,k5,rfl,hk5,hr5,bs,dk,rfl⟩;(try simp only [drew_more] at hr5))
      | (go_at_call 41;(with_reducible refine (HOk.out _ _ _ (by assumption) (by assumption) (by repeat (first | exact Mor.refl _ | apply Mor.alloc | apply Mor.more | apply Mor.drewN | apply Mor.drew))).mono ?_);rintro e w6 ⟨rfl,bs2,dk2,rfl⟩))
    all_goals go_wp2_with fail
    all_goals go_returns
    all_goals exact ⟨.inl ⟨HC.out,rfl⟩,(by repeat (first | exact Mor.refl _ | apply Mor.alloc | apply Mor.more | apply Mor.drewN | apply Mor.drew))⟩
  · have HOn:=Lib.hid (fun A k w' hk hr (hm:Mor w w')=>(HO.out A k w' hk hr hm).mono fun e w2 hh=>RecPost.no hh hc0)
    have HC:=Lib.hid hc0
    clear hc0 HO hc
    go_enter Tryz.func40,Tryz.ntmps40
    go_wp2_with fail
    go_region_held2 (fun w'=>w'.cell? ⟨g,0,none⟩=some (.int .i64 x)∧w'.cell? ⟨g,1,none⟩=some (.int .i64 y)) (exact HKp.out _ (by repeat (first | exact Mor.refl _ | apply Mor.alloc | apply Mor.more | apply Mor.drewN | apply Mor.drew))) (first
      | (go_at_call 42;(with_reducible refine (HF.out _ (by repeat (first | exact Mor.refl _ | apply Mor.alloc | apply Mor.more | apply Mor.drewN | apply Mor.drew))).mono ?_);rintro e w5 ⟨A5,k5,rfl,hk5,hr5,bs,dk,rfl⟩;(try simp only [drew_more] at hr5))
      | (go_at_call 41;(with_reducible refine borneC (HOn.out _ _ _ (by assumption) (by assumption) (by repeat (first | exact Mor.refl _ | apply Mor.alloc | apply Mor.more | apply Mor.drewN | apply Mor.drew))) (.returned (.string (tolB []))) ?_ (fun HN=>?_));(rintro e w6 ⟨he,bs2,dk2,rfl⟩;rw [bang] at he;subst he;exact ⟨rfl,.inr ⟨HC.out,rfl⟩,(by repeat (first | exact Mor.refl _ | apply Mor.alloc | apply Mor.more | apply Mor.drewN | apply Mor.drew))⟩);go_simp))
    exact HN.out.elim
set_option maxHeartbeats 3200000 in
theorem rec_split:RecOk 43 1:=by
  intro a l ha
  obtain ⟨x,rfl⟩:=len1 ha
  obtain ⟨o,c,hv,hc,hF⟩:=by_v x l
  refine ⟨(c,o),⟨hc,hv⟩,fun w g n cp B m k h hcp=>?_⟩
  have c0:=h.cell 0 (by simp)
  simp at c0
  have HKp:=Lib.hid (fun w' (hm:Mor w w')=>show w'.cell? ⟨g,0,none⟩=some (.int .i64 x) from cell_morD hm c0)
  have hn:n=1:=by rw [← h.len];rfl
  subst hn
  have HF:=Lib.hid (fun w' (hm:Mor w w')=>hF w' B m k (h.ri.mor hm) h.ll (by have:=h.lm;unfold maxLen;omega))
  have HO:=Lib.hid (fun A k w' (hk:o.length≤k) (hr:Ri w' A o) (hm:Mor w w')=>many_any A o.length k o c w' hr rfl hk hv (h.tb.mor hm))
  clear h hF hv
  by_cases hc0:c=0
  · have HOk:=Lib.hid (fun A k w' hk hr (hm:Mor w w')=>(HO.out A k w' hk hr hm).mono fun e w2 hh=>RecPost.ok hh hc0)
    have HC:=Lib.hid hc0
    clear hc0 HO hc
    go_enter Tryz.func43,Tryz.ntmps43
    go_wp2_with fail
    refine (HF.out _ (Mor.refl _)).mono ?_
    rintro e w5 ⟨A5,k5,rfl,hk5,hr5,hm5⟩
    have HM5:=Lib.hid hm5
    clear hm5
    go_wp2_with fail
    refine (HOk.out _ _ _ hk5 hr5 HM5.out).mono ?_
    rintro e w6 ⟨he,hm6⟩
    subst he
    have HM6:=Lib.hid hm6
    clear hm6
    go_wp2_with fail
    go_returns
    exact ⟨.inl ⟨HC.out,rfl⟩,HM5.out.trans' HM6.out⟩
  · have HOn:=Lib.hid (fun A k w' hk hr (hm:Mor w w')=>(HO.out A k w' hk hr hm).mono fun e w2 hh=>RecPost.no hh hc0)
    have HC:=Lib.hid hc0
    clear hc0 HO hc
    go_enter Tryz.func43,Tryz.ntmps43
    go_wp2_with fail
    refine (HF.out _ (Mor.refl _)).mono ?_
    rintro e w5 ⟨A5,k5,rfl,hk5,hr5,hm5⟩
    have HM5:=Lib.hid hm5
    clear hm5
    go_wp2_with fail
    refine (HOn.out _ _ _ hk5 hr5 HM5.out).mono ?_
    rintro e w6 ⟨he,hm6⟩
    rw [bang] at he
    subst he
    have HM6:=Lib.hid hm6
    clear hm6
    go_wp2_with fail
    exact ⟨rfl,.inr ⟨HC.out,rfl⟩,HM5.out.trans' HM6.out⟩
set_option maxHeartbeats 3200000 in
theorem rec_straight:RecOk 47 3:=by
  intro a l ha
  obtain ⟨x,y,z,rfl⟩:=len3 ha
  obtain ⟨o,c,hv,hc,hF⟩:=straight_v x y z
  refine ⟨(c,o),⟨hc,hv⟩,fun w g n cp B m k h hcp=>?_⟩
  have c0:=h.cell 0 (by simp)
  have c1:=h.cell 1 (by simp)
  have c2:=h.cell 2 (by simp)
  simp at c0 c1 c2
  have HKp:=Lib.hid (fun w' (hm:Mor w w')=>show w'.cell? ⟨g,0,none⟩=some (.int .i64 x)∧w'.cell? ⟨g,1,none⟩=some (.int .i64 y)∧w'.cell? ⟨g,2,none⟩=some (.int .i64 z) from ⟨cell_morD hm c0,cell_morD hm c1,cell_morD hm c2⟩)
  have hn:n=3:=by rw [← h.len];rfl
  subst hn
  have HF:=Lib.hid (fun w' (hm:Mor w w')=>hF w')
  have HO:=Lib.hid (fun A k w' (hk:o.length≤k) (hr:Ri w' A o) (hm:Mor w w')=>many_any A o.length k o c w' hr rfl hk hv (h.tb.mor hm))
  clear h hF hv
  by_cases hc0:c=0
  · have HOk:=Lib.hid (fun A k w' hk hr (hm:Mor w w')=>(HO.out A k w' hk hr hm).mono fun e w2 hh=>RecPost.ok hh hc0)
    have HC:=Lib.hid hc0
    clear hc0 HO hc
    go_enter Tryz.func47,Tryz.ntmps47
    go_wp2_with fail
    go_region_held3 (fun w'=>w'.cell? ⟨g,0,none⟩=some (.int .i64 x)∧w'.cell? ⟨g,1,none⟩=some (.int .i64 y)∧w'.cell? ⟨g,2,none⟩=some (.int .i64 z)) (exact HKp.out _ (by repeat (first | exact Mor.refl _ | apply Mor.alloc | apply Mor.more | apply Mor.drewN | apply Mor.drew))) (first
      | (go_at_call 48;(with_reducible refine (HF.out _ (by repeat (first | exact Mor.refl _ | apply Mor.alloc | apply Mor.more | apply Mor.drewN | apply Mor.drew))).mono ?_);rintro e w5 ⟨A5,k5,rfl,hk5,hr5,bs,dk,rfl⟩;(try simp only [drew_more] at hr5))
      | (go_at_call 41;(with_reducible refine (HOk.out _ _ _ (by assumption) (by assumption) (by repeat (first | exact Mor.refl _ | apply Mor.alloc | apply Mor.more | apply Mor.drewN | apply Mor.drew))).mono ?_);rintro e w6 ⟨rfl,bs2,dk2,rfl⟩))
    all_goals go_wp2_with fail
    all_goals go_returns
    all_goals exact ⟨.inl ⟨HC.out,rfl⟩,(by repeat (first | exact Mor.refl _ | apply Mor.alloc | apply Mor.more | apply Mor.drewN | apply Mor.drew))⟩
  · have HOn:=Lib.hid (fun A k w' hk hr (hm:Mor w w')=>(HO.out A k w' hk hr hm).mono fun e w2 hh=>RecPost.no hh hc0)
    have HC:=Lib.hid hc0
    clear hc0 HO hc
    go_enter Tryz.func47,Tryz.ntmps47
    go_wp2_with fail
    go_region_held2 (fun w'=>w'.cell? ⟨g,0,none⟩=some (.int .i64 x)∧w'.cell? ⟨g,1,none⟩=some (.int .i64 y)∧w'.cell? ⟨g,2,none⟩=some (.int .i64 z)) (exact HKp.out _ (by repeat (first | exact Mor.refl _ | apply Mor.alloc | apply Mor.more | apply Mor.drewN | apply Mor.drew))) (first
      | (go_at_call 48;(with_reducible refine (HF.out _ (by repeat (first | exact Mor.refl _ | apply Mor.alloc | apply Mor.more | apply Mor.drewN | apply Mor.drew))).mono ?_);rintro e w5 ⟨A5,k5,rfl,hk5,hr5,bs,dk,rfl⟩;(try simp only [drew_more] at hr5))
      | (go_at_call 41;(with_reducible refine borneC (HOn.out _ _ _ (by assumption) (by assumption) (by repeat (first | exact Mor.refl _ | apply Mor.alloc | apply Mor.more | apply Mor.drewN | apply Mor.drew))) (.returned (.string (tolB []))) ?_ (fun HN=>?_));(rintro e w6 ⟨he,bs2,dk2,rfl⟩;rw [bang] at he;subst he;exact ⟨rfl,.inr ⟨HC.out,rfl⟩,(by repeat (first | exact Mor.refl _ | apply Mor.alloc | apply Mor.more | apply Mor.drewN | apply Mor.drew))⟩);go_simp))
    exact HN.out.elim
set_option maxHeartbeats 3200000 in
theorem rec_digits:RecOk 49 3:=by
  intro a l ha
  obtain ⟨x,y,z,rfl⟩:=len3 ha
  obtain ⟨o,c,hv,hc,hF⟩:=digits_v x y z
  refine ⟨(c,o),⟨hc,hv⟩,fun w g n cp B m k h hcp=>?_⟩
  have c0:=h.cell 0 (by simp)
  have c1:=h.cell 1 (by simp)
  have c2:=h.cell 2 (by simp)
  simp at c0 c1 c2
  have HKp:=Lib.hid (fun w' (hm:Mor w w')=>show w'.cell? ⟨g,0,none⟩=some (.int .i64 x)∧w'.cell? ⟨g,1,none⟩=some (.int .i64 y)∧w'.cell? ⟨g,2,none⟩=some (.int .i64 z) from ⟨cell_morD hm c0,cell_morD hm c1,cell_morD hm c2⟩)
  have hn:n=3:=by rw [← h.len];rfl
  subst hn
  have HF:=Lib.hid (fun w' (hm:Mor w w')=>hF w')
  have HO:=Lib.hid (fun A k w' (hk:o.length≤k) (hr:Ri w' A o) (hm:Mor w w')=>many_any A o.length k o c w' hr rfl hk hv (h.tb.mor hm))
  clear h hF hv
  by_cases hc0:c=0
  · have HOk:=Lib.hid (fun A k w' hk hr (hm:Mor w w')=>(HO.out A k w' hk hr hm).mono fun e w2 hh=>RecPost.ok hh hc0)
    have HC:=Lib.hid hc0
    clear hc0 HO hc
    go_enter Tryz.func49,Tryz.ntmps49
    go_wp2_with fail
    go_region_held3 (fun w'=>w'.cell? ⟨g,0,none⟩=some (.int .i64 x)∧w'.cell? ⟨g,1,none⟩=some (.int .i64 y)∧w'.cell? ⟨g,2,none⟩=some (.int .i64 z)) (exact HKp.out _ (by repeat (first | exact Mor.refl _ | apply Mor.alloc | apply Mor.more | apply Mor.drewN | apply Mor.drew))) (first
      | (go_at_call 50;(with_reducible refine (HF.out _ (by repeat (first | exact Mor.refl _ | apply Mor.alloc | apply Mor.more | apply Mor.drewN | apply Mor.drew))).mono ?_);rintro e w5 ⟨A5,k5,rfl,hk5,hr5,bs,dk,rfl⟩;(try simp only [drew_more] at hr5))
      | (go_at_call 41;(with_reducible refine (HOk.out _ _ _ (by assumption) (by assumption) (by repeat (first | exact Mor.refl _ | apply Mor.alloc | apply Mor.more | apply Mor.drewN | apply Mor.drew))).mono ?_);rintro e w6 ⟨rfl,bs2,dk2,rfl⟩))
    all_goals go_wp2_with fail
    all_goals go_returns
    all_goals exact ⟨.inl ⟨HC.out,rfl⟩,(by repeat (first | exact Mor.refl _ | apply Mor.alloc | apply Mor.more | apply Mor.drewN | apply Mor.drew))⟩
  · have HOn:=Lib.hid (fun A k w' hk hr (hm:Mor w w')=>(HO.out A k w' hk hr hm).mono fun e w2 hh=>RecPost.no hh hc0)
    have HC:=Lib.hid hc0
    clear hc0 HO hc
    go_enter Tryz.func49,Tryz.ntmps49
    go_wp2_with fail
    go_region_held2 (fun w'=>w'.cell? ⟨g,0,none⟩=some (.int .i64 x)∧w'.cell? ⟨g,1,none⟩=some (.int .i64 y)∧w'.cell? ⟨g,2,none⟩=some (.int .i64 z)) (exact HKp.out _ (by repeat (first | exact Mor.refl _ | apply Mor.alloc | apply Mor.more | apply Mor.drewN | apply Mor.drew))) (first
      | (go_at_call 50;(with_reducible refine (HF.out _ (by repeat (first | exact Mor.refl _ | apply Mor.alloc | apply Mor.more | apply Mor.drewN | apply Mor.drew))).mono ?_);rintro e w5 ⟨A5,k5,rfl,hk5,hr5,bs,dk,rfl⟩;(try simp only [drew_more] at hr5))
      | (go_at_call 41;(with_reducible refine borneC (HOn.out _ _ _ (by assumption) (by assumption) (by repeat (first | exact Mor.refl _ | apply Mor.alloc | apply Mor.more | apply Mor.drewN | apply Mor.drew))) (.returned (.string (tolB []))) ?_ (fun HN=>?_));(rintro e w6 ⟨he,bs2,dk2,rfl⟩;rw [bang] at he;subst he;exact ⟨rfl,.inr ⟨HC.out,rfl⟩,(by repeat (first | exact Mor.refl _ | apply Mor.alloc | apply Mor.more | apply Mor.drewN | apply Mor.drew))⟩);go_simp))
    exact HN.out.elim
set_option maxHeartbeats 3200000 in
theorem rec_falling:RecOk 51 4:=by
  intro a l ha
  obtain ⟨x,y,z,u,rfl⟩:=len4 ha
  obtain ⟨o,c,hv,hc,hF⟩:=falling_v x y z u
  refine ⟨(c,o),⟨hc,hv⟩,fun w g n cp B m k h hcp=>?_⟩
  have c0:=h.cell 0 (by simp)
  have c1:=h.cell 1 (by simp)
  have c2:=h.cell 2 (by simp)
  have c3:=h.cell 3 (by simp)
  simp at c0 c1 c2 c3
  have HKp:=Lib.hid (fun w' (hm:Mor w w')=>show w'.cell? ⟨g,0,none⟩=some (.int .i64 x)∧w'.cell? ⟨g,1,none⟩=some (.int .i64 y)∧w'.cell? ⟨g,2,none⟩=some (.int .i64 z)∧w'.cell? ⟨g,3,none⟩=some (.int .i64 u) from ⟨cell_morD hm c0,cell_morD hm c1,cell_morD hm c2,cell_morD hm c3⟩)
  have hn:n=4:=by rw [← h.len];rfl
  subst hn
  have HF:=Lib.hid (fun w' (hm:Mor w w')=>hF w')
  have HO:=Lib.hid (fun A k w' (hk:o.length≤k) (hr:Ri w' A o) (hm:Mor w w')=>many_any A o.length k o c w' hr rfl hk hv (h.tb.mor hm))
  clear h hF hv
  by_cases hc0:c=0
  · have HOk:=Lib.hid (fun A k w' hk hr (hm:Mor w w')=>(HO.out A k w' hk hr hm).mono fun e w2 hh=>RecPost.ok hh hc0)
    have HC:=Lib.hid hc0
    clear hc0 HO hc
    go_enter Tryz.func51,Tryz.ntmps51
    go_wp2_with fail
    go_region_held3 (fun w'=>w'.cell? ⟨g,0,none⟩=some (.int .i64 x)∧w'.cell? ⟨g,1,none⟩=some (.int .i64 y)∧w'.cell? ⟨g,2,none⟩=some (.int .i64 z)∧w'.cell? ⟨g,3,none⟩=some (.int .i64 u)) (exact HKp.out _ (by repeat (first | exact Mor.refl _ | apply Mor.alloc | apply Mor.more | apply Mor.drewN | apply Mor.drew))) (first
      | (go_at_call 52;(with_reducible refine (HF.out _ (by repeat (first | exact Mor.refl _ | apply Mor.alloc | apply Mor.more | apply Mor.drewN | apply Mor.drew))).mono ?_);rintro e w5 ⟨A5,k5,rfl,hk5,hr5,bs,dk,rfl⟩;(try simp only [drew_more] at hr5))
      | (go_at_call 41;(with_reducible refine (HOk.out _ _ _ (by assumption) (by assumption) (by repeat (first | exact Mor.refl _ | apply Mor.alloc | apply Mor.more | apply Mor.drewN | apply Mor.drew))).mono ?_);rintro e w6 ⟨rfl,bs2,dk2,rfl⟩))
    all_goals go_wp2_with fail
    all_goals go_returns
    all_goals exact ⟨.inl ⟨HC.out,rfl⟩,(by repeat (first | exact Mor.refl _ | apply Mor.alloc | apply Mor.more | apply Mor.drewN | apply Mor.drew))⟩
  · have HOn:=Lib.hid (fun A k w' hk hr (hm:Mor w w')=>(HO.out A k w' hk hr hm).mono fun e w2 hh=>RecPost.no hh hc0)
    have HC:=Lib.hid hc0
    clear hc0 HO hc
    go_enter Tryz.func51,Tryz.ntmps51
    go_wp2_with fail
    go_region_held2 (fun w'=>w'.cell? ⟨g,0,none⟩=some (.int .i64 x)∧w'.cell? ⟨g,1,none⟩=some (.int .i64 y)∧w'.cell? ⟨g,2,none⟩=some (.int .i64 z)∧w'.cell? ⟨g,3,none⟩=some (.int .i64 u)) (exact HKp.out _ (by repeat (first | exact Mor.refl _ | apply Mor.alloc | apply Mor.more | apply Mor.drewN | apply Mor.drew))) (first
      | (go_at_call 52;(with_reducible refine (HF.out _ (by repeat (first | exact Mor.refl _ | apply Mor.alloc | apply Mor.more | apply Mor.drewN | apply Mor.drew))).mono ?_);rintro e w5 ⟨A5,k5,rfl,hk5,hr5,bs,dk,rfl⟩;(try simp only [drew_more] at hr5))
      | (go_at_call 41;(with_reducible refine borneC (HOn.out _ _ _ (by assumption) (by assumption) (by repeat (first | exact Mor.refl _ | apply Mor.alloc | apply Mor.more | apply Mor.drewN | apply Mor.drew))) (.returned (.string (tolB []))) ?_ (fun HN=>?_));(rintro e w6 ⟨he,bs2,dk2,rfl⟩;rw [bang] at he;subst he;exact ⟨rfl,.inr ⟨HC.out,rfl⟩,(by repeat (first | exact Mor.refl _ | apply Mor.alloc | apply Mor.more | apply Mor.drewN | apply Mor.drew))⟩);go_simp))
    exact HN.out.elim
set_option maxHeartbeats 3200000 in
theorem rec_between:RecOk 55 3:=by
  intro a l ha
  obtain ⟨x,y,z,rfl⟩:=len3 ha
  obtain ⟨v,d,c,hv,hd,hc,hF⟩:=between_v x y z
  refine ⟨(c,[v,d]),⟨hc,by simp,by intro q hq;simp at hq;rcases hq with rfl | rfl <;> assumption⟩,fun w g n cp B m k h hcp=>?_⟩
  have c0:=h.cell 0 (by simp)
  have c1:=h.cell 1 (by simp)
  have c2:=h.cell 2 (by simp)
  simp at c0 c1 c2
  have HKp:=Lib.hid (fun w' (hm:Mor w w')=>show w'.cell? ⟨g,0,none⟩=some (.int .i64 x)∧w'.cell? ⟨g,1,none⟩=some (.int .i64 y)∧w'.cell? ⟨g,2,none⟩=some (.int .i64 z) from ⟨cell_morD hm c0,cell_morD hm c1,cell_morD hm c2⟩)
  have hn:n=3:=by rw [← h.len];rfl
  subst hn
  have HF:=Lib.hid (fun w' (hm:Mor w w')=>hF w' (h.tab.mor hm))
  have HT:=Lib.hid (fun w' b (hb:w'.heap.size=b) (hm:Mor w w')=>show Calls Tryz.prog 58 #[.slice (some ⟨b,0,none⟩) 2 2] (w'.alloc (.cells #[.int .i64 v,.int .i64 d] 3)) _ from told_any (some ⟨b,0,none⟩) 2 2 [v,d] (w'.alloc (.cells #[.int .i64 v,.int .i64 d] 3)) (by subst hb;exact Ri.of_row ((Blk.new w' 3 (ic [v,d])).row)) rfl (by omega) (by omega) (by intro q hq;simp at hq;rcases hq with rfl | rfl <;> assumption) (h.tb.mor (hm.trans' (mor_new _ _))))
  have HMo:=Lib.hid (fun w=>must_ok w)
  have HMn:=Lib.hid (fun w (hc0:c≠0)=>must_no c w hc0)
  clear h hF hc hv hd
  by_cases hc0:c=0
  · subst hc0
    clear HMn
    go_enter Tryz.func55,Tryz.ntmps55
    go_wp2_with fail
    go_region_held3 (fun w'=>w'.cell? ⟨g,0,none⟩=some (.int .i64 x)∧w'.cell? ⟨g,1,none⟩=some (.int .i64 y)∧w'.cell? ⟨g,2,none⟩=some (.int .i64 z)) (exact HKp.out _ (by repeat (first | exact Mor.refl _ | apply Mor.alloc | apply Mor.more | apply Mor.drewN | apply Mor.drew))) (first
      | (go_at_call 56;(with_reducible refine (HF.out _ (by repeat (first | exact Mor.refl _ | apply Mor.alloc | apply Mor.more | apply Mor.drewN | apply Mor.drew))).mono ?_);rintro e w5 ⟨rfl,bs,dk,rfl⟩))
    all_goals go_wp2_with (first | (go_at_call 57;(with_reducible refine (HMo.out _).mono ?_);rintro e w1 ⟨rfl,rfl⟩))
    all_goals refine (HT.out _ _ (by simp) (by repeat (first | exact Mor.refl _ | apply Mor.alloc | apply Mor.more | apply Mor.drewN | apply Mor.drew))).mono ?_
    all_goals rintro e w2 ⟨rfl,bs2,dk2,rfl⟩
    all_goals go_wp2_with fail
    all_goals go_returns
    all_goals exact ⟨.inl ⟨rfl,rfl⟩,(by repeat (first | exact Mor.refl _ | apply Mor.alloc | apply Mor.more | apply Mor.drewN | apply Mor.drew))⟩
  · have HC:=Lib.hid hc0
    have HMn':=Lib.hid (fun w=>HMn.out w hc0)
    clear hc0 HMn HMo
    go_enter Tryz.func55,Tryz.ntmps55
    go_wp2_with fail
    go_region_held3 (fun w'=>w'.cell? ⟨g,0,none⟩=some (.int .i64 x)∧w'.cell? ⟨g,1,none⟩=some (.int .i64 y)∧w'.cell? ⟨g,2,none⟩=some (.int .i64 z)) (exact HKp.out _ (by repeat (first | exact Mor.refl _ | apply Mor.alloc | apply Mor.more | apply Mor.drewN | apply Mor.drew))) (first
      | (go_at_call 56;(with_reducible refine (HF.out _ (by repeat (first | exact Mor.refl _ | apply Mor.alloc | apply Mor.more | apply Mor.drewN | apply Mor.drew))).mono ?_);rintro e w5 ⟨rfl,bs,dk,rfl⟩))
    all_goals go_wp2_with (first | (go_at_call 57;(with_reducible refine (HMn'.out _).mono ?_);rintro e w1 ⟨he,rfl⟩;rw [bang] at he;subst he))
    all_goals exact ⟨rfl,.inr ⟨HC.out,rfl⟩,(by repeat (first | exact Mor.refl _ | apply Mor.alloc | apply Mor.more | apply Mor.drewN | apply Mor.drew))⟩
set_option maxHeartbeats 3200000 in
theorem rec_date_of (x p q1 r c:Int) (l:List Int) (hp:I64 p) (hq1:I64 q1) (hr:I64 r) (hc:CB c) (hF:∀ w,Tab w→Calls Tryz.prog 60 #[.int .i64 x] w fun e w'=>e=.returned (.tuple #[.agg #[.int .i64 p,.int .i64 q1,.int .i64 r],.int .i64 c])∧Mor w w') (w:World) (g n cp:Nat) (B:Option Addr) (m k:Nat) (h:Arg w g n B m k [x] l) (hcp:n≤cp) :
    Calls Tryz.prog 59 #[.slice (some ⟨g,0,none⟩) n cp,.slice B m k] w (RecPost w (c,[p,q1,r])):=by
  have c0:=h.cell 0 (by simp)
  simp at c0
  have HKp:=Lib.hid (fun w' (hm:Mor w w')=>show w'.cell? ⟨g,0,none⟩=some (.int .i64 x) from cell_morD hm c0)
  have hn:n=1:=by rw [← h.len];rfl
  subst hn
  have HF:=Lib.hid (fun w' (hm:Mor w w')=>hF w' (h.tab.mor hm))
  have HT:=Lib.hid (fun w' b (hb:w'.heap.size=b) (hm:Mor w w')=>show Calls Tryz.prog 58 #[.slice (some ⟨b,0,none⟩) 3 3] (w'.alloc (.cells #[.int .i64 p,.int .i64 q1,.int .i64 r] 3)) _ from told_any (some ⟨b,0,none⟩) 3 3 [p,q1,r] (w'.alloc (.cells #[.int .i64 p,.int .i64 q1,.int .i64 r] 3)) (by subst hb;exact Ri.of_row ((Blk.new w' 3 (ic [p,q1,r])).row)) rfl (by omega) (by omega) (by intro q hq;simp at hq;rcases hq with rfl | rfl | rfl <;> assumption) (h.tb.mor (hm.trans' (mor_new _ _))))
  have HMo:=Lib.hid (fun w=>must_ok w)
  have HMn:=Lib.hid (fun w (hc0:c≠0)=>must_no c w hc0)
  clear h hF hc hp hq1 hr
  by_cases hc0:c=0
  · subst hc0
    clear HMn
    go_enter Tryz.func59,Tryz.ntmps59
    go_wp2_with fail
    refine (HF.out _ (by repeat (first | exact Mor.refl _ | apply Mor.alloc | apply Mor.more | apply Mor.drewN | apply Mor.drew))).mono ?_
    rintro e w5 ⟨rfl,bs,dk,rfl⟩
    all_goals go_wp2_with (first | (go_at_call 57;(with_reducible refine (HMo.out _).mono ?_);rintro e w1 ⟨rfl,rfl⟩))
    all_goals refine (HT.out _ _ (by simp) (by repeat (first | exact Mor.refl _ | apply Mor.alloc | apply Mor.more | apply Mor.drewN | apply Mor.drew))).mono ?_
    all_goals rintro e w2 ⟨rfl,bs2,dk2,rfl⟩
    all_goals go_wp2_with fail
    all_goals go_returns
    all_goals exact ⟨.inl ⟨rfl,rfl⟩,(by repeat (first | exact Mor.refl _ | apply Mor.alloc | apply Mor.more | apply Mor.drewN | apply Mor.drew))⟩
  · have HC:=Lib.hid hc0
    have HMn':=Lib.hid (fun w=>HMn.out w hc0)
    clear hc0 HMn HMo
    go_enter Tryz.func59,Tryz.ntmps59
    go_wp2_with fail
    refine (HF.out _ (by repeat (first | exact Mor.refl _ | apply Mor.alloc | apply Mor.more | apply Mor.drewN | apply Mor.drew))).mono ?_
    rintro e w5 ⟨rfl,bs,dk,rfl⟩
    all_goals go_wp2_with (first | (go_at_call 57;(with_reducible refine (HMn'.out _).mono ?_);rintro e w1 ⟨he,rfl⟩;rw [bang] at he;subst he))
    all_goals exact ⟨rfl,.inr ⟨HC.out,rfl⟩,(by repeat (first | exact Mor.refl _ | apply Mor.alloc | apply Mor.more | apply Mor.drewN | apply Mor.drew))⟩
theorem rec_date:RecOk 59 1:=by
  intro a l ha
  obtain ⟨x,rfl⟩:=len1 ha
  obtain ⟨p,q1,r,c,hp,hq1,hr,hc,hF⟩:=date_v x
  exact ⟨(c,[p,q1,r]),⟨hc,by simp,by intro q hq;simp at hq;rcases hq with rfl | rfl | rfl <;> assumption⟩,rec_date_of x p q1 r c l hp hq1 hr hc hF⟩
theorem own_one (w:World) (v:Int) (B:Nat) (hB:B≤w.heap.size):(w.alloc (.cells #[.int .i64 v] 3)).ownsRow B 3 1 (.slice (some ⟨w.heap.size,0,none⟩) 1 1) 1 [.int .i64 v] :=
  ⟨by simp,.inr ⟨w.heap.size,1,#[.int .i64 v],rfl,hB,heap_alloc_new w _,Nat.le_refl _,by unfold maxLen;omega,rfl,rfl⟩⟩
set_option maxHeartbeats 3200000 in
theorem rec_loan:RecOk 61 3:=by
  intro a l ha
  obtain ⟨x,y,z,rfl⟩:=len3 ha
  obtain ⟨T,c,hT,hc,hB,hF⟩:=rows_v x y z
  obtain ⟨i0,hi0,hz0,hz1,hz2⟩:=info_parts info_int'
  by_cases hc0:c=0
  · subst hc0
    by_cases hT0:T=0
    · subst hT0
      refine ⟨(0,[0]),⟨hc,by simp,by intro q hq;simp at hq;subst hq;unfold I64;omega⟩,fun w g n cp B m k h hcp=>?_⟩
      have c0:=h.cell 0 (by simp)
      have c1:=h.cell 1 (by simp)
      have c2:=h.cell 2 (by simp)
      simp at c0 c1 c2
      have HKp:=Lib.hid (fun w' (hm:Mor w w')=>show w'.cell? ⟨g,0,none⟩=some (.int .i64 x)∧w'.cell? ⟨g,1,none⟩=some (.int .i64 y)∧w'.cell? ⟨g,2,none⟩=some (.int .i64 z) from ⟨cell_morD hm c0,cell_morD hm c1,cell_morD hm c2⟩)
      have hn:n=3:=by rw [← h.len];rfl
      subst hn
      have HF:=Lib.hid (fun w'=>hF w')
      have HT:=Lib.hid (fun w' b (hb:w'.heap.size=b) (hm:Mor w w')=>show Calls Tryz.prog 58 #[.slice (some ⟨b,0,none⟩) 1 1] (w'.alloc (.cells #[.int .i64 0] 3)) _ from told_any (some ⟨b,0,none⟩) 1 1 [0] (w'.alloc (.cells #[.int .i64 0] 3)) (by subst hb;exact Ri.of_row ((Blk.new w' 3 (ic [0])).row)) rfl (by omega) (by omega) (by intro q hq;simp at hq;subst hq;unfold I64;omega) (h.tb.mor (hm.trans' (mor_new _ _))))
      have HMo:=Lib.hid (fun w=>must_ok w)
      clear h hF hc hB
      go_enter Tryz.func61,Tryz.ntmps61
      go_wp2_with fail
      go_region_held3 (fun w'=>w'.cell? ⟨g,0,none⟩=some (.int .i64 x)∧w'.cell? ⟨g,1,none⟩=some (.int .i64 y)∧w'.cell? ⟨g,2,none⟩=some (.int .i64 z)) (exact HKp.out _ (by repeat (first | exact Mor.refl _ | apply Mor.alloc | apply Mor.more | apply Mor.drewN | apply Mor.drew))) (first
        | (go_at_call 62;(with_reducible refine (HF.out _).mono ?_);rintro e w5 ⟨v,rfl,ho,bs,dk,rfl⟩;obtain ⟨A5,k5,rfl,hk5,-,-⟩:=own_shape ho;clear ho))
      all_goals go_wp2_with (first | (go_at_call 57;(with_reducible refine (HMo.out _).mono ?_);rintro e w1 ⟨rfl,rfl⟩))
      all_goals refine (HT.out _ _ (by simp) (by repeat (first | exact Mor.refl _ | apply Mor.alloc | apply Mor.more | apply Mor.drewN | apply Mor.drew))).mono ?_
      all_goals rintro e w2 ⟨rfl,bs2,dk2,rfl⟩
      all_goals go_wp2_with fail
      all_goals go_returns
      all_goals exact ⟨.inl ⟨rfl,rfl⟩,(by repeat (first | exact Mor.refl _ | apply Mor.alloc | apply Mor.more | apply Mor.drewN | apply Mor.drew))⟩
    · obtain ⟨q,rfl⟩:∃ q,T=q+1:=⟨T - 1,by omega⟩
      obtain ⟨hi1,hi2⟩:=hB q (by omega)
      refine ⟨(0,[((q+1:Nat):Int),nint (nl x y z q) y,noff (nl x y z q) y z]),⟨hc,by simp,by intro u hu;simp at hu;rcases hu with rfl | rfl | rfl;(unfold I64;omega);exact hi1;exact hi2⟩,fun w g n cp B m k h hcp=>?_⟩
      have c0:=h.cell 0 (by simp)
      have c1:=h.cell 1 (by simp)
      have c2:=h.cell 2 (by simp)
      simp at c0 c1 c2
      have HKp:=Lib.hid (fun w' (hm:Mor w w')=>show w'.cell? ⟨g,0,none⟩=some (.int .i64 x)∧w'.cell? ⟨g,1,none⟩=some (.int .i64 y)∧w'.cell? ⟨g,2,none⟩=some (.int .i64 z) from ⟨cell_morD hm c0,cell_morD hm c1,cell_morD hm c2⟩)
      have hn:n=3:=by rw [← h.len];rfl
      subst hn
      have HF:=Lib.hid (fun w'=>hF w')
      have HFd:=Lib.hid (fun (w':World) (A:Option Addr) (c B:Nat) (ho:w'.ownsRow B 105 3 (.slice A (q+1) c) (q+1) (nrows x y z (q+1)))=>show ∃ b,A=some ⟨b,0,none⟩∧b < w'.heap.size∧w'.cell? ⟨b,q*3,none⟩=some (.int .i64 (nint (nl x y z q) y))∧w'.cell? ⟨b,q*3+1,none⟩=some (.int .i64 (noff (nl x y z q) y z)) from by
        obtain ⟨A',c',e1,_,hrd,hex⟩:=own_shape ho
        obtain ⟨b,rfl,_⟩:=hex (by omega)
        injection e1 with e1 _ _
        obtain ⟨b',o',e2,hb,hcl⟩:=Rd.field 3 (nrow_len x y z) hrd q (by simp) (by omega)
        injection e2 with e2
        injection e2 with e2 e3
        subst e2 e3 e1
        have d0:=hcl 0 (by omega)
        have d1:=hcl 1 (by omega)
        simp [nrow] at d0 d1
        exact ⟨b,rfl,hb,d0,d1⟩)
      have HT:=Lib.hid (fun A c w' (hr:Ri w' A [((q+1:Nat):Int),nint (nl x y z q) y,noff (nl x y z q) y z]) (hcc:3≤c) (hm:Mor w w')=>told_any A 3 c _ w' hr rfl (by omega) hcc (by intro u hu;simp at hu;rcases hu with rfl | rfl | rfl;(unfold I64;omega);exact hi1;exact hi2) (h.tb.mor hm))
      have HMo:=Lib.hid (fun w=>must_ok w)
      clear h hF hc hB hi1 hi2
      generalize nint (nl x y z q) y=I at *
      generalize noff (nl x y z q) y z=O at *
      have hq1:((q+1:Nat):Int)=(q:Int)+1:=by omega
      have wq:IntKind.i64.wrap (q:Int)=(q:Int):=IntWalk.i64_in _ (by omega)
      have q0:(0:Int)≤(q:Int):=by omega
      have q1:(q:Int) < (q:Int)+1:=by omega
      go_enter Tryz.func61,Tryz.ntmps61
      go_wp2_with fail
      go_region_held3 (fun w'=>w'.cell? ⟨g,0,none⟩=some (.int .i64 x)∧w'.cell? ⟨g,1,none⟩=some (.int .i64 y)∧w'.cell? ⟨g,2,none⟩=some (.int .i64 z)) (exact HKp.out _ (by repeat (first | exact Mor.refl _ | apply Mor.alloc | apply Mor.more | apply Mor.drewN | apply Mor.drew))) (first
        | (go_at_call 62;(with_reducible refine (HF.out _).mono ?_);rintro e w5 ⟨v,rfl,ho,bs,dk,rfl⟩;obtain ⟨A5,k5,rfl,hk5,-,-⟩:=own_shape ho;have HO5:=Lib.hid ho;clear ho))
      all_goals (try simp only [drew_more] at HO5)
      all_goals obtain ⟨b5,rfl,b5l,d0,d1⟩:=HFd.out _ _ _ _ HO5.out
      all_goals have HM5:Hid (Mor w (more w bs dk)):=Lib.hid (Mor.refl w).more
      all_goals obtain ⟨w5,hw5⟩:∃ w5,w5=more w bs dk:=⟨_,rfl⟩
      all_goals rw [← hw5] at b5l d0 d1 HM5 ⊢
      all_goals clear HO5 hw5
      all_goals go_wp2_with (first | (go_at_call 57;(with_reducible refine (HMo.out _).mono ?_);rintro e w1 ⟨rfl,rfl⟩))
      all_goals have hO6:(w5.alloc (.cells #[.int .i64 ((q:Int)+1)] 3)).ownsRow w5.heap.size 3 1 (.slice (some ⟨w5.heap.size,0,none⟩) 1 1) 1 [.int .i64 ((q:Int)+1)]:=own_one w5 _ _ (Nat.le_refl _)
      all_goals have hM6:Mor w (w5.alloc (.cells #[.int .i64 ((q:Int)+1)] 3)):=HM5.out.alloc
      all_goals have hb6:w5.heap.size≤(w5.alloc (.cells #[.int .i64 ((q:Int)+1)] 3)).heap.size:=by simp
      all_goals have hw56:w.heap.size≤w5.heap.size:=HM5.out.below.size
      all_goals have d0':=cell_morD ((Mor.refl w5).alloc (o:=.cells #[.int .i64 ((q:Int)+1)] 3)) d0
      all_goals have d1':=cell_morD ((Mor.refl w5).alloc (o:=.cells #[.int .i64 ((q:Int)+1)] 3)) d1
      all_goals clear d0 d1
      all_goals obtain ⟨b6,hb6e⟩:∃ b,b=w5.heap.size:=⟨_,rfl⟩
      all_goals rw [← hb6e] at hO6 hb6 hw56 ⊢
      all_goals generalize (w5.alloc (.cells #[.int .i64 ((q:Int)+1)] 3))=w6 at *
      all_goals have HO6:=Lib.hid hO6
      all_goals have HM6:=Lib.hid hM6
      all_goals clear hO6 hM6 hb6e
      all_goals go_region_law (first
        | (refine step_append_own rfl (.tmp 31) (.tmp 44) 71 rfl b6 3 i0 (.int .i64 0) 1 8 Tryz.underlying71 hi0 hz0 hz1 hz2 rfl (by decide) _ 1 [.int .i64 ((q:Int)+1)] (by simp [Act.eval]) (own_mor (HO6.out) (by repeat (first | exact Mor.refl _ | apply Mor.alloc | apply Mor.drew))) ⟨w6.heap.size,0,none⟩ 2 2 [.int .i64 I,.int .i64 O] (by simp [Act.eval]) rfl (lit_at _ _ _ rfl (by simp [go_sem])) (by intro u hu;simp at hu;rcases hu with rfl | rfl <;> rfl) (by unfold maxLen;omega) (by omega) (by simp [go_sem];omega) ?_;intro u7 w7 hown7 hgrow7;obtain ⟨A7,c7,rfl,hc7,_,_⟩:=own_shape hown7;have hX7:=And.intro hown7 (own_step (own_base (own_mor (HO6.out) (by repeat (first | exact Mor.refl _ | apply Mor.alloc | apply Mor.drew))) hw56) (Mor.trans' (HM6.out) (by repeat (first | exact Mor.refl _ | apply Mor.alloc | apply Mor.drew))) hgrow7);have HX7:=Lib.hid hX7;clear hX7 hown7 hgrow7))
      all_goals go_simp
      all_goals have HRi:=Lib.hid (show Ri w7 A7 [((q+1:Nat):Int),I,O] from own_ri (xs:=[((q+1:Nat):Int),I,O]) (by have:=HX7.out.1;rw [hq1];simpa using this))
      all_goals have HM7:=Lib.hid HX7.out.2
      all_goals clear HX7 d0' d1' hb6 hw56
      all_goals go_wp2_with fail
      all_goals refine (HT.out A7 c7 w7 HRi.out hc7 HM7.out).mono ?_
      all_goals rintro e w8 ⟨rfl,hm8⟩
      all_goals have HM8:=Lib.hid (HM7.out.trans' hm8)
      all_goals clear hm8
      all_goals go_wp2_with fail
      all_goals go_returns
      all_goals exact ⟨.inl ⟨rfl,rfl⟩,HM8.out⟩
  · refine ⟨(c,[]),⟨hc,LB.nil⟩,fun w g n cp B m k h hcp=>?_⟩
    have c0:=h.cell 0 (by simp)
    have c1:=h.cell 1 (by simp)
    have c2:=h.cell 2 (by simp)
    simp at c0 c1 c2
    have HKp:=Lib.hid (fun w' (hm:Mor w w')=>show w'.cell? ⟨g,0,none⟩=some (.int .i64 x)∧w'.cell? ⟨g,1,none⟩=some (.int .i64 y)∧w'.cell? ⟨g,2,none⟩=some (.int .i64 z) from ⟨cell_morD hm c0,cell_morD hm c1,cell_morD hm c2⟩)
    have hn:n=3:=by rw [← h.len];rfl
    subst hn
    have HF:=Lib.hid (fun w'=>hF w')
    have HMn:=Lib.hid (fun w=>must_no c w hc0)
    have HC:=Lib.hid hc0
    clear h hF hc hB hc0
    go_enter Tryz.func61,Tryz.ntmps61
    go_wp2_with fail
    go_region_held3 (fun w'=>w'.cell? ⟨g,0,none⟩=some (.int .i64 x)∧w'.cell? ⟨g,1,none⟩=some (.int .i64 y)∧w'.cell? ⟨g,2,none⟩=some (.int .i64 z)) (exact HKp.out _ (by repeat (first | exact Mor.refl _ | apply Mor.alloc | apply Mor.more | apply Mor.drewN | apply Mor.drew))) (first
      | (go_at_call 62;(with_reducible refine (HF.out _).mono ?_);rintro e w5 ⟨v,rfl,ho,bs,dk,rfl⟩;obtain ⟨A5,k5,rfl,hk5,-,-⟩:=own_shape ho;clear ho))
    all_goals go_wp2_with (first | (go_at_call 57;(with_reducible refine (HMn.out _).mono ?_);rintro e w1 ⟨he,rfl⟩;rw [bang] at he;subst he))
    all_goals exact ⟨rfl,.inr ⟨HC.out,rfl⟩,(by repeat (first | exact Mor.refl _ | apply Mor.alloc | apply Mor.more | apply Mor.drewN | apply Mor.drew))⟩
end Go.Proofs.YtdhbkifpodekcaaGreatDoor
