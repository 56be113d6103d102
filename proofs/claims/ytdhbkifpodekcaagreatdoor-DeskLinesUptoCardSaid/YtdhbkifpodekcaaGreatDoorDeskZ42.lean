/- Texts of this claim. -/
import Derived.Test.YtdhbkifpodekcaaGreatDoorDeskZ41
import Derived.IntWalk
namespace Go.Proofs.YtdhbkifpodekcaaGreatDoor
open Go.ChangeShapes Go.WideShapes Go.ChangeAt Go.RowKit Go.PlainAid
set_option linter.unusedVariables false
set_option maxRecDepth 100000
def kS (es:List En) (f t:Int) (q:Nat) (ac:List Ln):Int:=sm (fun a=>if a.2=(q:Int) then ofS es a.1 f t else 0) ac
def kv (f:Nat→Int):Array Value:=#[.int .i64 (f 0),.int .i64 (f 1),.int .i64 (f 2),.int .i64 (f 3),.int .i64 (f 4)]
theorem kv_at (f:Nat→Int) (q:Nat) (h:q < 5):(kv f)[q]?=some (.int .i64 (f q)):=by
  match q,h with
  | 0,_=>rfl
  | 1,_=>rfl
  | 2,_=>rfl
  | 3,_=>rfl
  | 4,_=>rfl
theorem kv_set (f f':Nat→Int) (q:Nat) (h:q < 5) (o:Int) (hf:∀ p,f' p=f p+if p=q then o else 0):(kv f).setIfInBounds q (.int .i64 (f q+o))=kv f':=by
  unfold kv
  simp only [hf]
  match q,h with
  | 0,_=>simp
  | 1,_=>simp
  | 2,_=>simp
  | 3,_=>simp
  | 4,_=>simp
theorem kS_take (es:List En) (f t:Int) (ac:List Ln) (j:Nat) (h:j < ac.length) (q:Nat) (hq:am ac j=(q:Int)) (p:Nat) :
    kS es f t p (ac.take (j+1))=kS es f t p (ac.take j)+if p=q then ofS es (cd ac j) f t else 0:=by
  unfold kS
  rw [sm_take _ _ _ h]
  have e2:ac[j].2=(q:Int):=by rw [← hq];exact (cd_at ac j h).2.symm
  have e3:ac[j].1=cd ac j:=(cd_at ac j h).1.symm
  rw [e2,e3]
  by_cases hp:p=q
  · subst hp;simp
  · rw [if_neg (by omega),if_neg hp]
theorem kS_bd {es:List En} (h:∀ x∈es,enc x=0) (hl:es.length≤60) (f t:Int) (q:Nat) (ac:List Ln):-720000000000000*(ac.length:Int)≤kS es f t q ac∧kS es f t q ac≤720000000000000*ac.length:=by
  have:=sm_bd (f:=fun a:Ln=>if a.2=(q:Int) then ofS es a.1 f t else 0) (M:=720000000000000) (xs:=ac) (fun a _=>by have:=ofS_bd h hl a.1 f t;split <;> omega)
  unfold kS
  omega
theorem Mor.setC {w w':World} {g i:Nat} {u:Value} (h:Mor w w') (hg:w.heap.size≤g):Mor w (w'.setCell ⟨g,i,none⟩ u):=Mor.of_below (h.below.setCell hg u)
set_option maxRecDepth 100000 in
set_option maxHeartbeats 3200000 in
theorem kinds_any (A:Option Addr) (n c:Nat) (X:Option Addr) (m k:Nat) (b:Bok) (f t:Int) (w:World) (h:Bq w A n c X m k b) (hbo:BOk b) :
    Calls Tryz.prog 176 #[bv A n c X m k b.shut,.int .i64 f,.int .i64 t] w fun e w'=>e=.returned (.agg (kv fun q=>kS b.en f t q b.ac))∧Mor w w':=by
  have HO:=Lib.hid (fun w' (hm:Mor w w') s=>of_any A n c X m k b.shut b.en s f t w' (h.es.mor hm) h.length (by rw [← h.length];exact hbo.len) hbo.enc)
  have HAc:=Lib.hid (fun w' (hm:Mor w w')=>h.ac.si.mor hm)
  have HN:=Lib.hid h.ac.length
  have hn24:n≤24:=by rw [← h.ac.length];exact (acc_ok hbo.ac).1
  have HK:=Lib.hid (fun j (hj:j < n)=>show ∃ q:Nat,q < 5∧am b.ac j=(q:Int)∧∀ p,kS b.en f t p (b.ac.take (j+1))=kS b.en f t p (b.ac.take j)+if p=q then ofS b.en (cd b.ac j) f t else 0 by
    have hj':j < b.ac.length:=by rw [h.ac.length];exact hj
    have h2:=(acc_ok hbo.ac).2.2.1 _ (List.getElem_mem hj')
    have h3:0≤am b.ac j∧am b.ac j≤4:=by rw [(cd_at b.ac j hj').2];exact h2.2
    refine ⟨(am b.ac j).toNat,by omega,by omega,kS_take _ _ _ _ _ hj' _ (by omega)⟩)
  have HSb:=Lib.hid (fun s=>ofS_bd hbo.enc hbo.len s f t)
  have HBk:=Lib.hid (fun j (hj:j≤n) q=>show -720000000000000*(j:Int)≤kS b.en f t q (b.ac.take j)∧kS b.en f t q (b.ac.take j)≤720000000000000*j by
    have:=kS_bd hbo.enc hbo.len f t q (b.ac.take j)
    rw [show (b.ac.take j).length=j by rw [List.length_take,h.ac.length];omega] at this
    exact this)
  have HAll:=Lib.hid (show b.ac.take n=b.ac from List.take_of_length_le (by rw [h.ac.length];exact Nat.le_refl _))
  generalize b.shut=sh at *
  clear h hbo
  go_enter Tryz.func176,Tryz.ntmps176
  go_wp2_with fail
  have hP:=((Bk.new w 37 #[.slice A n c,.slice X m k,.int .i64 sh]).alloc (.cells #[.int .i64 0,.int .i64 0,.int .i64 0,.int .i64 0,.int .i64 0] 201)).alloc (.cells #[.int .i64 0,.int .i64 0,.int .i64 0,.int .i64 0,.int .i64 0] 201)
  have hR:=(Bk.new (w.alloc (.cells #[.slice A n c,.slice X m k,.int .i64 sh] 37)) 201 #[.int .i64 0,.int .i64 0,.int .i64 0,.int .i64 0,.int .i64 0]).alloc (.cells #[.int .i64 0,.int .i64 0,.int .i64 0,.int .i64 0,.int .i64 0] 201)
  have hG:=Bk.new ((w.alloc (.cells #[.slice A n c,.slice X m k,.int .i64 sh] 37)).alloc (.cells #[.int .i64 0,.int .i64 0,.int .i64 0,.int .i64 0,.int .i64 0] 201)) 201 #[.int .i64 0,.int .i64 0,.int .i64 0,.int .i64 0,.int .i64 0]
  have hM:=(Mor.refl w).alloc (o:=.cells #[.slice A n c,.slice X m k,.int .i64 sh] 37) |>.alloc (o:=.cells #[.int .i64 0,.int .i64 0,.int .i64 0,.int .i64 0,.int .i64 0] 201) |>.alloc (o:=.cells #[.int .i64 0,.int .i64 0,.int .i64 0,.int .i64 0,.int .i64 0] 201)
  rw [← sz1] at hR
  rw [← sz1,← sz1] at hG
  generalize ((w.alloc (.cells #[.slice A n c,.slice X m k,.int .i64 sh] 37)).alloc (.cells #[.int .i64 0,.int .i64 0,.int .i64 0,.int .i64 0,.int .i64 0] 201)).alloc (.cells #[.int .i64 0,.int .i64 0,.int .i64 0,.int .i64 0,.int .i64 0] 201)=w0 at *
  obtain ⟨bP,hbP⟩:∃ g,g=w.heap.size:=⟨_,rfl⟩
  rw [← hbP] at hP hR hG ⊢
  obtain ⟨bR,hbR⟩:∃ g,g=bP+1:=⟨_,rfl⟩
  rw [← hbR] at hR hG ⊢
  obtain ⟨g,hbG⟩:∃ g,g=bR+1:=⟨_,rfl⟩
  rw [← hbG] at hG ⊢
  have HNe:=Lib.hid (show w.heap.size≤g∧bP≠g∧bR≠g∧w.heap.size≤bR∧w.heap.size≤bP by omega)
  have HP:=Lib.hid hP
  have HR:=Lib.hid hR
  have HG:=Lib.hid hG
  have HM:=Lib.hid hM
  clear hP hR hG hM hbP hbR hbG
  go_loopw [13] (fun i wr=>∃ j:Nat,j≤n∧i=.int .i64 j∧Hid (Bk wr bP 37 #[.slice A n c,.slice X m k,.int .i64 sh]∧Bk wr bR 201 #[.int .i64 0,.int .i64 0,.int .i64 0,.int .i64 0,.int .i64 0]∧Bk wr g 201 (kv fun q=>kS b.en f t q (b.ac.take j))∧Mor w wr)) (fun i _=>n - (intOf i).toNat)
  case atStart=>exact ⟨0,Nat.zero_le _,rfl,Lib.hid ⟨HP.out,HR.out,HG.out,HM.out⟩⟩
  case round =>
    obtain ⟨j,hj,rfl,HH⟩:=hrel
    by_cases hlt:j < n
    · have hji:(j:Int) < (n:Int):=by omega
      have hj0:(0:Int)≤(j:Int):=by omega
      obtain ⟨q,hq,ha,hstep⟩:=HK.out j hlt
      obtain ⟨x,hA,hxb,d0,d1⟩:=(HAc.out _ HH.out.2.2.2).at_ j (by rw [HN.out];exact hlt)
      subst hA
      rw [ha] at d1
      obtain ⟨s1,s2⟩:=HSb.out (cd b.ac j)
      obtain ⟨q1,q2⟩:=HBk.out j hj q
      have HStep:=Lib.hid hstep
      have hq5:(q:Int) < 5:=by omega
      have hq0:(0:Int)≤(q:Int):=by omega
      have HOj:=Lib.hid (fun w' (h:Mor w w')=>HO.out w' h (cd b.ac j))
      clear hstep ha
      obtain ⟨Q,hQ⟩:∃ Q:Nat→Int,Q=fun q=>kS b.en f t q (b.ac.take j):=⟨_,rfl⟩
      rw [← hQ] at HH
      rw [show kS b.en f t q (b.ac.take j)=Q q by rw [hQ]] at q1 q2
      have HQ:=Lib.hid hQ
      clear hQ
      generalize ofS b.en (cd b.ac j) f t=o at *
      generalize cd b.ac j=s at *
      have c0:=HH.out.1.cell 0
      have c1:=HH.out.1.cell 1
      have c2:=HH.out.1.cell 2
      have cl:=HH.out.1.lt
      simp at c0 c1 c2
      have gl:=HH.out.2.2.1.lt
      generalize hv:Q q=v at *
      have HV:=Lib.hid hv
      clear hv
      go_wp2_with fail
      obtain ⟨hP,hR,hG,hM⟩:=HH.out
      have hA:=Bk.new wr 144 #[.string s,.int .i64 q]
      have hP:=hP.alloc (.cells #[.string s,.int .i64 q] 144)
      have hR:=hR.alloc (.cells #[.string s,.int .i64 q] 144)
      have hG:=hG.alloc (.cells #[.string s,.int .i64 q] 144)
      have hM:=hM.alloc (o:=.cells #[.string s,.int .i64 q] 144)
      have hne:wr.heap.size≠g:=by omega
      generalize wr.alloc (.cells #[.string s,.int .i64 q] 144)=wn at *
      generalize wr.heap.size=bA at *
      have HKp:=Lib.hid (fun w' (hP:Bk w' bP 37 #[.slice (some x) n c,.slice X m k,.int .i64 sh]) (hA:Bk w' bA 144 #[.string s,.int .i64 q])=>show w'.cell? ⟨bP,0,none⟩=some (.slice (some x) n c)∧w'.cell? ⟨bP,1,none⟩=some (.slice X m k)∧w'.cell? ⟨bP,2,none⟩=some (.int .i64 sh)∧w'.cell? ⟨bA,0,none⟩=some (.string s)∧w'.cell? ⟨bA,1,none⟩=some (.int .i64 q) from ⟨by rw [hP.cell];rfl,by rw [hP.cell];rfl,by rw [hP.cell];rfl,by rw [hA.cell];rfl,by rw [hA.cell];rfl⟩)
      have HNe2:=Lib.hid (And.intro HNe.out.2.1 hne)
      have hwv:IntKind.i64.wrap (v+o)=v+o:=IntWalk.i64_in _ (by omega)
      have g0:wn.cell? ⟨g,q,none⟩=some (.int .i64 v):=by rw [hG.cell,kv_at Q q hq,HV.out]
      have HAn:=Lib.hid hA
      have HPn:=Lib.hid hP
      have HRn:=Lib.hid hR
      have HGn:=Lib.hid hG
      have HMn:=Lib.hid hM
      have al:=hA.lt
      have pl:=hP.lt
      have gl:=hG.lt
      have gf:=hG.frozen q
      obtain ⟨c0,c1,c2,a0,a1⟩:=HKp.out _ hP hA
      have HNx:=Lib.hid (fun bs dr=>show Hid (Bk (more (wn.setCell ⟨g,q,none⟩ (.int .i64 (v+o))) bs dr) bP 37 #[.slice (some x) n c,.slice X m k,.int .i64 sh]∧Bk (more (wn.setCell ⟨g,q,none⟩ (.int .i64 (v+o))) bs dr) bR 201 #[.int .i64 0,.int .i64 0,.int .i64 0,.int .i64 0,.int .i64 0]∧Bk (more (wn.setCell ⟨g,q,none⟩ (.int .i64 (v+o))) bs dr) g 201 (kv fun q=>kS b.en f t q (b.ac.take (j+1)))∧Mor w (more (wn.setCell ⟨g,q,none⟩ (.int .i64 (v+o))) bs dr)) from Lib.hid ⟨(hP.set_other _ _ _ HNe.out.2.1).more _ _,(hR.set_other _ _ _ HNe.out.2.2.1).more _ _,by
        have h2:=(hG.set_ q (.int .i64 (v+o))).more bs dr
        rw [← HV.out,kv_set Q (fun q=>kS b.en f t q (b.ac.take (j+1))) q hq o (fun p=>by rw [HStep.out p,HQ.out])] at h2
        rw [← HV.out]
        exact h2,(hM.setC HNe.out.1).more⟩)
      clear hA hP hR hG hM HH d0 d1
      refine wp_region_held_drew (S:=(fun w'=>w'.cell? ⟨bP,0,none⟩=some (.slice (some x) n c)∧w'.cell? ⟨bP,1,none⟩=some (.slice X m k)∧w'.cell? ⟨bP,2,none⟩=some (.int .i64 sh)∧w'.cell? ⟨bA,0,none⟩=some (.string s)∧w'.cell? ⟨bA,1,none⟩=some (.int .i64 q))) (by kernel_rfl) ?_ (fun hHeld=>?_)
      · (refine HKp.out _ ?_ ?_ <;> repeat (first | exact HPn.out | exact HAn.out | apply Bk.alloc | apply Bk.more | apply Bk.drewN | apply Bk.drew | (refine Bk.set_other ?_ _ _ _ HNe2.out.1) | (refine Bk.set_other ?_ _ _ _ HNe2.out.2)))
      refine wpAnyH_take (i:=0) (v:=?_) rfl (by kernel_rfl) (by kernel_rfl) (by kernel_rfl) (fun _ _ _ h=>h) (Or.inl ⟨by rfl,?_⟩) (by assumption) ?_
      rotate_left
      · (intro w hSw;(try dsimp only at hSw);go_simp;try with_reducible rfl)
      dsimp [Act.put]
      simp only [List.setIfInBounds_toArray,List.set_cons_zero,List.set_cons_succ]
      refine wpAnyH_take (i:=1) (v:=?_) rfl (by kernel_rfl) (by kernel_rfl) (by kernel_rfl) (fun _ _ _ h=>h) (Or.inl ⟨by rfl,?_⟩) (by assumption) ?_
      rotate_left
      · (intro w hSw;(try dsimp only at hSw);go_simp;try with_reducible rfl)
      dsimp [Act.put]
      simp only [List.setIfInBounds_toArray,List.set_cons_zero,List.set_cons_succ]
      refine wpAnyH_take (i:=2) (v:=?_) rfl (by kernel_rfl) (by kernel_rfl) (by kernel_rfl) (fun _ _ _ h=>h) (Or.inl ⟨by rfl,?_⟩) (by assumption) ?_
      rotate_left
      · (intro w hSw;(try dsimp only at hSw);go_simp;try with_reducible rfl)
      dsimp [Act.put]
      simp only [List.setIfInBounds_toArray,List.set_cons_zero,List.set_cons_succ]
      refine wpAnyH_take (i:=4) (v:=?_) rfl (by kernel_rfl) (by kernel_rfl) (by kernel_rfl) (fun _ _ _ h=>h) (Or.inl ⟨by rfl,?_⟩) (by assumption) ?_
      rotate_left
      · (intro w hSw;(try dsimp only at hSw);go_simp;try with_reducible rfl)
      dsimp [Act.put]
      simp only [List.setIfInBounds_toArray,List.set_cons_zero,List.set_cons_succ]
      refine wpAnyH_take (i:=5) (v:=?_) rfl (by kernel_rfl) (by kernel_rfl) (by kernel_rfl) (fun _ _ _ h=>h) (Or.inl ⟨by rfl,?_⟩) (by assumption) ?_
      rotate_left
      · (intro w hSw;(try dsimp only at hSw);go_simp;try with_reducible rfl)
      dsimp [Act.put]
      simp only [List.setIfInBounds_toArray,List.set_cons_zero,List.set_cons_succ]
      refine wpAnyH_take (i:=6) (v:=?_) rfl (by kernel_rfl) (by kernel_rfl) (by kernel_rfl) (fun _ _ _ h=>h) (Or.inl ⟨by rfl,?_⟩) (by assumption) ?_
      rotate_left
      · (intro w hSw;(try dsimp only at hSw);go_simp;try with_reducible rfl)
      dsimp [Act.put]
      simp only [List.setIfInBounds_toArray,List.set_cons_zero,List.set_cons_succ]
      refine wpAnyH_take (i:=7) (v:=?_) rfl (by kernel_rfl) (by kernel_rfl) (by kernel_rfl) (fun _ _ _ h=>h) (Or.inl ⟨by rfl,?_⟩) (by assumption) ?_
      rotate_left
      · (intro w hSw;(try dsimp only at hSw);go_simp;try with_reducible rfl)
      dsimp [Act.put]
      simp only [List.setIfInBounds_toArray,List.set_cons_zero,List.set_cons_succ]
      refine wpAnyH_take (i:=8) (v:=?_) rfl (by kernel_rfl) (by kernel_rfl) (by kernel_rfl) (fun _ _ _ h=>h) (Or.inl ⟨by rfl,?_⟩) (by assumption) ?_
      rotate_left
      · (intro w hSw;(try dsimp only at hSw);go_simp;try with_reducible rfl)
      dsimp [Act.put]
      simp only [List.setIfInBounds_toArray,List.set_cons_zero,List.set_cons_succ]
      refine wpAnyH_ready (rs:=[3,9]) (by kernel_rfl) (by simp) ?_
      refine AllReadyH.cons rfl (fun K hK=>?_) ?_
      · go_simp
        refine hK.out _ _ ?_ (fun hHeld=>?_)
        · (refine HKp.out _ ?_ ?_ <;> repeat (first | exact HPn.out | exact HAn.out | apply Bk.alloc | apply Bk.more | apply Bk.drewN | apply Bk.drew | (refine Bk.set_other ?_ _ _ _ HNe2.out.1) | (refine Bk.set_other ?_ _ _ _ HNe2.out.2)))
        clear hK K
        try dsimp [Act.put]
        try simp only [List.setIfInBounds_toArray,List.set_cons_zero,List.set_cons_succ]
        refine wpAnyH_ready (rs:=[9]) (by kernel_rfl) (by simp) ?_
        refine AllReadyH.cons rfl (fun K hK=>?_) ?_
        · go_simp
          ((with_reducible refine (HOj.out _ (by repeat (first | exact HMn.out | apply Mor.alloc | apply Mor.more | apply Mor.drewN | apply Mor.drew))).mono ?_);rintro e w6 ⟨rfl,bs,dr,rfl⟩)
          try go_wp2_with fail
          refine hK.out _ _ ?_ (fun hHeld=>?_)
          · (refine HKp.out _ ?_ ?_ <;> repeat (first | exact HPn.out | exact HAn.out | apply Bk.alloc | apply Bk.more | apply Bk.drewN | apply Bk.drew | (refine Bk.set_other ?_ _ _ _ HNe2.out.1) | (refine Bk.set_other ?_ _ _ _ HNe2.out.2)))
          clear hK K
          try dsimp [Act.put]
          try simp only [List.setIfInBounds_toArray,List.set_cons_zero,List.set_cons_succ]
          refine wpAnyH_take (i:=10) (v:=?_) rfl (by kernel_rfl) (by kernel_rfl) (by kernel_rfl) (fun _ _ _ h=>h) (Or.inl ⟨by rfl,?_⟩) (by assumption) ?_
          rotate_left
          · (intro w hSw;(try dsimp only at hSw);go_simp;try with_reducible rfl)
          dsimp [Act.put]
          simp only [List.setIfInBounds_toArray,List.set_cons_zero,List.set_cons_succ]
          refine wpAnyH_take (i:=11) (v:=?_) rfl (by kernel_rfl) (by kernel_rfl) (by kernel_rfl) (fun _ _ _ h=>h) (Or.inl ⟨by rfl,?_⟩) (by assumption) ?_
          rotate_left
          · (intro w hSw;(try dsimp only at hSw);go_simp;try with_reducible rfl)
          dsimp [Act.put]
          simp only [List.setIfInBounds_toArray,List.set_cons_zero,List.set_cons_succ]
          refine wpAnyH_ready (rs:=[12]) (by kernel_rfl) (by simp) ?_
          refine AllReadyH.cons rfl (fun K hK=>?_) ?_
          · go_simp
            refine hK.out _ _ ?_ (fun hHeld=>?_)
            · (refine HKp.out _ ?_ ?_ <;> repeat (first | exact HPn.out | exact HAn.out | apply Bk.alloc | apply Bk.more | apply Bk.drewN | apply Bk.drew | (refine Bk.set_other ?_ _ _ _ HNe2.out.1) | (refine Bk.set_other ?_ _ _ _ HNe2.out.2)))
            clear hK K
            try dsimp [Act.put]
            refine wpAnyH_done (by kernel_rfl) ?_ _
            clear hwv
            go_wp2_with fail
            go_roundw
            case rel=>exact ⟨j+1,by omega,by go_num,HNx.out _ _⟩
            case measure=>simp [intOf];omega
          · exact AllReadyH.nil
        · exact AllReadyH.nil
      refine AllReadyH.cons rfl (fun K hK=>?_) ?_
      · go_simp
        ((with_reducible refine (HOj.out _ (by repeat (first | exact HMn.out | apply Mor.alloc | apply Mor.more | apply Mor.drewN | apply Mor.drew))).mono ?_);rintro e w6 ⟨rfl,bs,dr,rfl⟩)
        try go_wp2_with fail
        refine hK.out _ _ ?_ (fun hHeld=>?_)
        · (refine HKp.out _ ?_ ?_ <;> repeat (first | exact HPn.out | exact HAn.out | apply Bk.alloc | apply Bk.more | apply Bk.drewN | apply Bk.drew | (refine Bk.set_other ?_ _ _ _ HNe2.out.1) | (refine Bk.set_other ?_ _ _ _ HNe2.out.2)))
        clear hK K
        try dsimp [Act.put]
        try simp only [List.setIfInBounds_toArray,List.set_cons_zero,List.set_cons_succ]
        refine wpAnyH_ready (rs:=[3]) (by kernel_rfl) (by simp) ?_
        refine AllReadyH.cons rfl (fun K hK=>?_) ?_
        · go_simp
          refine hK.out _ _ ?_ (fun hHeld=>?_)
          · (refine HKp.out _ ?_ ?_ <;> repeat (first | exact HPn.out | exact HAn.out | apply Bk.alloc | apply Bk.more | apply Bk.drewN | apply Bk.drew | (refine Bk.set_other ?_ _ _ _ HNe2.out.1) | (refine Bk.set_other ?_ _ _ _ HNe2.out.2)))
          clear hK K
          try dsimp [Act.put]
          try simp only [List.setIfInBounds_toArray,List.set_cons_zero,List.set_cons_succ]
          refine wpAnyH_take (i:=10) (v:=?_) rfl (by kernel_rfl) (by kernel_rfl) (by kernel_rfl) (fun _ _ _ h=>h) (Or.inl ⟨by rfl,?_⟩) (by assumption) ?_
          rotate_left
          · (intro w hSw;(try dsimp only at hSw);go_simp;try with_reducible rfl)
          dsimp [Act.put]
          simp only [List.setIfInBounds_toArray,List.set_cons_zero,List.set_cons_succ]
          refine wpAnyH_take (i:=11) (v:=?_) rfl (by kernel_rfl) (by kernel_rfl) (by kernel_rfl) (fun _ _ _ h=>h) (Or.inl ⟨by rfl,?_⟩) (by assumption) ?_
          rotate_left
          · (intro w hSw;(try dsimp only at hSw);go_simp;try with_reducible rfl)
          dsimp [Act.put]
          simp only [List.setIfInBounds_toArray,List.set_cons_zero,List.set_cons_succ]
          refine wpAnyH_ready (rs:=[12]) (by kernel_rfl) (by simp) ?_
          refine AllReadyH.cons rfl (fun K hK=>?_) ?_
          · go_simp
            refine hK.out _ _ ?_ (fun hHeld=>?_)
            · (refine HKp.out _ ?_ ?_ <;> repeat (first | exact HPn.out | exact HAn.out | apply Bk.alloc | apply Bk.more | apply Bk.drewN | apply Bk.drew | (refine Bk.set_other ?_ _ _ _ HNe2.out.1) | (refine Bk.set_other ?_ _ _ _ HNe2.out.2)))
            clear hK K
            try dsimp [Act.put]
            refine wpAnyH_done (by kernel_rfl) ?_ _
            clear hwv
            go_wp2_with fail
            go_roundw
            case rel=>exact ⟨j+1,by omega,by go_num,HNx.out _ _⟩
            case measure=>simp [intOf];omega
          · exact AllReadyH.nil
        · exact AllReadyH.nil
      exact AllReadyH.nil
    · obtain rfl:j=n:=by omega
      rw [HAll.out] at HH
      have e0:=HH.out.2.2.1.cell 0
      have e1:=HH.out.2.2.1.cell 1
      have e2:=HH.out.2.2.1.cell 2
      have e3:=HH.out.2.2.1.cell 3
      have e4:=HH.out.2.2.1.cell 4
      have el:=HH.out.2.2.1.lt
      have r0:=HH.out.2.1.frozen 0
      have r1:=HH.out.2.1.frozen 1
      have r2:=HH.out.2.1.frozen 2
      have r3:=HH.out.2.1.frozen 3
      have r4:=HH.out.2.1.frozen 4
      have rl:=HH.out.2.1.lt
      have z0:=HH.out.2.1.cell 0
      have z1:=HH.out.2.1.cell 1
      have z2:=HH.out.2.1.cell 2
      have z3:=HH.out.2.1.cell 3
      have z4:=HH.out.2.1.cell 4
      have HMw:=Lib.hid HH.out.2.2.2
      have HRw:=Lib.hid HH.out.2.1
      have HRb:=Lib.hid HNe.out.2.2.2.1
      simp [kv] at e0 e1 e2 e3 e4 z0 z1 z2 z3 z4
      go_wp2_with fail
      have hF:=(((((HRw.out.set_ 0 (.int .i64 (kS b.en f t 0 b.ac))).set_ 1 (.int .i64 (kS b.en f t 1 b.ac))).set_ 2 (.int .i64 (kS b.en f t 2 b.ac))).set_ 3 (.int .i64 (kS b.en f t 3 b.ac))).set_ 4 (.int .i64 (kS b.en f t 4 b.ac)))
      simp at hF
      have hMF:=((((HMw.out.setC HRb.out (i:=0) (u:=.int .i64 (kS b.en f t 0 b.ac))).setC HRb.out (i:=1) (u:=.int .i64 (kS b.en f t 1 b.ac))).setC HRb.out (i:=2) (u:=.int .i64 (kS b.en f t 2 b.ac))).setC HRb.out (i:=3) (u:=.int .i64 (kS b.en f t 3 b.ac))).setC HRb.out (i:=4) (u:=.int .i64 (kS b.en f t 4 b.ac))
      generalize (((((wr.setCell ⟨bR,0,none⟩ (.int .i64 (kS b.en f t 0 b.ac))).setCell ⟨bR,1,none⟩ (.int .i64 (kS b.en f t 1 b.ac))).setCell ⟨bR,2,none⟩ (.int .i64 (kS b.en f t 2 b.ac))).setCell ⟨bR,3,none⟩ (.int .i64 (kS b.en f t 3 b.ac))).setCell ⟨bR,4,none⟩ (.int .i64 (kS b.en f t 4 b.ac)))=wf at *
      have f0:=hF.cell 0
      have f1:=hF.cell 1
      have f2:=hF.cell 2
      have f3:=hF.cell 3
      have f4:=hF.cell 4
      have fl:=hF.lt
      simp at f0 f1 f2 f3 f4
      have HMF:=Lib.hid hMF
      clear hF hMF
      (try simp only [Exit.inBlock,Exit.then])
      refine bodyPost_ret (v:=.agg #[.int .i64 (kS b.en f t 0 b.ac),.int .i64 (kS b.en f t 1 b.ac),.int .i64 (kS b.en f t 2 b.ac),.int .i64 (kS b.en f t 3 b.ac),.int .i64 (kS b.en f t 4 b.ac)]) ?_ rfl ?_
      · simp [results,Tryz.results176,go_sem,f0,f1,f2,f3,f4]
      exact ⟨rfl,HMF.out⟩
def profc (b:Bok) (f t:Int):Int:=if lookc b f≠0 then lookc b f else if (t < 0∨292193 < t)∨t < f then 1 else 0
def profv (b:Bok) (f t:Int):Int:=- kS b.en f t 3 b.ac - kS b.en f t 4 b.ac
theorem profc_zero {b:Bok} {f t:Int} (h:profc b f t=0):BOk b∧0≤f∧f≤t∧t≤292193:=by
  unfold profc at h
  by_cases h1:lookc b f=0
  · rw [if_neg (by simp [h1])] at h
    obtain ⟨h2,h3,h4⟩:=lookc_zero h1
    by_cases h5:(t < 0∨292193 < t)∨t < f
    · rw [if_pos h5] at h;omega
    · exact ⟨h2,by omega,by omega,by omega⟩
  · rw [if_pos h1] at h;exact absurd h h1
theorem kS_bdb {b:Bok} (h:BOk b) (f t:Int) (q:Nat):-17280000000000000≤kS b.en f t q b.ac∧kS b.en f t q b.ac≤17280000000000000:=by
  have h1:=kS_bd h.enc h.len f t q b.ac
  have h2:=(acc_ok h.ac).1
  omega
set_option maxRecDepth 100000 in
set_option maxHeartbeats 3200000 in
theorem profit_ok (A:Option Addr) (n c:Nat) (X:Option Addr) (m k:Nat) (b:Bok) (f t:Int) (w:World) (h:Bq w A n c X m k b) (hl:profc b f t=0) :
    Calls Tryz.prog 138 #[bv A n c X m k b.shut,.int .i64 f,.int .i64 t] w fun e w'=>e=.returned (.tuple #[.int .i64 (profv b f t),.int .i64 0])∧Mor w w':=by
  obtain ⟨hbo,h0,h1,h9⟩:=profc_zero hl
  have HL:=Lib.hid (fun w' (hm:Mor w w')=>look_any A n c X m k b f w' (h.mor hm))
  rw [lookc_of hbo h0 (Int.le_trans h1 h9)] at HL
  have HD:=Lib.hid (fun w=>cis_any t w)
  rw [show (decide (0≤t) && decide (t≤292193))=true by simp;omega] at HD
  have HK:=Lib.hid (fun w' (hm:Mor w w')=>show Calls Tryz.prog 176 #[bv A n c X m k b.shut,.int .i64 f,.int .i64 t] w' fun e w''=>e=.returned (.agg #[.int .i64 (kS b.en f t 0 b.ac),.int .i64 (kS b.en f t 1 b.ac),.int .i64 (kS b.en f t 2 b.ac),.int .i64 (kS b.en f t 3 b.ac),.int .i64 (kS b.en f t 4 b.ac)])∧Mor w' w'' from kinds_any A n c X m k b f t w' (h.mor hm) hbo)
  obtain ⟨a1,a2⟩:=kS_bdb hbo f t 3
  obtain ⟨a3,a4⟩:=kS_bdb hbo f t 4
  have hltf:¬ t < f:=by omega
  unfold profv
  generalize kS b.en f t 0 b.ac=k0 at *
  generalize kS b.en f t 1 b.ac=k1 at *
  generalize kS b.en f t 2 b.ac=k2 at *
  generalize kS b.en f t 3 b.ac=k3 at *
  generalize kS b.en f t 4 b.ac=k4 at *
  generalize b.shut=sh at *
  clear h hl hbo
  go_enter Tryz.func138,Tryz.ntmps138
  go_wp2_with fail
  refine (HL.out _ (Mor.refl _).alloc).mono ?_
  rintro e w1 ⟨rfl,hm⟩
  obtain ⟨c0,c1,c2,cl⟩:=bk_book _ _ _ _ _ _ _ _ hm
  obtain ⟨bP,hbP⟩:∃ g,g=w.heap.size:=⟨_,rfl⟩
  rw [← hbP] at c0 c1 c2 cl ⊢
  have HM1:=Lib.hid ((Mor.refl w).alloc.trans' hm)
  clear hm hbP
  go_wp2_with (go_at_call 93;(with_reducible refine (HD.out _).mono ?_);rintro e w2 ⟨rfl,rfl⟩)
  refine (HK.out _ HM1.out).mono ?_
  rintro e w2 ⟨rfl,hm⟩
  have HM2:=Lib.hid (HM1.out.trans' hm)
  clear hm c0 c1 c2 cl
  go_wp2_with fail
  go_returns
  exact ⟨rfl,HM2.out.alloc⟩
set_option maxRecDepth 100000 in
set_option maxHeartbeats 1600000 in
theorem profit_no (A:Option Addr) (n c:Nat) (X:Option Addr) (m k:Nat) (b:Bok) (f t:Int) (w:World) (h:Bq w A n c X m k b) (hl:profc b f t≠0) :
    Calls Tryz.prog 138 #[bv A n c X m k b.shut,.int .i64 f,.int .i64 t] w fun e w'=>e=.returned (.tuple #[.int .i64 0,.int .i64 (profc b f t)])∧Mor w w':=by
  have HL:=Lib.hid (fun w' (hm:Mor w w')=>look_any A n c X m k b f w' (h.mor hm))
  have HD:=Lib.hid (fun w=>cis_any t w)
  have HP:=Lib.hid (show profc b f t=if lookc b f≠0 then lookc b f else if (t < 0∨292193 < t)∨t < f then 1 else 0 from rfl)
  generalize profc b f t=pr at *
  generalize lookc b f=r at *
  generalize b.shut=sh at *
  clear h
  by_cases hr:r=0
  · subst hr
    rw [if_neg (by simp)] at HP
    have hor:(t < 0∨292193 < t)∨t < f:=by
      have:=HP.out
      split at this
      · assumption
      · exact absurd this hl
    rw [if_pos hor] at HP
    by_cases hd:t < 0∨292193 < t
    · rw [show (decide (0≤t) && decide (t≤292193))=false by simp;omega] at HD
      clear hl hor hd
      go_enter Tryz.func138,Tryz.ntmps138
      go_wp2_with fail
      refine (HL.out _ (Mor.refl _).alloc).mono ?_
      rintro e w1 ⟨rfl,hm⟩
      have HM1:=Lib.hid ((Mor.refl w).alloc.trans' hm)
      clear hm
      go_wp2_with (go_at_call 93;(with_reducible refine (HD.out _).mono ?_);rintro e w2 ⟨rfl,rfl⟩)
      go_returns
      exact ⟨by rw [HP.out] <;> rfl,HM1.out⟩
    · rw [show (decide (0≤t) && decide (t≤292193))=true by simp;omega] at HD
      have hltf:t < f:=by omega
      clear hl hor hd
      go_enter Tryz.func138,Tryz.ntmps138
      go_wp2_with fail
      refine (HL.out _ (Mor.refl _).alloc).mono ?_
      rintro e w1 ⟨rfl,hm⟩
      have HM1:=Lib.hid ((Mor.refl w).alloc.trans' hm)
      clear hm
      go_wp2_with (go_at_call 93;(with_reducible refine (HD.out _).mono ?_);rintro e w2 ⟨rfl,rfl⟩)
      go_returns
      exact ⟨by rw [HP.out] <;> rfl,HM1.out⟩
  · rw [if_pos hr] at HP
    have hr':(r != 0)=true:=by simpa using hr
    clear hl hr
    go_enter Tryz.func138,Tryz.ntmps138
    go_wp2_with fail
    refine (HL.out _ (Mor.refl _).alloc).mono ?_
    rintro e w1 ⟨rfl,hm⟩
    have HM1:=Lib.hid ((Mor.refl w).alloc.trans' hm)
    clear hm
    go_wp2_with fail
    go_returns
    exact ⟨by rw [HP.out] <;> rfl,HM1.out⟩
set_option maxRecDepth 100000 in
set_option maxHeartbeats 3200000 in
theorem sheet_ok (A:Option Addr) (n c:Nat) (X:Option Addr) (m k:Nat) (b:Bok) (t:Int) (w:World) (h:Bq w A n c X m k b) (hl:lookc b t=0) :
    Calls Tryz.prog 142 #[bv A n c X m k b.shut,.int .i64 t] w fun e w'=>e=.returned (.tuple #[.int .i64 (kS b.en 0 t 0 b.ac),.int .i64 (-kS b.en 0 t 1 b.ac),.int .i64 (-kS b.en 0 t 2 b.ac),.int .i64 0])∧Mor w w':=by
  obtain ⟨hbo,h0,h9⟩:=lookc_zero hl
  have HL:=Lib.hid (fun w' (hm:Mor w w')=>look_any A n c X m k b t w' (h.mor hm))
  rw [hl] at HL
  have HK:=Lib.hid (fun w' (hm:Mor w w')=>show Calls Tryz.prog 176 #[bv A n c X m k b.shut,.int .i64 0,.int .i64 t] w' fun e w''=>e=.returned (.agg #[.int .i64 (kS b.en 0 t 0 b.ac),.int .i64 (kS b.en 0 t 1 b.ac),.int .i64 (kS b.en 0 t 2 b.ac),.int .i64 (kS b.en 0 t 3 b.ac),.int .i64 (kS b.en 0 t 4 b.ac)])∧Mor w' w'' from kinds_any A n c X m k b 0 t w' (h.mor hm) hbo)
  obtain ⟨a1,a2⟩:=kS_bdb hbo 0 t 1
  obtain ⟨a3,a4⟩:=kS_bdb hbo 0 t 2
  generalize kS b.en 0 t 0 b.ac=k0 at *
  generalize kS b.en 0 t 1 b.ac=k1 at *
  generalize kS b.en 0 t 2 b.ac=k2 at *
  generalize kS b.en 0 t 3 b.ac=k3 at *
  generalize kS b.en 0 t 4 b.ac=k4 at *
  generalize b.shut=sh at *
  clear h hl hbo
  go_enter Tryz.func142,Tryz.ntmps142
  go_wp2_with fail
  refine (HL.out _ (Mor.refl _).alloc).mono ?_
  rintro e w1 ⟨rfl,hm⟩
  obtain ⟨c0,c1,c2,cl⟩:=bk_book _ _ _ _ _ _ _ _ hm
  obtain ⟨bP,hbP⟩:∃ g,g=w.heap.size:=⟨_,rfl⟩
  rw [← hbP] at c0 c1 c2 cl ⊢
  have HM1:=Lib.hid ((Mor.refl w).alloc.trans' hm)
  clear hm hbP
  go_wp2_with fail
  refine (HK.out _ HM1.out).mono ?_
  rintro e w2 ⟨rfl,hm⟩
  have HM2:=Lib.hid (HM1.out.trans' hm)
  clear hm c0 c1 c2 cl
  go_wp2_with fail
  have hG:=Bk.new w2 201 #[.int .i64 k0,.int .i64 k1,.int .i64 k2,.int .i64 k3,.int .i64 k4]
  have HM3:=Lib.hid (HM2.out.alloc (o:=.cells #[.int .i64 k0,.int .i64 k1,.int .i64 k2,.int .i64 k3,.int .i64 k4] 201))
  generalize w2.alloc (.cells #[.int .i64 k0,.int .i64 k1,.int .i64 k2,.int .i64 k3,.int .i64 k4] 201)=w3 at *
  generalize w2.heap.size=g at *
  have g0:=hG.cell 0
  have g1:=hG.cell 1
  have g2:=hG.cell 2
  simp at g0 g1 g2
  have hw1:IntKind.i64.wrap (-k1)=-k1:=IntWalk.i64_in _ (by omega)
  have hw2:IntKind.i64.wrap (-k2)=-k2:=IntWalk.i64_in _ (by omega)
  clear hG
  go_quiet (fail)
  go_wp2_with fail
  go_returns
  exact ⟨rfl,HM3.out.drewN⟩
set_option maxHeartbeats 800000 in
theorem sheet_no (A:Option Addr) (n c:Nat) (X:Option Addr) (m k:Nat) (b:Bok) (t:Int) (w:World) (h:Bq w A n c X m k b) (hl:lookc b t≠0) :
    Calls Tryz.prog 142 #[bv A n c X m k b.shut,.int .i64 t] w fun e w'=>e=.returned (.tuple #[.int .i64 0,.int .i64 0,.int .i64 0,.int .i64 (lookc b t)])∧Mor w w':=by
  have HL:=Lib.hid (fun w' (hm:Mor w w')=>look_any A n c X m k b t w' (h.mor hm))
  generalize lookc b t=r at *
  generalize b.shut=sh at *
  have hr:(r != 0)=true:=by simpa using hl
  clear h hl
  go_enter Tryz.func142,Tryz.ntmps142
  go_wp2_with fail
  refine (HL.out _ (Mor.refl _).alloc).mono ?_
  rintro e w1 ⟨rfl,hm⟩
  have HM:=Lib.hid ((Mor.refl w).alloc.trans' hm)
  clear hm
  go_wp2_with fail
  go_returns
  exact ⟨rfl,HM.out⟩
theorem newAt {w:World} {T:TypeId} {cs:Array Value} {g:Nat} (h:w.heap.size=g):Bk (w.alloc (.cells cs T)) g T cs:=by
  subst h;exact Bk.new w T cs
theorem own3 {W:World} {base g n m:Nat} {vA vX a a' a'' z z' z'':Value} {b:Bok} (h:OwnB W base vA vX n m b) (hb:Bk W g 37 #[z,z',z'']) :
    OwnB (((W.setCell ⟨g,0,none⟩ a).setCell ⟨g,1,none⟩ a').setCell ⟨g,2,none⟩ a'') base vA vX n m b :=
  ((h.setT hb).setT (hb.set_ 0 a)).setT ((hb.set_ 0 a).set_ 1 a')
end Go.Proofs.YtdhbkifpodekcaaGreatDoor
namespace Go.Proofs.YtdhbkifpodekcaaGreatDoor
open Go.ChangeShapes Go.WideShapes Go.ChangeAt Go.RowKit Go.PlainAid
set_option linter.unusedVariables false
set_option maxRecDepth 100000
def stepb (b:Bok) (x:En):Bok:=if postc b x=0 then postb b x else b
def madeb (b:Bok) (es:List En):Bok:=es.foldl stepb b
theorem stepb_yes {b:Bok} {x:En} (h:postc b x=0):stepb b x=postb b x:=by unfold stepb;rw [if_pos h]
theorem stepb_no {b:Bok} {x:En} (h:postc b x≠0):stepb b x=b:=by unfold stepb;rw [if_neg h]
theorem madeb_take (b:Bok) (es:List En) (j:Nat) (hj:j < es.length):madeb b (es.take (j+1))=stepb (madeb b (es.take j)) (ne es j):=by
  unfold madeb
  rw [List.take_succ_eq_append_getElem hj,List.foldl_append,ne_eq _ _ hj]
  rfl
theorem stepb_ac (b:Bok) (x:En):(stepb b x).ac=b.ac∧(stepb b x).shut=b.shut:=by
  unfold stepb
  split
  · exact post_ac b x
  · exact ⟨rfl,rfl⟩
theorem madeb_ac (b:Bok) (es:List En):(madeb b es).ac=b.ac∧(madeb b es).shut=b.shut:=by
  induction es generalizing b with
  | nil=>exact ⟨rfl,rfl⟩
  | cons x xs ih=>exact ⟨(ih (stepb b x)).1.trans (stepb_ac b x).1,(ih (stepb b x)).2.trans (stepb_ac b x).2⟩
section
variable {w w' : World} {A0 : Option Addr} {n c0 : Nat} {X0 : Option Addr} {m0 k0 : Nat} {b0 : Bok} {A : Option Addr} {c : Nat} {X : Option Addr} {m k : Nat} {b : Bok}
theorem own_bq {B:Nat} (h:OwnB w B (.slice A n c) (.slice X m k) n m b):Bq w A n c X m k b:=by
  obtain ⟨A',c',X',k',e1,e2,hb⟩:=h.bq
  injection e1 with e1 _ e3
  injection e2 with e4 _ e6
  subst e1 e3 e4 e6
  exact hb
end
theorem postYes_own {w w':World} {b:Bok} {e:Ending} {n:Nat} (h:PostYes w b e w') (hn:b.ac.length=n):∃ A c X m k,e=.returned (.tuple #[bv A n c X m k b.shut,.int .i64 0])∧OwnB w' w.heap.size (.slice A n c) (.slice X m k) n m b∧Mor w w':=by
  obtain ⟨A,n',c,X,m,k,he,hq,ho,hm⟩:=postYes_bq h
  have e:n'=n:=by rw [← hq.ac.length,hn]
  subst e
  exact ⟨A,c,X,m,k,he,ho,hm⟩
end Go.Proofs.YtdhbkifpodekcaaGreatDoor
namespace Go.Proofs.YtdhbkifpodekcaaGreatDoor
open Go.ChangeShapes Go.WideShapes Go.ChangeAt Go.RowKit Go.PlainAid
set_option linter.unusedVariables false
set_option maxRecDepth 100000
theorem shut_ok {b:Bok} {d:Int} (h:BOk b) (h1:0≤d) (h2:d≤292193):BOk (shutb b d) :=
  ⟨h.ac,by show -1≤d;omega,h2,h.len,h.enc,h.known,h.keys,h.sorted⟩
theorem shutc_zero {b:Bok} {d:Int} (h:shutc b d=0):bookc b=0∧0≤d∧d≤292193∧¬ d < b.shut:=by
  unfold shutc at h
  by_cases h1:bookc b=0
  · rw [if_neg (by simp [h1])] at h
    by_cases h2:d < 0∨292193 < d
    · rw [if_pos h2] at h;omega
    · rw [if_neg h2] at h
      by_cases h3:d < b.shut
      · rw [if_pos h3] at h;omega
      · exact ⟨h1,by omega,by omega,h3⟩
  · rw [if_pos h1] at h;exact absurd h h1
theorem shut_no (A:Option Addr) (n c:Nat) (X:Option Addr) (m k:Nat) (b:Bok) (day:Int) (w:World) (hb:Bq w A n c X m k b) (hc:shutc b day≠0) :
    Calls Tryz.prog 74 #[bv A n c X m k b.shut,.int .i64 day] w (PostNo w (shutc b day)):=by
  unfold shutc at hc ⊢
  by_cases h1:bookc b=0
  · rw [if_neg (by simp [h1])] at hc ⊢
    by_cases h2:day < 0∨292193 < day
    · rw [if_pos h2];exact shut_bad2 A n c X m k b day w hb h1 h2
    · rw [if_neg h2] at hc ⊢
      by_cases h3:day < b.shut
      · rw [if_pos h3];exact shut_bad9 A n c X m k b day w hb h1 (by omega) (by omega) h3
      · rw [if_neg h3] at hc;exact absurd rfl hc
  · rw [if_pos h1];exact shut_bad1 A n c X m k b day w hb h1
theorem stepb_ok {b:Bok} (h:BOk b) (x:En):BOk (stepb b x):=by
  by_cases hc:postc b x=0
  · rw [stepb_yes hc];exact post_ok hc
  · rw [stepb_no hc];exact h
theorem madeb_ok {b:Bok} (h:BOk b) (es:List En):BOk (madeb b es):=by
  induction es generalizing b with
  | nil=>exact h
  | cons x xs ih=>exact ih (stepb_ok h x)
def undoE (b:Bok) (key by':ByteArray) (day:Int):En:=⟨by',day,turn (ne b.en (findE b.en key).toNat).ls⟩
def undoc (b:Bok) (key by':ByteArray) (day:Int):Int :=
  if bookc b≠0 then bookc b else if findE b.en key < 0 then 4 else if keyB by'=false then 3 else if day < 0∨292193 < day then 1 else postc b (undoE b key by' day)
theorem undoc_zero {b:Bok} {key by':ByteArray} {day:Int} (h:undoc b key by' day=0) :
    BOk b∧(∃ i:Nat,i < b.en.length∧findE b.en key=i∧(ne b.en i).key=key∧undoE b key by' day=⟨by',day,turn (ne b.en i).ls⟩)∧keyB by'=true∧0≤day∧day≤292193∧postc b (undoE b key by' day)=0:=by
  unfold undoc at h
  by_cases h1:bookc b=0
  · rw [if_neg (by simp [h1])] at h
    by_cases h2:findE b.en key < 0
    · rw [if_pos h2] at h;omega
    · rw [if_neg h2] at h
      cases h3:keyB by'
      · rw [h3,if_pos rfl] at h;omega
      · rw [h3,if_neg (by simp)] at h
        by_cases h4:day < 0∨292193 < day
        · rw [if_pos h4] at h;omega
        · rw [if_neg h4] at h
          refine ⟨(bookc_iff b).1 h1,?_,rfl,by omega,by omega,h⟩
          rcases findE_cases b.en key with ⟨e,_⟩ | ⟨i,hi,e,hk⟩
          · rw [e] at h2;omega
          · refine ⟨i,hi,e,by rw [ne_eq _ _ hi];exact hk,?_⟩
            unfold undoE
            rw [e,show ((i:Int)).toNat=i by omega]
  · rw [if_pos h1] at h;exact absurd h h1
set_option maxRecDepth 100000 in
set_option maxHeartbeats 1600000 in
theorem undo_g (A:Option Addr) (n c:Nat) (X:Option Addr) (m k:Nat) (sh:Int) (key by':ByteArray) (day:Int) (w:World) (r:Int) (hr:r≠0)
    (hG:∀ w',Mor w w'→Calls Tryz.prog 129 #[bv A n c X m k sh,.string key] w' (GetNo w' r)) :
    Calls Tryz.prog 78 #[bv A n c X m k sh,.string key,.string by',.int .i64 day] w (PostNo w r):=by
  have HG:=Lib.hid hG
  have hrb:(r != 0)=true:=by simpa using hr
  clear hG hr
  go_enter Tryz.func78,Tryz.ntmps78
  go_wp2_with fail
  have hM0:=((Mor.refl w).alloc (o:=.cells #[.slice A n c,.slice X m k,.int .i64 sh] 37)).alloc (o:=.cells #[.slice none 0 0,.slice none 0 0,.int .i64 0] 37)
  have hP0:=(Bk.new w 37 #[.slice A n c,.slice X m k,.int .i64 sh]).alloc (.cells #[.slice none 0 0,.slice none 0 0,.int .i64 0] 37)
  have hR0:=Bk.new (w.alloc (.cells #[.slice A n c,.slice X m k,.int .i64 sh] 37)) 37 #[.slice none 0 0,.slice none 0 0,.int .i64 0]
  rw [← sz1] at hR0
  obtain ⟨bP,hgP⟩:∃ g,g=w.heap.size:=⟨_,rfl⟩
  rw [← hgP] at hP0 hR0 ⊢
  obtain ⟨bR,hgR⟩:∃ g,g=bP+1:=⟨_,rfl⟩
  rw [← hgR] at hR0 ⊢
  have hwR:w.heap.size≤bR:=by omega
  clear hgP hgR
  generalize (w.alloc (.cells #[.slice A n c,.slice X m k,.int .i64 sh] 37)).alloc (.cells #[.slice none 0 0,.slice none 0 0,.int .i64 0] 37)=w0 at *
  have HP:=Lib.hid (fun w' (h:Mor w0 w')=>hP0.mor h)
  have HR:=Lib.hid (fun w' (h:Mor w0 w')=>hR0.mor h)
  have HM0:=Lib.hid hM0
  clear hP0 hR0 hM0
  have hp:=HP.out _ (Mor.refl _)
  have c0:=hp.cell 0
  have c1:=hp.cell 1
  have c2:=hp.cell 2
  have cl:=hp.lt
  simp at c0 c1 c2
  clear hp
  refine (HG.out _ HM0.out).mono ?_
  rintro e w1 ⟨rfl,hm⟩
  have HMw:=Lib.hid (HM0.out.trans' hm)
  have hr:=HR.out _ hm
  have z0:=hr.cell 0
  have z1:=hr.cell 1
  have z2:=hr.cell 2
  have f0:=hr.frozen 0
  have f1:=hr.frozen 1
  have f2:=hr.frozen 2
  have rl:=hr.lt
  simp at z0 z1 z2
  have HRb:=Lib.hid hr
  clear hr
  clear hm c0 c1 c2 cl
  go_wp2_with fail
  have hb9:=((HRb.out.set_ 0 (.slice none 0 0)).set_ 1 (.slice none 0 0)).set_ 2 (.int .i64 0)
  simp only [List.setIfInBounds_toArray,List.set_cons_zero,List.set_cons_succ] at hb9
  have hm9:=((HMw.out.setC (i:=0) (u:=.slice none 0 0) hwR).setC (i:=1) (u:=.slice none 0 0) hwR).setC (i:=2) (u:=.int .i64 0) hwR
  have hb9:=hb9.alloc (.cells #[.string { data:=#[] },.int .i64 0,.slice none 0 0] 111)
  have hm9:=hm9.alloc (o:=.cells #[.string { data:=#[] },.int .i64 0,.slice none 0 0] 111)
  generalize (((w1.setCell ⟨bR,0,none⟩ (.slice none 0 0)).setCell ⟨bR,1,none⟩ (.slice none 0 0)).setCell ⟨bR,2,none⟩ (.int .i64 0)).alloc (.cells #[.string { data:=#[] },.int .i64 0,.slice none 0 0] 111)=w9 at *
  have q0:=hb9.cell 0
  have q1:=hb9.cell 1
  have q2:=hb9.cell 2
  simp at q0 q1 q2
  refine bodyPost_ret (by simp [results,Tryz.results78,go_sem,q0,q1,q2];try rfl) rfl ?_
  exact ⟨rfl,hm9⟩
set_option maxRecDepth 100000 in
set_option maxHeartbeats 1600000 in
theorem undo_t (A:Option Addr) (n c:Nat) (X:Option Addr) (m k:Nat) (sh:Int) (key by':ByteArray) (day:Int) (w:World) (x:En) (r:Int) (hr:r≠0)
    (hG:∀ w',Mor w w'→Calls Tryz.prog 129 #[bv A n c X m k sh,.string key] w' (GetYes w' x))
    (hT:∀ w' A n c,Lq w' A n c x.ls→Calls Tryz.prog 130 #[.agg #[.string x.key,.int .i64 x.day,.slice A n c],.string by',.int .i64 day] w' fun e w''=>e=.returned (.tuple #[.agg #[.string { data:=#[] },.int .i64 0,.slice none 0 0],.int .i64 r])∧Mor w' w'') :
    Calls Tryz.prog 78 #[bv A n c X m k sh,.string key,.string by',.int .i64 day] w (PostNo w r):=by
  have HG:=Lib.hid hG
  have HT:=Lib.hid hT
  have hrb:(r != 0)=true:=by simpa using hr
  clear hG hr hT
  go_enter Tryz.func78,Tryz.ntmps78
  go_wp2_with fail
  have hM0:=((Mor.refl w).alloc (o:=.cells #[.slice A n c,.slice X m k,.int .i64 sh] 37)).alloc (o:=.cells #[.slice none 0 0,.slice none 0 0,.int .i64 0] 37)
  have hP0:=(Bk.new w 37 #[.slice A n c,.slice X m k,.int .i64 sh]).alloc (.cells #[.slice none 0 0,.slice none 0 0,.int .i64 0] 37)
  have hR0:=Bk.new (w.alloc (.cells #[.slice A n c,.slice X m k,.int .i64 sh] 37)) 37 #[.slice none 0 0,.slice none 0 0,.int .i64 0]
  rw [← sz1] at hR0
  obtain ⟨bP,hgP⟩:∃ g,g=w.heap.size:=⟨_,rfl⟩
  rw [← hgP] at hP0 hR0 ⊢
  obtain ⟨bR,hgR⟩:∃ g,g=bP+1:=⟨_,rfl⟩
  rw [← hgR] at hR0 ⊢
  have hwR:w.heap.size≤bR:=by omega
  clear hgP hgR
  generalize (w.alloc (.cells #[.slice A n c,.slice X m k,.int .i64 sh] 37)).alloc (.cells #[.slice none 0 0,.slice none 0 0,.int .i64 0] 37)=w0 at *
  have HP:=Lib.hid (fun w' (h:Mor w0 w')=>hP0.mor h)
  have HR:=Lib.hid (fun w' (h:Mor w0 w')=>hR0.mor h)
  have HM0:=Lib.hid hM0
  clear hP0 hR0 hM0
  have hp:=HP.out _ (Mor.refl _)
  have c0:=hp.cell 0
  have c1:=hp.cell 1
  have c2:=hp.cell 2
  have cl:=hp.lt
  simp at c0 c1 c2
  clear hp
  refine (HG.out _ HM0.out).mono ?_
  rintro e w1 ⟨A1,n1,cc1,rfl,ho1,hm⟩
  have hl1:Lq w1 A1 n1 cc1 x.ls:=ho1.lq
  have HM01:=Lib.hid (hm.alloc (o:=.cells #[.string x.key,.int .i64 x.day,.slice A1 n1 cc1] 111))
  have HL1:=Lib.hid (hl1.mor ((Mor.refl w1).alloc (o:=.cells #[.string x.key,.int .i64 x.day,.slice A1 n1 cc1] 111)))
  clear hl1 ho1 hm c0 c1 c2 cl
  go_wp2_with fail
  refine (HT.out _ _ _ _ HL1.out).mono ?_
  rintro e w2 ⟨rfl,hm⟩
  have HMw:=Lib.hid ((HM0.out.trans' HM01.out).trans' hm)
  have hr:=HR.out _ (HM01.out.trans' hm)
  have z0:=hr.cell 0
  have z1:=hr.cell 1
  have z2:=hr.cell 2
  have f0:=hr.frozen 0
  have f1:=hr.frozen 1
  have f2:=hr.frozen 2
  have rl:=hr.lt
  simp at z0 z1 z2
  have HRb:=Lib.hid hr
  clear hr
  clear hm HL1
  go_wp2_with fail
  have hb9:=((HRb.out.set_ 0 (.slice none 0 0)).set_ 1 (.slice none 0 0)).set_ 2 (.int .i64 0)
  simp only [List.setIfInBounds_toArray,List.set_cons_zero,List.set_cons_succ] at hb9
  have hm9:=((HMw.out.setC (i:=0) (u:=.slice none 0 0) hwR).setC (i:=1) (u:=.slice none 0 0) hwR).setC (i:=2) (u:=.int .i64 0) hwR
  have hb9:=hb9.alloc (.cells #[.string { data:=#[] },.int .i64 0,.slice none 0 0] 111)
  have hm9:=hm9.alloc (o:=.cells #[.string { data:=#[] },.int .i64 0,.slice none 0 0] 111)
  generalize (((w2.setCell ⟨bR,0,none⟩ (.slice none 0 0)).setCell ⟨bR,1,none⟩ (.slice none 0 0)).setCell ⟨bR,2,none⟩ (.int .i64 0)).alloc (.cells #[.string { data:=#[] },.int .i64 0,.slice none 0 0] 111)=w9 at *
  have q0:=hb9.cell 0
  have q1:=hb9.cell 1
  have q2:=hb9.cell 2
  simp at q0 q1 q2
  refine bodyPost_ret (by simp [results,Tryz.results78,go_sem,q0,q1,q2];try rfl) rfl ?_
  exact ⟨rfl,hm9⟩
set_option maxRecDepth 100000 in
set_option maxHeartbeats 1600000 in
theorem undo_pn (A:Option Addr) (n c:Nat) (X:Option Addr) (m k:Nat) (sh:Int) (key by':ByteArray) (day:Int) (w:World) (x:En) (r:Int)
    (hG:∀ w',Mor w w'→Calls Tryz.prog 129 #[bv A n c X m k sh,.string key] w' (GetYes w' x))
    (hT:∀ w' A n c,Lq w' A n c x.ls→Calls Tryz.prog 130 #[.agg #[.string x.key,.int .i64 x.day,.slice A n c],.string by',.int .i64 day] w' fun e w''=>∃ A n c,e=.returned (.tuple #[.agg #[.string by',.int .i64 day,.slice A n c],.int .i64 0])∧Lq w'' A n c (turn x.ls)∧Mor w' w'')
    (hP:∀ w' B p q,Mor w w'→Lq w' B p q (turn x.ls)→Calls Tryz.prog 72 #[bv A n c X m k sh,.agg #[.string by',.int .i64 day,.slice B p q]] w' (PostNo w' r)) :
    Calls Tryz.prog 78 #[bv A n c X m k sh,.string key,.string by',.int .i64 day] w (PostNo w r):=by
  have HG:=Lib.hid hG
  have HT:=Lib.hid hT
  have HPo:=Lib.hid hP
  clear hG hT hP
  go_enter Tryz.func78,Tryz.ntmps78
  go_wp2_with fail
  have hM0:=((Mor.refl w).alloc (o:=.cells #[.slice A n c,.slice X m k,.int .i64 sh] 37)).alloc (o:=.cells #[.slice none 0 0,.slice none 0 0,.int .i64 0] 37)
  have hP0:=(Bk.new w 37 #[.slice A n c,.slice X m k,.int .i64 sh]).alloc (.cells #[.slice none 0 0,.slice none 0 0,.int .i64 0] 37)
  have hR0:=Bk.new (w.alloc (.cells #[.slice A n c,.slice X m k,.int .i64 sh] 37)) 37 #[.slice none 0 0,.slice none 0 0,.int .i64 0]
  rw [← sz1] at hR0
  obtain ⟨bP,hgP⟩:∃ g,g=w.heap.size:=⟨_,rfl⟩
  rw [← hgP] at hP0 hR0 ⊢
  obtain ⟨bR,hgR⟩:∃ g,g=bP+1:=⟨_,rfl⟩
  rw [← hgR] at hR0 ⊢
  have hwR:w.heap.size≤bR:=by omega
  clear hgP hgR
  generalize (w.alloc (.cells #[.slice A n c,.slice X m k,.int .i64 sh] 37)).alloc (.cells #[.slice none 0 0,.slice none 0 0,.int .i64 0] 37)=w0 at *
  have HP:=Lib.hid (fun w' (h:Mor w0 w')=>hP0.mor h)
  have HR:=Lib.hid (fun w' (h:Mor w0 w')=>hR0.mor h)
  have HM0:=Lib.hid hM0
  clear hP0 hR0 hM0
  have hp:=HP.out _ (Mor.refl _)
  have c0:=hp.cell 0
  have c1:=hp.cell 1
  have c2:=hp.cell 2
  have cl:=hp.lt
  simp at c0 c1 c2
  clear hp
  refine (HG.out _ HM0.out).mono ?_
  rintro e w1 ⟨A1,n1,cc1,rfl,ho1,hm⟩
  have hl1:Lq w1 A1 n1 cc1 x.ls:=ho1.lq
  have HM01:=Lib.hid (hm.alloc (o:=.cells #[.string x.key,.int .i64 x.day,.slice A1 n1 cc1] 111))
  have HL1:=Lib.hid (hl1.mor ((Mor.refl w1).alloc (o:=.cells #[.string x.key,.int .i64 x.day,.slice A1 n1 cc1] 111)))
  clear hl1 ho1 hm c0 c1 c2 cl
  go_wp2_with fail
  refine (HT.out _ _ _ _ HL1.out).mono ?_
  rintro e w2 ⟨A2,n2,cc2,rfl,hl2,hm⟩
  have HM02:=Lib.hid ((HM01.out.trans' hm).alloc (o:=.cells #[.string by',.int .i64 day,.slice A2 n2 cc2] 111))
  have HL2:=Lib.hid (hl2.mor ((Mor.refl w2).alloc (o:=.cells #[.string by',.int .i64 day,.slice A2 n2 cc2] 111)))
  have hp:=HP.out _ (HM01.out.trans' hm)
  have c0:=hp.cell 0
  have c1:=hp.cell 1
  have c2:=hp.cell 2
  have cl:=hp.lt
  simp at c0 c1 c2
  clear hp
  clear hl2 hm HL1
  go_wp2_with fail
  refine (HPo.out _ _ _ _ (HM0.out.trans' HM02.out) HL2.out).mono ?_
  rintro e w3 ⟨rfl,hm⟩
  have HMw:=Lib.hid ((HM0.out.trans' HM02.out).trans' hm)
  have hr:=HR.out _ (HM02.out.trans' hm)
  have z0:=hr.cell 0
  have z1:=hr.cell 1
  have z2:=hr.cell 2
  have f0:=hr.frozen 0
  have f1:=hr.frozen 1
  have f2:=hr.frozen 2
  have rl:=hr.lt
  simp at z0 z1 z2
  have HRb:=Lib.hid hr
  clear hr
  clear hm HL2 c0 c1 c2 cl
  go_wp2_with fail
  have hb9:=((HRb.out.set_ 0 (.slice none 0 0)).set_ 1 (.slice none 0 0)).set_ 2 (.int .i64 0)
  simp only [List.setIfInBounds_toArray,List.set_cons_zero,List.set_cons_succ] at hb9
  have hm9:=((HMw.out.setC (i:=0) (u:=.slice none 0 0) hwR).setC (i:=1) (u:=.slice none 0 0) hwR).setC (i:=2) (u:=.int .i64 0) hwR
  generalize ((w3.setCell ⟨bR,0,none⟩ (.slice none 0 0)).setCell ⟨bR,1,none⟩ (.slice none 0 0)).setCell ⟨bR,2,none⟩ (.int .i64 0)=w9 at *
  have q0:=hb9.cell 0
  have q1:=hb9.cell 1
  have q2:=hb9.cell 2
  simp at q0 q1 q2
  refine bodyPost_ret (by simp [results,Tryz.results78,go_sem,q0,q1,q2];try rfl) rfl ?_
  exact ⟨rfl,hm9⟩
set_option maxRecDepth 100000 in
set_option maxHeartbeats 1600000 in
theorem undo_py (A:Option Addr) (n c:Nat) (X:Option Addr) (m k:Nat) (sh:Int) (key by':ByteArray) (day:Int) (w:World) (x:En) (y:Bok)
    (hG:∀ w',Mor w w'→Calls Tryz.prog 129 #[bv A n c X m k sh,.string key] w' (GetYes w' x))
    (hT:∀ w' A n c,Lq w' A n c x.ls→Calls Tryz.prog 130 #[.agg #[.string x.key,.int .i64 x.day,.slice A n c],.string by',.int .i64 day] w' fun e w''=>∃ A n c,e=.returned (.tuple #[.agg #[.string by',.int .i64 day,.slice A n c],.int .i64 0])∧Lq w'' A n c (turn x.ls)∧Mor w' w'')
    (hP:∀ w' B p q,Mor w w'→Lq w' B p q (turn x.ls)→Calls Tryz.prog 72 #[bv A n c X m k sh,.agg #[.string by',.int .i64 day,.slice B p q]] w' (PostYes w' y)) :
    Calls Tryz.prog 78 #[bv A n c X m k sh,.string key,.string by',.int .i64 day] w (PostYes w y):=by
  have HG:=Lib.hid hG
  have HT:=Lib.hid hT
  have HPo:=Lib.hid hP
  clear hG hT hP
  go_enter Tryz.func78,Tryz.ntmps78
  go_wp2_with fail
  have hM0:=((Mor.refl w).alloc (o:=.cells #[.slice A n c,.slice X m k,.int .i64 sh] 37)).alloc (o:=.cells #[.slice none 0 0,.slice none 0 0,.int .i64 0] 37)
  have hP0:=(Bk.new w 37 #[.slice A n c,.slice X m k,.int .i64 sh]).alloc (.cells #[.slice none 0 0,.slice none 0 0,.int .i64 0] 37)
  have hR0:=Bk.new (w.alloc (.cells #[.slice A n c,.slice X m k,.int .i64 sh] 37)) 37 #[.slice none 0 0,.slice none 0 0,.int .i64 0]
  rw [← sz1] at hR0
  obtain ⟨bP,hgP⟩:∃ g,g=w.heap.size:=⟨_,rfl⟩
  rw [← hgP] at hP0 hR0 ⊢
  obtain ⟨bR,hgR⟩:∃ g,g=bP+1:=⟨_,rfl⟩
  rw [← hgR] at hR0 ⊢
  have hwR:w.heap.size≤bR:=by omega
  clear hgP hgR
  generalize (w.alloc (.cells #[.slice A n c,.slice X m k,.int .i64 sh] 37)).alloc (.cells #[.slice none 0 0,.slice none 0 0,.int .i64 0] 37)=w0 at *
  have HP:=Lib.hid (fun w' (h:Mor w0 w')=>hP0.mor h)
  have HR:=Lib.hid (fun w' (h:Mor w0 w')=>hR0.mor h)
  have HM0:=Lib.hid hM0
  clear hP0 hR0 hM0
  have hp:=HP.out _ (Mor.refl _)
  have c0:=hp.cell 0
  have c1:=hp.cell 1
  have c2:=hp.cell 2
  have cl:=hp.lt
  simp at c0 c1 c2
  clear hp
  refine (HG.out _ HM0.out).mono ?_
  rintro e w1 ⟨A1,n1,cc1,rfl,ho1,hm⟩
  have hl1:Lq w1 A1 n1 cc1 x.ls:=ho1.lq
  have HM01:=Lib.hid (hm.alloc (o:=.cells #[.string x.key,.int .i64 x.day,.slice A1 n1 cc1] 111))
  have HL1:=Lib.hid (hl1.mor ((Mor.refl w1).alloc (o:=.cells #[.string x.key,.int .i64 x.day,.slice A1 n1 cc1] 111)))
  clear hl1 ho1 hm c0 c1 c2 cl
  go_wp2_with fail
  refine (HT.out _ _ _ _ HL1.out).mono ?_
  rintro e w2 ⟨A2,n2,cc2,rfl,hl2,hm⟩
  have HM02:=Lib.hid ((HM01.out.trans' hm).alloc (o:=.cells #[.string by',.int .i64 day,.slice A2 n2 cc2] 111))
  have HL2:=Lib.hid (hl2.mor ((Mor.refl w2).alloc (o:=.cells #[.string by',.int .i64 day,.slice A2 n2 cc2] 111)))
  have hp:=HP.out _ (HM01.out.trans' hm)
  have c0:=hp.cell 0
  have c1:=hp.cell 1
  have c2:=hp.cell 2
  have cl:=hp.lt
  simp at c0 c1 c2
  clear hp
  clear hl2 hm HL1
  go_wp2_with fail
  refine (HPo.out _ _ _ _ (HM0.out.trans' HM02.out) HL2.out).mono ?_
  rintro e w3 ⟨A3,n3,cc3,X3,m3,k3,rfl,ho3,hm⟩
  have HO3:=Lib.hid ho3
  have HMw:=Lib.hid ((HM0.out.trans' HM02.out).trans' hm)
  have HSz:=Lib.hid (show w.heap.size≤_ from (HM0.out.trans' HM02.out).below.size)
  have hr:=HR.out _ (HM02.out.trans' hm)
  have z0:=hr.cell 0
  have z1:=hr.cell 1
  have z2:=hr.cell 2
  have f0:=hr.frozen 0
  have f1:=hr.frozen 1
  have f2:=hr.frozen 2
  have rl:=hr.lt
  simp at z0 z1 z2
  have HRb:=Lib.hid hr
  clear hr
  clear hm HL2 c0 c1 c2 cl ho3
  go_wp2_with fail
  have hb9:=((HRb.out.set_ 0 (.slice A3 n3 cc3)).set_ 1 (.slice X3 m3 k3)).set_ 2 (.int .i64 y.shut)
  simp only [List.setIfInBounds_toArray,List.set_cons_zero,List.set_cons_succ] at hb9
  have hm9:=((HMw.out.setC (i:=0) (u:=.slice A3 n3 cc3) hwR).setC (i:=1) (u:=.slice X3 m3 k3) hwR).setC (i:=2) (u:=.int .i64 y.shut) hwR
  have ho9:=(own3 (a:=.slice A3 n3 cc3) (a':=.slice X3 m3 k3) (a'':=.int .i64 y.shut) HO3.out HRb.out).base HSz.out
  generalize ((w3.setCell ⟨bR,0,none⟩ (.slice A3 n3 cc3)).setCell ⟨bR,1,none⟩ (.slice X3 m3 k3)).setCell ⟨bR,2,none⟩ (.int .i64 y.shut)=w9 at *
  have q0:=hb9.cell 0
  have q1:=hb9.cell 1
  have q2:=hb9.cell 2
  simp at q0 q1 q2
  refine bodyPost_ret (by simp [results,Tryz.results78,go_sem,q0,q1,q2];try rfl) rfl ?_
  exact ⟨A3,n3,cc3,X3,m3,k3,rfl,ho9,hm9⟩
theorem key_max {w:World} {A:Option Addr} {n c:Nat} {X:Option Addr} {m k:Nat} {b:Bok} (hb:Bq w A n c X m k b) {i:Nat} (hi:i < b.en.length):(ne b.en i).key.size≤maxLen:=by
  obtain ⟨_,_,_,_,_,_,h,_⟩:=hb.es.at_ i hi
  exact h
theorem turned_yes (x:En) (by':ByteArray) (day:Int) (hks:x.key.size≤maxLen) (hy:by'.size≤maxLen) (he:enc x=0) (hkb:keyB by'=true) (d0:0≤day) (d9:day≤292193) (w:World) (A:Option Addr) (n c:Nat) (hl:Lq w A n c x.ls) :
    Calls Tryz.prog 130 #[.agg #[.string x.key,.int .i64 x.day,.slice A n c],.string by',.int .i64 day] w fun e w'=>∃ A n c,e=.returned (.tuple #[.agg #[.string by',.int .i64 day,.slice A n c],.int .i64 0])∧Lq w' A n c (turn x.ls)∧Mor w w':=by
  obtain ⟨h12,-⟩:=en_lines he
  refine (turned_ok x.key x.day A n c x.ls by' day w hks hl.si hl.length hl.le (Nat.le_trans hl.le hl.max) hl.str hy he hkb d0 d9 (by rw [← hl.length];exact h12)).mono fun e w' h=>?_
  obtain ⟨A2,c2,h1,h2,h3⟩:=h
  exact ⟨A2,n,c2,h1,h2,h3⟩
theorem turned_bad (x:En) (by':ByteArray) (day:Int) (r:Int) (hr:r≠0) (hks:x.key.size≤maxLen) (hy:by'.size≤maxLen) (hc:turnc x.key x.day x.ls by' day=r) (w:World) (A:Option Addr) (n c:Nat) (hl:Lq w A n c x.ls) :
    Calls Tryz.prog 130 #[.agg #[.string x.key,.int .i64 x.day,.slice A n c],.string by',.int .i64 day] w fun e w'=>e=.returned (.tuple #[.agg #[.string { data:=#[] },.int .i64 0,.slice none 0 0],.int .i64 r])∧Mor w w':=by
  subst hc
  exact turned_no x.key x.day A n c x.ls by' day w hks hl.si hl.length hl.le (Nat.le_trans hl.le hl.max) hl.str hy hr
theorem undo_no (A:Option Addr) (n c:Nat) (X:Option Addr) (m k:Nat) (b:Bok) (key by':ByteArray) (day:Int) (w:World) (hb:Bq w A n c X m k b) (hy:by'.size≤maxLen) (hc:undoc b key by' day≠0) :
    Calls Tryz.prog 78 #[bv A n c X m k b.shut,.string key,.string by',.int .i64 day] w (PostNo w (undoc b key by' day)):=by
  unfold undoc at hc ⊢
  by_cases h1:bookc b=0
  · rw [if_neg (by simp [h1])] at hc ⊢
    by_cases h2:findE b.en key < 0
    · rw [if_pos h2]
      exact undo_g A n c X m k b.shut key by' day w 4 (by omega) fun w' h=>get_bad4 A n c X m k b key w' (hb.mor h) h1 h2
    · rw [if_neg h2] at hc ⊢
      have hbo:=(bookc_iff b).1 h1
      obtain ⟨i,hi,hf,hk⟩:∃ i:Nat,i < b.en.length∧findE b.en key=i∧(ne b.en i).key=key:=by
        rcases findE_cases b.en key with ⟨e,_⟩ | ⟨i,hi,e,hk⟩
        · rw [e] at h2;omega
        · exact ⟨i,hi,e,by rw [ne_eq _ _ hi];exact hk⟩
      have hG:∀ w',Mor w w'→Calls Tryz.prog 129 #[bv A n c X m k b.shut,.string key] w' (GetYes w' (ne b.en i)):=fun w' h=>get_yes A n c X m k b key w' (hb.mor h) h1 i (by rw [← hb.length];exact hi) hf
      have he:enc (ne b.en i)=0:=by rw [ne_eq _ _ hi];exact hbo.enc _ (List.getElem_mem hi)
      have hks:=key_max hb hi
      have hent:entc (ne b.en i).key (ne b.en i).day (ne b.en i).ls=0:=he
      have hu:undoE b key by' day=⟨by',day,turn (ne b.en i).ls⟩:=by unfold undoE;rw [hf,show ((i:Int)).toNat=i by omega]
      cases h3:keyB by'
      · rw [if_pos rfl]
        exact undo_t A n c X m k b.shut key by' day w (ne b.en i) 3 (by omega) hG (turned_bad _ by' day 3 (by omega) hks hy (by unfold turnc;rw [if_neg (by simp [hent]),if_pos h3]))
      · rw [h3] at hc
        rw [if_neg (by simp)] at hc ⊢
        by_cases h4:day < 0∨292193 < day
        · rw [if_pos h4]
          exact undo_t A n c X m k b.shut key by' day w (ne b.en i) 1 (by omega) hG (turned_bad _ by' day 1 (by omega) hks hy (by unfold turnc;rw [if_neg (by simp [hent]),if_neg (by simp [h3]),if_pos h4]))
        · rw [if_neg h4] at hc ⊢
          rw [hu] at hc ⊢
          exact undo_pn A n c X m k b.shut key by' day w (ne b.en i) _ hG (turned_yes _ by' day hks hy he h3 (by omega) (by omega)) fun w' B p q h hl=>post_no A n c X m k b ⟨by',day,turn (ne b.en i).ls⟩ B p q w' (hb.mor h) hl hy hc
  · rw [if_pos h1]
    exact undo_g A n c X m k b.shut key by' day w _ h1 fun w' h=>get_bad1 A n c X m k b key w' (hb.mor h) h1
theorem undo_yes (A:Option Addr) (n c:Nat) (X:Option Addr) (m k:Nat) (b:Bok) (key by':ByteArray) (day:Int) (w:World) (hb:Bq w A n c X m k b) (hy:by'.size≤maxLen) (hc:undoc b key by' day=0) :
    Calls Tryz.prog 78 #[bv A n c X m k b.shut,.string key,.string by',.int .i64 day] w (PostYes w (postb b (undoE b key by' day))):=by
  obtain ⟨hbo,⟨i,hi,hf,hk,hu⟩,h3,d0,d9,hp⟩:=undoc_zero hc
  have h1:=(bookc_iff b).2 hbo
  have he:enc (ne b.en i)=0:=by rw [ne_eq _ _ hi];exact hbo.enc _ (List.getElem_mem hi)
  have hks:=key_max hb hi
  rw [hu] at hp ⊢
  exact undo_py A n c X m k b.shut key by' day w (ne b.en i) _ (fun w' h=>get_yes A n c X m k b key w' (hb.mor h) h1 i (by rw [← hb.length];exact hi) hf) (turned_yes _ by' day hks hy he h3 d0 d9) fun w' B p q h hl=>post_yes A n c X m k b ⟨by',day,turn (ne b.en i).ls⟩ B p q w' (hb.mor h) hl hy hp
def zeroB:Bok:=⟨[],[],0⟩
theorem own_zero (w:World) (base:Nat):OwnB w base (.slice none 0 0) (.slice none 0 0) 0 0 zeroB :=
  ⟨World.ownsRow_nil _ _ _ _,rfl,fun i hi=>absurd hi (Nat.not_lt_zero _),[],World.ownsRow_nil _ _ _ _,rfl,rfl,fun i hi=>absurd hi (Nat.not_lt_zero _)⟩
def PostAny (w:World) (y:Bok) (r:Int) (e:Ending) (w':World):Prop :=
  ∃ A n c X m k,e=.returned (.tuple #[bv A n c X m k y.shut,.int .i64 r])∧OwnB w' w.heap.size (.slice A n c) (.slice X m k) n m y∧Mor w w'
theorem any_no {w w':World} {r:Int} {e:Ending} (h:PostNo w r e w'):PostAny w zeroB r e w' :=
  ⟨none,0,0,none,0,0,h.1,own_zero _ _,h.2⟩
theorem any_yes {w w':World} {y:Bok} {e:Ending} (h:PostYes w y e w'):PostAny w y 0 e w':=h
def undob (b:Bok) (key by':ByteArray) (day:Int):Bok:=if undoc b key by' day=0 then postb b (undoE b key by' day) else zeroB
theorem undo_any (A:Option Addr) (n c:Nat) (X:Option Addr) (m k:Nat) (b:Bok) (key by':ByteArray) (day:Int) (w:World) (hb:Bq w A n c X m k b) (hy:by'.size≤maxLen) :
    Calls Tryz.prog 78 #[bv A n c X m k b.shut,.string key,.string by',.int .i64 day] w (PostAny w (undob b key by' day) (undoc b key by' day)):=by
  unfold undob
  by_cases hc:undoc b key by' day=0
  · rw [if_pos hc,hc]
    exact (undo_yes A n c X m k b key by' day w hb hy hc).mono fun e w' h=>any_yes h
  · rw [if_neg hc]
    exact (undo_no A n c X m k b key by' day w hb hy hc).mono fun e w' h=>any_no h
def earns (a:Ln):Prop:=a.2=3∨a.2=4
instance (a : Ln) : Decidable (earns a) := by unfold earns; infer_instance
def clf (b:Bok) (day:Int) (a:Ln):List Ln:=if ofS b.en a.1 0 day≠0∧earns a then [(a.1,-ofS b.en a.1 0 day)] else []
def clg (b:Bok) (day:Int) (a:Ln):Int:=if earns a then ofS b.en a.1 0 day else 0
def cll (b:Bok) (day:Int) (acs:List Ln):List Ln:=acs.flatMap (clf b day)
def cls (b:Bok) (day:Int) (acs:List Ln):Int:=sm (clg b day) acs
def closeE (b:Bok) (key:ByteArray) (day:Int) (code:ByteArray):En:=⟨key,day,cll b day b.ac++if cls b day b.ac≠0 then [(code,cls b day b.ac)] else []⟩
def closec (b:Bok) (key:ByteArray) (day:Int) (code:ByteArray):Int :=
  if bookc b≠0 then bookc b else if day < 0∨292193 < day then 1 else if findA b.ac code < 0 then 4 else if am b.ac (findA b.ac code).toNat≠2 then 3 else
  if cll b day b.ac=[] then 4 else if postc b (closeE b key day code)≠0 then postc b (closeE b key day code) else shutc (postb b (closeE b key day code)) day
def closeb (b:Bok) (key:ByteArray) (day:Int) (code:ByteArray):Bok:=if closec b key day code=0 then shutb (postb b (closeE b key day code)) day else zeroB
theorem findA_cases (ac:List Ln) (s:ByteArray):findA ac s < 0∨∃ i:Nat,i < ac.length∧findA ac s=i∧cd ac i=s:=by
  unfold findA
  rcases fidx_spec (fun i=>decide (cd ac i=s)) ac.length 0 with ⟨e,hn⟩ | ⟨k,e,h1,h2,h3,h4⟩
  · left;rw [e];omega
  · right;exact ⟨k,by omega,e,by simpa using h3⟩
theorem closec_zero {b:Bok} {key:ByteArray} {day:Int} {code:ByteArray} (h:closec b key day code=0) :
    BOk b∧0≤day∧day≤292193∧(∃ i:Nat,i < b.ac.length∧findA b.ac code=i∧cd b.ac i=code∧am b.ac i=2)∧cll b day b.ac≠[]∧postc b (closeE b key day code)=0∧shutc (postb b (closeE b key day code)) day=0:=by
  unfold closec at h
  by_cases h1:bookc b=0
  · rw [if_neg (by simp [h1])] at h
    by_cases h2:day < 0∨292193 < day
    · rw [if_pos h2] at h;omega
    · rw [if_neg h2] at h
      rcases findA_cases b.ac code with h3 | ⟨i,hi,h3,h4⟩
      · rw [if_pos h3] at h;omega
      · rw [if_neg (by omega),h3,show ((i:Int)).toNat=i by omega] at h
        by_cases h5:am b.ac i=2
        · rw [if_neg (by simp [h5])] at h
          by_cases h6:cll b day b.ac=[]
          · rw [if_pos h6] at h;omega
          · rw [if_neg h6] at h
            by_cases h7:postc b (closeE b key day code)=0
            · rw [if_neg (by simp [h7])] at h
              exact ⟨(bookc_iff b).1 h1,by omega,by omega,⟨i,hi,h3,h4,h5⟩,h6,h7,h⟩
            · rw [if_pos h7] at h;exact absurd h h7
        · rw [if_pos h5] at h;omega
  · rw [if_pos h1] at h;exact absurd h h1
theorem cll_take (b:Bok) (day:Int) (ac:List Ln) (k:Nat) (h:k < ac.length):cll b day (ac.take (k+1))=cll b day (ac.take k)++clf b day ac[k]:=by
  unfold cll
  rw [List.take_succ_eq_append_getElem h,List.flatMap_append]
  simp
theorem cls_take (b:Bok) (day:Int) (ac:List Ln) (k:Nat) (h:k < ac.length):cls b day (ac.take (k+1))=cls b day (ac.take k)+clg b day ac[k]:=by
  unfold cls;rw [sm_take _ _ _ h]
theorem cll_len (b:Bok) (day:Int) (ac:List Ln):(cll b day ac).length≤ac.length:=by
  induction ac with
  | nil=>exact Nat.le_refl _
  | cons a ac ih =>
    show (clf b day a++cll b day ac).length≤(a :: ac).length
    rw [List.length_append,List.length_cons]
    have:(clf b day a).length≤1:=by unfold clf;split <;> simp
    omega
theorem cll_mem {b:Bok} {day:Int} {ac:List Ln} {l:Ln} (h:l∈cll b day ac):∃ a∈ac,earns a∧l=(a.1,-ofS b.en a.1 0 day):=by
  unfold cll at h
  obtain ⟨a,ha,hl⟩:=List.mem_flatMap.1 h
  unfold clf at hl
  by_cases hc:ofS b.en a.1 0 day≠0∧earns a
  · rw [if_pos hc] at hl;exact ⟨a,ha,hc.2,List.mem_singleton.1 hl⟩
  · rw [if_neg hc] at hl;cases hl
set_option maxHeartbeats 1600000 in
theorem kind_no (A:Option Addr) (n c:Nat) (ac:List Ln) (s:ByteArray) (w:World) (hl:Lq w A n c ac) (ha:acc ac=0) (hf:findA ac s < 0) :
    Calls Tryz.prog 127 #[.slice A n c,.string s] w fun e w'=>e=.returned (.tuple #[.int .i64 0,.int .i64 4])∧Mor w w':=by
  have hn24:n≤24:=by rw [← hl.length];exact (acc_ok ha).1
  have HC:=Lib.hid (fun w' (h:Mor w w')=>acct_any A n c ac w' (hl.si.mor h) hl.length (Nat.le_trans hl.le hl.max) hl.str)
  have HF:=Lib.hid (fun w' (h:Mor w w')=>find_ac A n c ac s w' (hl.si.mor h) hl.length (by omega))
  rw [ha] at HC
  generalize findA ac s=i at *
  clear hl ha
  go_enter Tryz.func127,Tryz.ntmps127
  go_wp2_with fail
  refine (HC.out _ (Mor.refl _)).mono ?_
  rintro e w1 ⟨rfl,hm⟩
  have HM1:=Lib.hid hm
  clear hm
  go_wp2_with fail
  refine (HF.out _ HM1.out).mono ?_
  rintro e w2 ⟨rfl,hm⟩
  have HM2:=Lib.hid (HM1.out.trans' hm)
  clear hm
  go_wp2_with fail
  go_returns
  exact ⟨rfl,HM2.out⟩
set_option maxHeartbeats 1600000 in
theorem kind_yes (A:Option Addr) (n c:Nat) (ac:List Ln) (s:ByteArray) (w:World) (hl:Lq w A n c ac) (ha:acc ac=0) (i:Nat) (hi:i < ac.length) (hf:findA ac s=i) :
    Calls Tryz.prog 127 #[.slice A n c,.string s] w fun e w'=>e=.returned (.tuple #[.int .i64 (am ac i),.int .i64 0])∧Mor w w':=by
  have hn24:n≤24:=by rw [← hl.length];exact (acc_ok ha).1
  have HC:=Lib.hid (fun w' (h:Mor w w')=>acct_any A n c ac w' (hl.si.mor h) hl.length (Nat.le_trans hl.le hl.max) hl.str)
  have HF:=Lib.hid (fun w' (h:Mor w w')=>find_ac A n c ac s w' (hl.si.mor h) hl.length (by omega))
  rw [ha] at HC
  rw [hf] at HF
  have hin:(i:Int) < (n:Int):=by rw [hl.length] at hi;omega
  have hi0:(0:Int)≤(i:Int):=by omega
  have HL:=Lib.hid (fun w' (h:Mor w w')=>(hl.si.mor h).at_ i hi)
  clear hl ha hf
  go_enter Tryz.func127,Tryz.ntmps127
  go_wp2_with fail
  refine (HC.out _ (Mor.refl _)).mono ?_
  rintro e w1 ⟨rfl,hm⟩
  have HM1:=Lib.hid hm
  clear hm
  go_wp2_with fail
  refine (HF.out _ HM1.out).mono ?_
  rintro e w2 ⟨rfl,hm⟩
  have HM2:=Lib.hid (HM1.out.trans' hm)
  obtain ⟨x,hA,hxb,d0,d1⟩:=HL.out _ HM2.out
  subst hA
  clear hm
  go_wp2_with fail
  go_returns
  exact ⟨rfl,HM2.out⟩
set_option maxRecDepth 100000 in
set_option maxHeartbeats 3200000 in
theorem close_1 (A:Option Addr) (n c:Nat) (X:Option Addr) (m k:Nat) (b:Bok) (key:ByteArray) (day:Int) (code:ByteArray) (w:World) (hb:Bq w A n c X m k b) (hc:bookc b≠0) :
    Calls Tryz.prog 76 #[bv A n c X m k b.shut,.string key,.int .i64 day,.string code] w (PostNo w (bookc b)):=by
  have HCk:=Lib.hid (fun w' (hm:Mor w w')=>bcheck_any A n c X m k b w' (hb.mor hm))
  generalize bookc b=r at *
  generalize b.shut=sh at *
  have hrb:(r != 0)=true:=by simpa using hc
  clear hb hc
  go_enter Tryz.func76,Tryz.ntmps76
  go_wp2_with fail
  have hM0:=((Mor.refl w).alloc (o:=.cells #[.slice A n c,.slice X m k,.int .i64 sh] 37)).alloc (o:=.cells #[.slice none 0 0,.slice none 0 0,.int .i64 0] 37)
  have hP0:=(Bk.new w 37 #[.slice A n c,.slice X m k,.int .i64 sh]).alloc (.cells #[.slice none 0 0,.slice none 0 0,.int .i64 0] 37)
  have hR0:=Bk.new (w.alloc (.cells #[.slice A n c,.slice X m k,.int .i64 sh] 37)) 37 #[.slice none 0 0,.slice none 0 0,.int .i64 0]
  rw [← sz1] at hR0
  obtain ⟨bP,hgP⟩:∃ g,g=w.heap.size:=⟨_,rfl⟩
  rw [← hgP] at hP0 hR0 ⊢
  obtain ⟨bR,hgR⟩:∃ g,g=bP+1:=⟨_,rfl⟩
  rw [← hgR] at hR0 ⊢
  have hwR:w.heap.size≤bR:=by omega
  have hPR:bP < bR:=by omega
  clear hgP hgR
  generalize (w.alloc (.cells #[.slice A n c,.slice X m k,.int .i64 sh] 37)).alloc (.cells #[.slice none 0 0,.slice none 0 0,.int .i64 0] 37)=w0 at *
  have HP:=Lib.hid (fun w' (h:Mor w0 w')=>hP0.mor h)
  have HR:=Lib.hid (fun w' (h:Mor w0 w')=>hR0.mor h)
  have HM0:=Lib.hid hM0
  clear hP0 hR0 hM0
  have hp:=HP.out _ (Mor.refl _)
  have c0:=hp.cell 0
  have c1:=hp.cell 1
  have c2:=hp.cell 2
  have cl:=hp.lt
  simp at c0 c1 c2
  clear hp
  refine (HCk.out _ HM0.out).mono ?_
  rintro e w1 ⟨rfl,hm⟩
  have HMw:=Lib.hid (HM0.out.trans' hm)
  have hr:=HR.out _ hm
  have z0:=hr.cell 0
  have z1:=hr.cell 1
  have z2:=hr.cell 2
  have f0:=hr.frozen 0
  have f1:=hr.frozen 1
  have f2:=hr.frozen 2
  have rl:=hr.lt
  simp at z0 z1 z2
  have HRb:=Lib.hid hr
  clear hr
  clear hm c0 c1 c2 cl
  go_wp2_with fail
  have hb9:=((HRb.out.set_ 0 (.slice none 0 0)).set_ 1 (.slice none 0 0)).set_ 2 (.int .i64 0)
  simp only [List.setIfInBounds_toArray,List.set_cons_zero,List.set_cons_succ] at hb9
  have hm9:=((HMw.out.setC (i:=0) (u:=.slice none 0 0) hwR).setC (i:=1) (u:=.slice none 0 0) hwR).setC (i:=2) (u:=.int .i64 0) hwR
  generalize ((w1.setCell ⟨bR,0,none⟩ (.slice none 0 0)).setCell ⟨bR,1,none⟩ (.slice none 0 0)).setCell ⟨bR,2,none⟩ (.int .i64 0)=w9 at *
  have q0:=hb9.cell 0
  have q1:=hb9.cell 1
  have q2:=hb9.cell 2
  simp at q0 q1 q2
  refine bodyPost_ret (by simp [results,Tryz.results76,go_sem,q0,q1,q2];try rfl) rfl ?_
  exact ⟨rfl,hm9⟩
set_option maxRecDepth 100000 in
set_option maxHeartbeats 3200000 in
theorem close_2 (A:Option Addr) (n c:Nat) (X:Option Addr) (m k:Nat) (b:Bok) (key:ByteArray) (day:Int) (code:ByteArray) (w:World) (hb:Bq w A n c X m k b) (hc:bookc b=0) (hd:day < 0∨292193 < day) :
    Calls Tryz.prog 76 #[bv A n c X m k b.shut,.string key,.int .i64 day,.string code] w (PostNo w 1):=by
  have HCk:=Lib.hid (fun w' (hm:Mor w w')=>bcheck_any A n c X m k b w' (hb.mor hm))
  rw [hc] at HCk
  have HD:=Lib.hid (fun w=>cis_any day w)
  rw [show (decide (0≤day) && decide (day≤292193))=false by simp;omega] at HD
  generalize b.shut=sh at *
  clear hb hc hd
  go_enter Tryz.func76,Tryz.ntmps76
  go_wp2_with fail
  have hM0:=((Mor.refl w).alloc (o:=.cells #[.slice A n c,.slice X m k,.int .i64 sh] 37)).alloc (o:=.cells #[.slice none 0 0,.slice none 0 0,.int .i64 0] 37)
  have hP0:=(Bk.new w 37 #[.slice A n c,.slice X m k,.int .i64 sh]).alloc (.cells #[.slice none 0 0,.slice none 0 0,.int .i64 0] 37)
  have hR0:=Bk.new (w.alloc (.cells #[.slice A n c,.slice X m k,.int .i64 sh] 37)) 37 #[.slice none 0 0,.slice none 0 0,.int .i64 0]
  rw [← sz1] at hR0
  obtain ⟨bP,hgP⟩:∃ g,g=w.heap.size:=⟨_,rfl⟩
  rw [← hgP] at hP0 hR0 ⊢
  obtain ⟨bR,hgR⟩:∃ g,g=bP+1:=⟨_,rfl⟩
  rw [← hgR] at hR0 ⊢
  have hwR:w.heap.size≤bR:=by omega
  have hPR:bP < bR:=by omega
  clear hgP hgR
  generalize (w.alloc (.cells #[.slice A n c,.slice X m k,.int .i64 sh] 37)).alloc (.cells #[.slice none 0 0,.slice none 0 0,.int .i64 0] 37)=w0 at *
  have HP:=Lib.hid (fun w' (h:Mor w0 w')=>hP0.mor h)
  have HR:=Lib.hid (fun w' (h:Mor w0 w')=>hR0.mor h)
  have HM0:=Lib.hid hM0
  clear hP0 hR0 hM0
  have hp:=HP.out _ (Mor.refl _)
  have c0:=hp.cell 0
  have c1:=hp.cell 1
  have c2:=hp.cell 2
  have cl:=hp.lt
  simp at c0 c1 c2
  clear hp
  refine (HCk.out _ HM0.out).mono ?_
  rintro e w1 ⟨rfl,hm⟩
  have HMw:=Lib.hid (HM0.out.trans' hm)
  have hr:=HR.out _ hm
  have z0:=hr.cell 0
  have z1:=hr.cell 1
  have z2:=hr.cell 2
  have f0:=hr.frozen 0
  have f1:=hr.frozen 1
  have f2:=hr.frozen 2
  have rl:=hr.lt
  simp at z0 z1 z2
  have HRb:=Lib.hid hr
  clear hr
  clear hm c0 c1 c2 cl
  go_wp2_with (go_at_call 93;(with_reducible refine (HD.out _).mono ?_);rintro e w5 ⟨rfl,rfl⟩)
  have hb9:=((HRb.out.set_ 0 (.slice none 0 0)).set_ 1 (.slice none 0 0)).set_ 2 (.int .i64 0)
  simp only [List.setIfInBounds_toArray,List.set_cons_zero,List.set_cons_succ] at hb9
  have hm9:=((HMw.out.setC (i:=0) (u:=.slice none 0 0) hwR).setC (i:=1) (u:=.slice none 0 0) hwR).setC (i:=2) (u:=.int .i64 0) hwR
  generalize ((w1.setCell ⟨bR,0,none⟩ (.slice none 0 0)).setCell ⟨bR,1,none⟩ (.slice none 0 0)).setCell ⟨bR,2,none⟩ (.int .i64 0)=w9 at *
  have q0:=hb9.cell 0
  have q1:=hb9.cell 1
  have q2:=hb9.cell 2
  simp at q0 q1 q2
  refine bodyPost_ret (by simp [results,Tryz.results76,go_sem,q0,q1,q2];try rfl) rfl ?_
  exact ⟨rfl,hm9⟩
set_option maxRecDepth 100000 in
set_option maxHeartbeats 3200000 in
theorem close_3 (A:Option Addr) (n c:Nat) (X:Option Addr) (m k:Nat) (b:Bok) (key:ByteArray) (day:Int) (code:ByteArray) (w:World) (hb:Bq w A n c X m k b) (hc:bookc b=0) (hd:¬ (day < 0∨292193 < day)) (hf:findA b.ac code < 0) :
    Calls Tryz.prog 76 #[bv A n c X m k b.shut,.string key,.int .i64 day,.string code] w (PostNo w 4):=by
  have HCk:=Lib.hid (fun w' (hm:Mor w w')=>bcheck_any A n c X m k b w' (hb.mor hm))
  rw [hc] at HCk
  have HD:=Lib.hid (fun w=>cis_any day w)
  rw [show (decide (0≤day) && decide (day≤292193))=true by simp;omega] at HD
  have HK:=Lib.hid (fun w' (hm:Mor w w')=>kind_no A n c b.ac code w' (hb.ac.mor hm) ((bookc_iff b).1 hc).ac hf)
  generalize b.shut=sh at *
  clear hb hc hd hf
  go_enter Tryz.func76,Tryz.ntmps76
  go_wp2_with fail
  have hM0:=((Mor.refl w).alloc (o:=.cells #[.slice A n c,.slice X m k,.int .i64 sh] 37)).alloc (o:=.cells #[.slice none 0 0,.slice none 0 0,.int .i64 0] 37)
  have hP0:=(Bk.new w 37 #[.slice A n c,.slice X m k,.int .i64 sh]).alloc (.cells #[.slice none 0 0,.slice none 0 0,.int .i64 0] 37)
  have hR0:=Bk.new (w.alloc (.cells #[.slice A n c,.slice X m k,.int .i64 sh] 37)) 37 #[.slice none 0 0,.slice none 0 0,.int .i64 0]
  rw [← sz1] at hR0
  obtain ⟨bP,hgP⟩:∃ g,g=w.heap.size:=⟨_,rfl⟩
  rw [← hgP] at hP0 hR0 ⊢
  obtain ⟨bR,hgR⟩:∃ g,g=bP+1:=⟨_,rfl⟩
  rw [← hgR] at hR0 ⊢
  have hwR:w.heap.size≤bR:=by omega
  have hPR:bP < bR:=by omega
  clear hgP hgR
  generalize (w.alloc (.cells #[.slice A n c,.slice X m k,.int .i64 sh] 37)).alloc (.cells #[.slice none 0 0,.slice none 0 0,.int .i64 0] 37)=w0 at *
  have HP:=Lib.hid (fun w' (h:Mor w0 w')=>hP0.mor h)
  have HR:=Lib.hid (fun w' (h:Mor w0 w')=>hR0.mor h)
  have HM0:=Lib.hid hM0
  clear hP0 hR0 hM0
  have hp:=HP.out _ (Mor.refl _)
  have c0:=hp.cell 0
  have c1:=hp.cell 1
  have c2:=hp.cell 2
  have cl:=hp.lt
  simp at c0 c1 c2
  clear hp
  refine (HCk.out _ HM0.out).mono ?_
  rintro e w1 ⟨rfl,hm⟩
  have HM1:=Lib.hid (HM0.out.trans' hm)
  have HM01:=Lib.hid hm
  clear c0 c1 c2 cl
  have hp:=HP.out _ hm
  have c0:=hp.cell 0
  have c1:=hp.cell 1
  have c2:=hp.cell 2
  have cl:=hp.lt
  simp at c0 c1 c2
  clear hp
  clear hm
  go_wp2_with (go_at_call 93;(with_reducible refine (HD.out _).mono ?_);rintro e w5 ⟨rfl,rfl⟩)
  refine (HK.out _ HM1.out).mono ?_
  rintro e w2 ⟨rfl,hm⟩
  have HMw:=Lib.hid (HM1.out.trans' hm)
  have hr:=HR.out _ (HM01.out.trans' hm)
  have z0:=hr.cell 0
  have z1:=hr.cell 1
  have z2:=hr.cell 2
  have f0:=hr.frozen 0
  have f1:=hr.frozen 1
  have f2:=hr.frozen 2
  have rl:=hr.lt
  simp at z0 z1 z2
  have HRb:=Lib.hid hr
  clear hr
  clear hm c0 c1 c2 cl
  go_wp2_with fail
  have hb9:=((HRb.out.set_ 0 (.slice none 0 0)).set_ 1 (.slice none 0 0)).set_ 2 (.int .i64 0)
  simp only [List.setIfInBounds_toArray,List.set_cons_zero,List.set_cons_succ] at hb9
  have hm9:=((HMw.out.setC (i:=0) (u:=.slice none 0 0) hwR).setC (i:=1) (u:=.slice none 0 0) hwR).setC (i:=2) (u:=.int .i64 0) hwR
  generalize ((w2.setCell ⟨bR,0,none⟩ (.slice none 0 0)).setCell ⟨bR,1,none⟩ (.slice none 0 0)).setCell ⟨bR,2,none⟩ (.int .i64 0)=w9 at *
  have q0:=hb9.cell 0
  have q1:=hb9.cell 1
  have q2:=hb9.cell 2
  simp at q0 q1 q2
  refine bodyPost_ret (by simp [results,Tryz.results76,go_sem,q0,q1,q2];try rfl) rfl ?_
  exact ⟨rfl,hm9⟩
set_option maxRecDepth 100000 in
set_option maxHeartbeats 3200000 in
theorem close_4 (A:Option Addr) (n c:Nat) (X:Option Addr) (m k:Nat) (b:Bok) (key:ByteArray) (day:Int) (code:ByteArray) (w:World) (hb:Bq w A n c X m k b) (hc:bookc b=0) (hd:¬ (day < 0∨292193 < day)) (i:Nat) (hi:i < b.ac.length) (hf:findA b.ac code=i) (h2:am b.ac i≠2) :
    Calls Tryz.prog 76 #[bv A n c X m k b.shut,.string key,.int .i64 day,.string code] w (PostNo w 3):=by
  have HCk:=Lib.hid (fun w' (hm:Mor w w')=>bcheck_any A n c X m k b w' (hb.mor hm))
  rw [hc] at HCk
  have HD:=Lib.hid (fun w=>cis_any day w)
  rw [show (decide (0≤day) && decide (day≤292193))=true by simp;omega] at HD
  have HK:=Lib.hid (fun w' (hm:Mor w w')=>kind_yes A n c b.ac code w' (hb.ac.mor hm) ((bookc_iff b).1 hc).ac i hi hf)
  generalize b.shut=sh at *
  have h2b:(am b.ac i != 2)=true:=by simpa using h2
  generalize am b.ac i=kd at *
  clear hb hc hd hf h2
  go_enter Tryz.func76,Tryz.ntmps76
  go_wp2_with fail
  have hM0:=((Mor.refl w).alloc (o:=.cells #[.slice A n c,.slice X m k,.int .i64 sh] 37)).alloc (o:=.cells #[.slice none 0 0,.slice none 0 0,.int .i64 0] 37)
  have hP0:=(Bk.new w 37 #[.slice A n c,.slice X m k,.int .i64 sh]).alloc (.cells #[.slice none 0 0,.slice none 0 0,.int .i64 0] 37)
  have hR0:=Bk.new (w.alloc (.cells #[.slice A n c,.slice X m k,.int .i64 sh] 37)) 37 #[.slice none 0 0,.slice none 0 0,.int .i64 0]
  rw [← sz1] at hR0
  obtain ⟨bP,hgP⟩:∃ g,g=w.heap.size:=⟨_,rfl⟩
  rw [← hgP] at hP0 hR0 ⊢
  obtain ⟨bR,hgR⟩:∃ g,g=bP+1:=⟨_,rfl⟩
  rw [← hgR] at hR0 ⊢
  have hwR:w.heap.size≤bR:=by omega
  have hPR:bP < bR:=by omega
  clear hgP hgR
  generalize (w.alloc (.cells #[.slice A n c,.slice X m k,.int .i64 sh] 37)).alloc (.cells #[.slice none 0 0,.slice none 0 0,.int .i64 0] 37)=w0 at *
  have HP:=Lib.hid (fun w' (h:Mor w0 w')=>hP0.mor h)
  have HR:=Lib.hid (fun w' (h:Mor w0 w')=>hR0.mor h)
  have HM0:=Lib.hid hM0
  clear hP0 hR0 hM0
  have hp:=HP.out _ (Mor.refl _)
  have c0:=hp.cell 0
  have c1:=hp.cell 1
  have c2:=hp.cell 2
  have cl:=hp.lt
  simp at c0 c1 c2
  clear hp
  refine (HCk.out _ HM0.out).mono ?_
  rintro e w1 ⟨rfl,hm⟩
  have HM1:=Lib.hid (HM0.out.trans' hm)
  have HM01:=Lib.hid hm
  clear c0 c1 c2 cl
  have hp:=HP.out _ hm
  have c0:=hp.cell 0
  have c1:=hp.cell 1
  have c2:=hp.cell 2
  have cl:=hp.lt
  simp at c0 c1 c2
  clear hp
  clear hm
  go_wp2_with (go_at_call 93;(with_reducible refine (HD.out _).mono ?_);rintro e w5 ⟨rfl,rfl⟩)
  refine (HK.out _ HM1.out).mono ?_
  rintro e w2 ⟨rfl,hm⟩
  have HMw:=Lib.hid (HM1.out.trans' hm)
  have hr:=HR.out _ (HM01.out.trans' hm)
  have z0:=hr.cell 0
  have z1:=hr.cell 1
  have z2:=hr.cell 2
  have f0:=hr.frozen 0
  have f1:=hr.frozen 1
  have f2:=hr.frozen 2
  have rl:=hr.lt
  simp at z0 z1 z2
  have HRb:=Lib.hid hr
  clear hr
  clear hm c0 c1 c2 cl
  go_wp2_with fail
  have hb9:=((HRb.out.set_ 0 (.slice none 0 0)).set_ 1 (.slice none 0 0)).set_ 2 (.int .i64 0)
  simp only [List.setIfInBounds_toArray,List.set_cons_zero,List.set_cons_succ] at hb9
  have hm9:=((HMw.out.setC (i:=0) (u:=.slice none 0 0) hwR).setC (i:=1) (u:=.slice none 0 0) hwR).setC (i:=2) (u:=.int .i64 0) hwR
  generalize ((w2.setCell ⟨bR,0,none⟩ (.slice none 0 0)).setCell ⟨bR,1,none⟩ (.slice none 0 0)).setCell ⟨bR,2,none⟩ (.int .i64 0)=w9 at *
  have q0:=hb9.cell 0
  have q1:=hb9.cell 1
  have q2:=hb9.cell 2
  simp at q0 q1 q2
  refine bodyPost_ret (by simp [results,Tryz.results76,go_sem,q0,q1,q2];try rfl) rfl ?_
  exact ⟨rfl,hm9⟩
set_option maxRecDepth 100000 in
set_option maxHeartbeats 3200000 in
theorem close_go (A:Option Addr) (n c:Nat) (X:Option Addr) (m k:Nat) (b:Bok) (key:ByteArray) (day:Int) (code:ByteArray) (w:World) (hb:Bq w A n c X m k b) (hks:key.size≤maxLen) (hcs:code.size≤maxLen) (hc:bookc b=0) (hd:¬ (day < 0∨292193 < day)) (i:Nat) (hi:i < b.ac.length) (hf:findA b.ac code=i) (h2:am b.ac i=2) (hr5:closec b key day code=if cll b day b.ac=[] then 4 else if postc b (closeE b key day code)≠0 then postc b (closeE b key day code) else shutc (postb b (closeE b key day code)) day) :
    Calls Tryz.prog 76 #[bv A n c X m k b.shut,.string key,.int .i64 day,.string code] w (PostAny w (closeb b key day code) (closec b key day code)):=by
  have HCk:=Lib.hid (fun w' (hm:Mor w w')=>bcheck_any A n c X m k b w' (hb.mor hm))
  rw [hc] at HCk
  have HD:=Lib.hid (fun w=>cis_any day w)
  rw [show (decide (0≤day) && decide (day≤292193))=true by simp;omega] at HD
  have HK:=Lib.hid (fun w' (hm:Mor w w')=>kind_yes A n c b.ac code w' (hb.ac.mor hm) ((bookc_iff b).1 hc).ac i hi hf)
  rw [h2] at HK
  have hbo:=(bookc_iff b).1 hc
  have hn24:n≤24:=by rw [← hb.ac.length];exact (acc_ok hbo.ac).1
  obtain ⟨i0,hi0,hz0,hz1,hz2⟩:=info_parts info_line
  have HOf:=Lib.hid (fun w' (hm:Mor w w') s=>of_any A n c X m k b.shut b.en s 0 day w' (hb.es.mor hm) hb.length (by rw [← hb.length];exact hbo.len) hbo.enc)
  have HAc:=Lib.hid (fun w' (hm:Mor w w')=>hb.ac.mor hm)
  have HN:=Lib.hid hb.ac.length
  have HBd:=Lib.hid (fun j (hj:j≤n)=>show -720000000000000*(j:Int)≤cls b day (b.ac.take j)∧cls b day (b.ac.take j)≤720000000000000*j by
    have:=sm_bd (f:=clg b day) (M:=720000000000000) (xs:=b.ac.take j) (fun a _=>by
      unfold clg
      have:=ofS_bd hbo.enc hbo.len a.1 0 day
      split <;> omega)
    rw [show (b.ac.take j).length=j by rw [List.length_take,hb.ac.length];omega] at this
    unfold cls
    omega)
  have HOb:=Lib.hid (fun s=>ofS_bd hbo.enc hbo.len s 0 day)
  have HTl:=Lib.hid (fun j (hj:j < n)=>show cll b day (b.ac.take (j+1))=cll b day (b.ac.take j)++(if ofS b.en (cd b.ac j) 0 day≠0∧(am b.ac j=3∨am b.ac j=4) then [(cd b.ac j,-ofS b.en (cd b.ac j) 0 day)] else []) by
    have hj':j < b.ac.length:=by rw [hb.ac.length];exact hj
    rw [cll_take b day b.ac j hj',(cd_at b.ac j hj').1,(cd_at b.ac j hj').2];rfl)
  have HTs:=Lib.hid (fun j (hj:j < n)=>show cls b day (b.ac.take (j+1))=cls b day (b.ac.take j)+(if am b.ac j=3∨am b.ac j=4 then ofS b.en (cd b.ac j) 0 day else 0) by
    have hj':j < b.ac.length:=by rw [hb.ac.length];exact hj
    rw [cls_take b day b.ac j hj',(cd_at b.ac j hj').1,(cd_at b.ac j hj').2];rfl)
  have HLl:=Lib.hid (fun j (hj:j≤n)=>show (cll b day (b.ac.take j)).length≤j from Nat.le_trans (cll_len b day _) (by rw [List.length_take];omega))
  have HStr:=Lib.hid (fun l (h:l∈cll b day b.ac)=>show l.1.size≤maxLen by
    obtain ⟨a,ha,_,rfl⟩:=cll_mem h
    obtain ⟨j,hj,rfl⟩:=List.mem_iff_getElem.1 ha
    have:=hb.ac.str j (by rw [← hb.ac.length];exact hj)
    rw [(cd_at b.ac j hj).1] at this
    exact this)
  have HAll:=Lib.hid (show b.ac.take n=b.ac from List.take_of_length_le (by rw [hb.ac.length];exact Nat.le_refl _))
  have HPo:=Lib.hid (fun w' (hm:Mor w w') Y p q (hl:Lq w' Y p q (closeE b key day code).ls) (hc0:postc b (closeE b key day code)=0)=>show Calls Tryz.prog 72 #[bv A n c X m k b.shut,.agg #[.string key,.int .i64 day,.slice Y p q]] w' (PostYes w' (postb b (closeE b key day code))) from post_yes A n c X m k b (closeE b key day code) Y p q w' (hb.mor hm) hl hks hc0)
  have HPn:=Lib.hid (fun w' (hm:Mor w w') Y p q (hl:Lq w' Y p q (closeE b key day code).ls) (hc0:postc b (closeE b key day code)≠0)=>show Calls Tryz.prog 72 #[bv A n c X m k b.shut,.agg #[.string key,.int .i64 day,.slice Y p q]] w' (PostNo w' (postc b (closeE b key day code))) from post_no A n c X m k b (closeE b key day code) Y p q w' (hb.mor hm) hl hks hc0)
  have HSs:=Lib.hid (show (postb b (closeE b key day code)).shut=b.shut from (post_ac b (closeE b key day code)).2)
  have HSy:=Lib.hid (fun w' A n c X m k (hq:Bq w' A n c X m k (postb b (closeE b key day code))) (h0:shutc (postb b (closeE b key day code)) day=0)=>show Calls Tryz.prog 74 #[bv A n c X m k b.shut,.int .i64 day] w' (PostYes w' (shutb (postb b (closeE b key day code)) day)) by
    obtain ⟨g1,g2,g3,g4⟩:=shutc_zero h0
    have h:=shut_yes A n c X m k _ day w' hq g1 g2 g3 g4
    rw [HSs.out] at h
    exact h)
  have HSn:=Lib.hid (fun w' A n c X m k (hq:Bq w' A n c X m k (postb b (closeE b key day code))) (h0:shutc (postb b (closeE b key day code)) day≠0)=>show Calls Tryz.prog 74 #[bv A n c X m k b.shut,.int .i64 day] w' (PostNo w' (shutc (postb b (closeE b key day code)) day)) by
    have h:=shut_no A n c X m k _ day w' hq h0
    rw [HSs.out] at h
    exact h)
  have HXl:=Lib.hid (show (closeE b key day code).ls=cll b day b.ac++(if cls b day b.ac≠0 then [(code,cls b day b.ac)] else []) from rfl)
  have HR5:=Lib.hid hr5
  have HCs:=Lib.hid hcs
  generalize hsh:b.shut=sh at *
  clear hb hc hf h2 hr5 hbo hsh hi hcs hks
  go_enter Tryz.func76,Tryz.ntmps76
  go_wp2_with fail
  have hM0:=((Mor.refl w).alloc (o:=.cells #[.slice A n c,.slice X m k,.int .i64 sh] 37)).alloc (o:=.cells #[.slice none 0 0,.slice none 0 0,.int .i64 0] 37)
  have hP0:=(Bk.new w 37 #[.slice A n c,.slice X m k,.int .i64 sh]).alloc (.cells #[.slice none 0 0,.slice none 0 0,.int .i64 0] 37)
  have hR0:=Bk.new (w.alloc (.cells #[.slice A n c,.slice X m k,.int .i64 sh] 37)) 37 #[.slice none 0 0,.slice none 0 0,.int .i64 0]
  rw [← sz1] at hR0
  obtain ⟨bP,hgP⟩:∃ g,g=w.heap.size:=⟨_,rfl⟩
  rw [← hgP] at hP0 hR0 ⊢
  obtain ⟨bR,hgR⟩:∃ g,g=bP+1:=⟨_,rfl⟩
  rw [← hgR] at hR0 ⊢
  have hwR:w.heap.size≤bR:=by omega
  have hPR:bP < bR:=by omega
  clear hgP hgR
  generalize (w.alloc (.cells #[.slice A n c,.slice X m k,.int .i64 sh] 37)).alloc (.cells #[.slice none 0 0,.slice none 0 0,.int .i64 0] 37)=w0 at *
  have HP:=Lib.hid (fun w' (h:Mor w0 w')=>hP0.mor h)
  have HR:=Lib.hid (fun w' (h:Mor w0 w')=>hR0.mor h)
  have HM0:=Lib.hid hM0
  clear hP0 hR0 hM0
  have hp:=HP.out _ (Mor.refl _)
  have c0:=hp.cell 0
  have c1:=hp.cell 1
  have c2:=hp.cell 2
  have cl:=hp.lt
  simp at c0 c1 c2
  clear hp
  refine (HCk.out _ HM0.out).mono ?_
  rintro e w1 ⟨rfl,hm⟩
  have HM1:=Lib.hid (HM0.out.trans' hm)
  have HM01:=Lib.hid hm
  clear c0 c1 c2 cl
  have hp:=HP.out _ hm
  have c0:=hp.cell 0
  have c1:=hp.cell 1
  have c2:=hp.cell 2
  have cl:=hp.lt
  simp at c0 c1 c2
  clear hp
  clear hm
  go_wp2_with (go_at_call 93;(with_reducible refine (HD.out _).mono ?_);rintro e w5 ⟨rfl,rfl⟩)
  refine (HK.out _ HM1.out).mono ?_
  rintro e w2 ⟨rfl,hm⟩
  have HM2:=Lib.hid (HM1.out.trans' hm)
  have HM02:=Lib.hid (HM01.out.trans' hm)
  clear c0 c1 c2 cl
  have hp:=HP.out _ HM02.out
  have c0:=hp.cell 0
  have c1:=hp.cell 1
  have c2:=hp.cell 2
  have cl:=hp.lt
  simp at c0 c1 c2
  clear hp
  clear hm HCk HD HK
  go_wp2_with fail
  have hE0:=Bk.new w2 111 #[.string key,.int .i64 day,.slice none 0 0]
  have hM2a:=(Mor.refl w2).alloc (o:=.cells #[.string key,.int .i64 day,.slice none 0 0] 111)
  obtain ⟨bE,hgE⟩:∃ g,g=w2.heap.size:=⟨_,rfl⟩
  rw [← hgE] at hE0 ⊢
  have HgE:=Lib.hid hgE
  have hPE:bP < bE:=by rw [hgE];exact cl
  have hRE:bR < bE:=by rw [hgE];exact (HR.out _ HM02.out).lt
  clear hgE c0 c1 c2 cl
  generalize w2.alloc (.cells #[.string key,.int .i64 day,.slice none 0 0] 111)=w3 at *
  go_loopw [14,49] (fun v i wr=>∃ j:Nat,j≤n∧i=.int .i64 j∧v=.int .i64 (cls b day (b.ac.take j))∧Hid (∃ vL,Bk wr bE 111 #[.string key,.int .i64 day,vL]∧wr.ownsRow (bE+1) 149 2 vL (cll b day (b.ac.take j)).length (flat pc (cll b day (b.ac.take j)))∧Mor w2 wr∧bE+1≤wr.heap.size)) (fun _ i _=>n - (intOf i).toNat)
  case atStart=>exact ⟨0,Nat.zero_le _,rfl,by simp;rfl,Lib.hid ⟨_,hE0,by rw [List.take_zero];exact World.ownsRow_nil _ _ _ _,hM2a,hE0.lt⟩⟩
  case round =>
    clear hE0 hM2a
    obtain ⟨j,hj,rfl,rfl,HQ⟩:=hrel
    obtain ⟨vL,hE,hrow,hm2r,hszr⟩:=HQ.out
    have hl24:=HLl.out j hj
    obtain ⟨AL,cL,rfl,hcL,_,_⟩:=own_shape hrow
    by_cases hlt:j < n
    · have hji:(j:Int) < (n:Int):=by omega
      have hj0:(0:Int)≤(j:Int):=by omega
      obtain ⟨x,hA,hxb,d0,d1⟩:=(HAc.out _ (HM2.out.trans' hm2r)).si.at_ j (by rw [HN.out];exact hlt)
      subst hA
      have HOj:=Lib.hid (fun w' (hm:Mor wr w')=>HOf.out w' ((HM2.out.trans' hm2r).trans' hm) (cd b.ac j))
      have HTlj:=Lib.hid (HTl.out j hlt)
      have HTsj:=Lib.hid (HTs.out j hlt)
      obtain ⟨o1,o2⟩:=HOb.out (cd b.ac j)
      obtain ⟨q1,q2⟩:=HBd.out j hj
      generalize cls b day (b.ac.take j)=S at *
      generalize cll b day (b.ac.take j)=ls at *
      generalize ofS b.en (cd b.ac j) 0 day=o at *
      generalize cd b.ac j=s at *
      generalize am b.ac j=a at *
      have HE:=Lib.hid hE
      have HRow:=Lib.hid hrow
      have HMr:=Lib.hid hm2r
      have hp:=HP.out _ (HM02.out.trans' hm2r)
      have c0:=hp.cell 0
      have c1:=hp.cell 1
      have c2:=hp.cell 2
      have cl:=hp.lt
      simp at c0 c1 c2
      clear hE hrow hm2r HQ hp
      go_wp2_with fail
      refine (HOj.out _ (Mor.refl _).alloc).mono ?_
      rintro e w4 ⟨rfl,hm4⟩
      have hbA:=(Bk.new wr 144 #[.string s,.int .i64 a]).mor hm4
      have hE4:=HE.out.mor ((Mor.refl wr).alloc (o:=.cells #[.string s,.int .i64 a] 144) |>.trans' hm4)
      have HM4:=Lib.hid ((Mor.refl wr).alloc (o:=.cells #[.string s,.int .i64 a] 144) |>.trans' hm4)
      have a0:=hbA.cell 0
      have a1:=hbA.cell 1
      have al:=hbA.lt
      have e2:=hE4.cell 2
      have ef:=hE4.frozen 2
      have el:=hE4.lt
      simp at a0 a1 e2
      have HE4:=Lib.hid hE4
      clear hbA hE4 hm4 c0 c1 c2 cl d0 d1 HOj
      by_cases ho:o=0
      · subst ho
        go_wp2_with fail
        go_roundw
        case rel=>exact ⟨j+1,by omega,by go_num,by rw [HTsj.out];simp,Lib.hid ⟨.slice AL ls.length cL,HE4.out,by rw [HTlj.out];simpa using own_mor HRow.out HM4.out,HMr.out.trans' HM4.out,Nat.le_trans hszr HM4.out.below.size⟩⟩
        case measure=>simp [intOf];omega
      · have hob:(o != 0)=true:=by simpa using ho
        by_cases ha:a=3∨a=4
        · rw [if_pos ha] at HTsj
          rw [if_pos ⟨ho,ha⟩] at HTlj
          rcases ha with ha | ha
          · subst ha
            go_wp2_with (at_builtin;refine wpList_append_own _ rfl _ _ 109 rfl (bE+1) 149 i0 (.agg #[.string { data:=#[] },.int .i64 0]) 2 24 Tryz.underlying109 hi0 hz0 hz1 hz2 rfl (by decide) _ _ _ rfl ((own_mor HRow.out HM4.out).alloc (.cells #[.string s,.int .i64 (-o)] 149)) ⟨w4.heap.size,0,none⟩ 1 1 [.string s,.int .i64 (-o)] rfl rfl ?_ ?_ ?_ ?_ ?_ ?_)
            case refine_6 =>
              intro v' w5 hown' hgrow _
              obtain ⟨A5,c5,rfl,_,_,_⟩:=own_shape hown'
              have hm5:Mor w2 w5:=own_step (own_base ((own_mor HRow.out HM4.out).alloc (.cells #[.string s,.int .i64 (-o)] 149)) (by have:=HgE.out;omega)) ((HMr.out.trans' HM4.out).alloc) hgrow
              have hE5:=Bk.growT (HE4.out.alloc (.cells #[.string s,.int .i64 (-o)] 149)) ((own_mor HRow.out HM4.out).alloc (.cells #[.string s,.int .i64 (-o)] 149)) hgrow (by decide)
              have e2:=hE5.cell 2
              have ef:=hE5.frozen 2
              have el:=hE5.lt
              simp at e2
              have HE5:=Lib.hid hE5
              have HO5:=Lib.hid hown'
              have HM5:=Lib.hid hm5
              have hs5:bE+1≤w5.heap.size:=el
              clear hown' hgrow hm5 hE5 a0 a1 al
              go_wp2_with fail
              go_roundw
              case rel=>exact ⟨j+1,by omega,by go_num,by rw [HTsj.out],Lib.hid ⟨.slice A5 (ls.length+1) c5,by have:=HE5.out.set_ 2 (.slice A5 (ls.length+1) c5);simpa using this,own_set (by rw [HTlj.out,flat_snoc,List.length_append];simpa [pc] using HO5.out) (by omega),HM5.out.setC (by have:=HgE.out;omega),by simpa [World.setCell] using hs5⟩⟩
              case measure=>simp [intOf];omega
            all_goals try (first | (exact rfl) | (intro u hu;simp at hu;rcases hu with rfl | rfl <;> rfl) | (unfold maxLen;omega) | omega | (simp [go_sem];omega) | (intro j u hj;match j,hj with | 0,hj=>simp at hj;subst hj;simp [Addr.add] | 1,hj=>simp at hj;subst hj;simp [Addr.add]))
          · subst ha
            go_wp2_with (at_builtin;refine wpList_append_own _ rfl _ _ 109 rfl (bE+1) 149 i0 (.agg #[.string { data:=#[] },.int .i64 0]) 2 24 Tryz.underlying109 hi0 hz0 hz1 hz2 rfl (by decide) _ _ _ rfl ((own_mor HRow.out HM4.out).alloc (.cells #[.string s,.int .i64 (-o)] 149)) ⟨w4.heap.size,0,none⟩ 1 1 [.string s,.int .i64 (-o)] rfl rfl ?_ ?_ ?_ ?_ ?_ ?_)
            case refine_6 =>
              intro v' w5 hown' hgrow _
              obtain ⟨A5,c5,rfl,_,_,_⟩:=own_shape hown'
              have hm5:Mor w2 w5:=own_step (own_base ((own_mor HRow.out HM4.out).alloc (.cells #[.string s,.int .i64 (-o)] 149)) (by have:=HgE.out;omega)) ((HMr.out.trans' HM4.out).alloc) hgrow
              have hE5:=Bk.growT (HE4.out.alloc (.cells #[.string s,.int .i64 (-o)] 149)) ((own_mor HRow.out HM4.out).alloc (.cells #[.string s,.int .i64 (-o)] 149)) hgrow (by decide)
              have e2:=hE5.cell 2
              have ef:=hE5.frozen 2
              have el:=hE5.lt
              simp at e2
              have HE5:=Lib.hid hE5
              have HO5:=Lib.hid hown'
              have HM5:=Lib.hid hm5
              have hs5:bE+1≤w5.heap.size:=el
              clear hown' hgrow hm5 hE5 a0 a1 al
              go_wp2_with fail
              go_roundw
              case rel=>exact ⟨j+1,by omega,by go_num,by rw [HTsj.out],Lib.hid ⟨.slice A5 (ls.length+1) c5,by have:=HE5.out.set_ 2 (.slice A5 (ls.length+1) c5);simpa using this,own_set (by rw [HTlj.out,flat_snoc,List.length_append];simpa [pc] using HO5.out) (by omega),HM5.out.setC (by have:=HgE.out;omega),by simpa [World.setCell] using hs5⟩⟩
              case measure=>simp [intOf];omega
            all_goals try (first | (exact rfl) | (intro u hu;simp at hu;rcases hu with rfl | rfl <;> rfl) | (unfold maxLen;omega) | omega | (simp [go_sem];omega) | (intro j u hj;match j,hj with | 0,hj=>simp at hj;subst hj;simp [Addr.add] | 1,hj=>simp at hj;subst hj;simp [Addr.add]))
        · rw [if_neg ha] at HTsj
          rw [if_neg (fun h=>ha h.2)] at HTlj
          have ha3:(a == 3)=false:=beq_eq_false_iff_ne.2 (by omega)
          have ha4:(a == 4)=false:=beq_eq_false_iff_ne.2 (by omega)
          go_wp2_with fail
          go_roundw
          case rel=>exact ⟨j+1,by omega,by go_num,by rw [HTsj.out];simp,Lib.hid ⟨.slice AL ls.length cL,HE4.out,by rw [HTlj.out];simpa using own_mor HRow.out HM4.out,HMr.out.trans' HM4.out,Nat.le_trans hszr HM4.out.below.size⟩⟩
          case measure=>simp [intOf];omega
    · obtain rfl:j=n:=by omega
      rw [HAll.out] at hrow hl24 hE hcL ⊢
      have hm0r:=HM02.out.trans' hm2r
      have hE0:=hE.cell 0
      have hE1:=hE.cell 1
      have hE2:=hE.cell 2
      have ef:=hE.frozen 2
      have el:=hE.lt
      obtain ⟨q1,q2⟩:=HBd.out j hj
      rw [HAll.out] at q1 q2
      simp at hE0 hE1 hE2
      have e0:=hE0
      have e1:=hE1
      have e2:=hE2
      clear hE0 hE1 hE2
      have HRow:=Lib.hid hrow
      have HM0r:=Lib.hid hm0r
      have HM2r:=Lib.hid hm2r
      have HEr:=Lib.hid hE
      clear hrow hm0r hm2r hE HQ HOf HTl HTs HOb HLl HBd
      generalize hls:cll b day b.ac=ls at *
      generalize hS:cls b day b.ac=S at *
      clear hls hS
      by_cases hne:ls=[]
      · subst hne
        have hcl:closec b key day code=4:=by rw [HR5.out,if_pos rfl]
        have hcb:closeb b key day code=zeroB:=by unfold closeb;rw [if_neg (by rw [hcl];omega)]
        have HCL:=Lib.hid (And.intro hcl hcb)
        clear hcl hcb
        have HMw:=Lib.hid (HM0.out.trans' HM0r.out)
        have hr:=HR.out _ HM0r.out
        have z0:=hr.cell 0
        have z1:=hr.cell 1
        have z2:=hr.cell 2
        have f0:=hr.frozen 0
        have f1:=hr.frozen 1
        have f2:=hr.frozen 2
        have rl:=hr.lt
        simp at z0 z1 z2
        have HRb:=Lib.hid hr
        clear hr
        go_wp2_with fail
        have hb9:=((HRb.out.set_ 0 (.slice none 0 0)).set_ 1 (.slice none 0 0)).set_ 2 (.int .i64 0)
        simp only [List.setIfInBounds_toArray,List.set_cons_zero,List.set_cons_succ] at hb9
        have hm9:=((HMw.out.setC (i:=0) (u:=.slice none 0 0) hwR).setC (i:=1) (u:=.slice none 0 0) hwR).setC (i:=2) (u:=.int .i64 0) hwR
        generalize ((wr.setCell ⟨bR,0,none⟩ (.slice none 0 0)).setCell ⟨bR,1,none⟩ (.slice none 0 0)).setCell ⟨bR,2,none⟩ (.int .i64 0)=w9 at *
        have q0:=hb9.cell 0
        have q1:=hb9.cell 1
        have q2:=hb9.cell 2
        simp at q0 q1 q2
        refine bodyPost_ret (by simp [results,Tryz.results76,go_sem,q0,q1,q2];try rfl) rfl ?_
        rw [HCL.out.1,HCL.out.2]
        exact any_no ⟨rfl,hm9⟩
      · have hl0:ls.length≠0:=fun h=>hne (List.eq_nil_of_length_eq_zero h)
        have hlb:((ls.length:Int) == 0)=false:=beq_eq_false_iff_ne.2 (by omega)
        have hlz:¬ (ls.length:Int)=0:=by omega
        by_cases hS0:S=0
        · subst hS0
          have HLq:=Lib.hid (show Lq wr AL ls.length cL (closeE b key day code).ls by
            obtain ⟨A9,c9,e9,hq9⟩:=own_lq HRow.out rfl (fun i hi=>by
              rw [(cd_at ls i hi).1];exact HStr.out _ (List.getElem_mem hi))
            injection e9 with g1 _ g3
            subst g1 g3
            rw [HXl.out,if_neg (by simp),List.append_nil]
            exact hq9)
          have HW0:=HM0r
          have hp:=HP.out _ HM0r.out
          have c0:=hp.cell 0
          have c1:=hp.cell 1
          have c2:=hp.cell 2
          have cl:=hp.lt
          simp at c0 c1 c2
          clear hp
          go_wp2_with fail
          by_cases hpc:postc b (closeE b key day code)=0
          · refine (HPo.out _ (HM0.out.trans' HW0.out) _ _ _ HLq.out hpc).mono ?_
            intro e w6 h6
            obtain ⟨A6,n6,c6,X6,m6,k6,rfl,hq6,-,hm6⟩:=postYes_bq h6
            rw [HSs.out]
            have HM6:=Lib.hid (hm6.alloc (o:=.cells #[.slice A6 n6 c6,.slice X6 m6 k6,.int .i64 sh] 37))
            have HQ6:=Lib.hid (hq6.mor ((Mor.refl w6).alloc (o:=.cells #[.slice A6 n6 c6,.slice X6 m6 k6,.int .i64 sh] 37)))
            clear h6 hq6 hm6 c0 c1 c2 cl e0 e1 e2 ef el
            go_wp2_with fail
            by_cases hsc:shutc (postb b (closeE b key day code)) day=0
            · have hcl:closec b key day code=0:=by rw [HR5.out,if_neg hne,if_neg (by simp [hpc]),hsc]
              have hcb:closeb b key day code=shutb (postb b (closeE b key day code)) day:=by unfold closeb;rw [if_pos hcl]
              have HCL:=Lib.hid (And.intro hcl hcb)
              clear hcl hcb
              refine (HSy.out _ _ _ _ _ _ _ HQ6.out hsc).mono ?_
              rintro e w7 ⟨A7,n7,c7,X7,m7,k7,rfl,ho7,hm⟩
              rw [show (shutb (postb b (closeE b key day code)) day).shut=day from rfl]
              have HO7:=Lib.hid ho7
              have HMw:=Lib.hid (((HM0.out.trans' HW0.out).trans' HM6.out).trans' hm)
              have HSz:=Lib.hid (show w.heap.size≤_ from ((HM0.out.trans' HW0.out).trans' HM6.out).below.size)
              have hr:=HR.out _ ((HW0.out.trans' HM6.out).trans' hm)
              have z0:=hr.cell 0
              have z1:=hr.cell 1
              have z2:=hr.cell 2
              have f0:=hr.frozen 0
              have f1:=hr.frozen 1
              have f2:=hr.frozen 2
              have rl:=hr.lt
              simp at z0 z1 z2
              have HRb:=Lib.hid hr
              clear hr
              clear hm ho7
              go_wp2_with fail
              have hb9:=((HRb.out.set_ 0 (.slice A7 n7 c7)).set_ 1 (.slice X7 m7 k7)).set_ 2 (.int .i64 day)
              simp only [List.setIfInBounds_toArray,List.set_cons_zero,List.set_cons_succ] at hb9
              have hm9:=((HMw.out.setC (i:=0) (u:=.slice A7 n7 c7) hwR).setC (i:=1) (u:=.slice X7 m7 k7) hwR).setC (i:=2) (u:=.int .i64 day) hwR
              have ho9:=(own3 (a:=.slice A7 n7 c7) (a':=.slice X7 m7 k7) (a'':=.int .i64 day) HO7.out HRb.out).base HSz.out
              generalize ((w7.setCell ⟨bR,0,none⟩ (.slice A7 n7 c7)).setCell ⟨bR,1,none⟩ (.slice X7 m7 k7)).setCell ⟨bR,2,none⟩ (.int .i64 day)=w9 at *
              have q0:=hb9.cell 0
              have q1:=hb9.cell 1
              have q2:=hb9.cell 2
              simp at q0 q1 q2
              refine bodyPost_ret (by simp [results,Tryz.results76,go_sem,q0,q1,q2];try rfl) rfl ?_
              rw [HCL.out.1,HCL.out.2]
              exact ⟨A7,n7,c7,X7,m7,k7,rfl,ho9,hm9⟩
            · have hcl:closec b key day code=shutc (postb b (closeE b key day code)) day:=by rw [HR5.out,if_neg hne,if_neg (by simp [hpc])]
              have hcb:closeb b key day code=zeroB:=by unfold closeb;rw [if_neg (by rw [hcl];exact hsc)]
              have HCL:=Lib.hid (And.intro hcl hcb)
              clear hcl hcb
              refine (HSn.out _ _ _ _ _ _ _ HQ6.out hsc).mono ?_
              rintro e w7 ⟨rfl,hm⟩
              have HMw:=Lib.hid (((HM0.out.trans' HW0.out).trans' HM6.out).trans' hm)
              have hr:=HR.out _ ((HW0.out.trans' HM6.out).trans' hm)
              have z0:=hr.cell 0
              have z1:=hr.cell 1
              have z2:=hr.cell 2
              have f0:=hr.frozen 0
              have f1:=hr.frozen 1
              have f2:=hr.frozen 2
              have rl:=hr.lt
              simp at z0 z1 z2
              have HRb:=Lib.hid hr
              clear hr
              clear hm
              go_wp2_with fail
              have hb9:=((HRb.out.set_ 0 (.slice none 0 0)).set_ 1 (.slice none 0 0)).set_ 2 (.int .i64 0)
              simp only [List.setIfInBounds_toArray,List.set_cons_zero,List.set_cons_succ] at hb9
              have hm9:=((HMw.out.setC (i:=0) (u:=.slice none 0 0) hwR).setC (i:=1) (u:=.slice none 0 0) hwR).setC (i:=2) (u:=.int .i64 0) hwR
              generalize ((w7.setCell ⟨bR,0,none⟩ (.slice none 0 0)).setCell ⟨bR,1,none⟩ (.slice none 0 0)).setCell ⟨bR,2,none⟩ (.int .i64 0)=w9 at *
              have q0:=hb9.cell 0
              have q1:=hb9.cell 1
              have q2:=hb9.cell 2
              simp at q0 q1 q2
              refine bodyPost_ret (by simp [results,Tryz.results76,go_sem,q0,q1,q2];try rfl) rfl ?_
              rw [HCL.out.1,HCL.out.2]
              exact any_no ⟨rfl,hm9⟩
          · have hcl:closec b key day code=postc b (closeE b key day code):=by rw [HR5.out,if_neg hne,if_pos hpc]
            have hcb:closeb b key day code=zeroB:=by unfold closeb;rw [if_neg (by rw [hcl];exact hpc)]
            have HCL:=Lib.hid (And.intro hcl hcb)
            have hpb:(postc b (closeE b key day code) != 0)=true:=by simpa using hpc
            refine (HPn.out _ (HM0.out.trans' HW0.out) _ _ _ HLq.out hpc).mono ?_
            rintro e w6 ⟨rfl,hm⟩
            generalize postc b (closeE b key day code)=r6 at *
            clear hcl hcb c0 c1 c2 cl e0 e1 e2 ef el
            have HMw:=Lib.hid ((HM0.out.trans' HW0.out).trans' hm)
            have hr:=HR.out _ (HW0.out.trans' hm)
            have z0:=hr.cell 0
            have z1:=hr.cell 1
            have z2:=hr.cell 2
            have f0:=hr.frozen 0
            have f1:=hr.frozen 1
            have f2:=hr.frozen 2
            have rl:=hr.lt
            simp at z0 z1 z2
            have HRb:=Lib.hid hr
            clear hr
            clear hm
            go_wp2_with fail
            have hb9:=((HRb.out.set_ 0 (.slice none 0 0)).set_ 1 (.slice none 0 0)).set_ 2 (.int .i64 0)
            simp only [List.setIfInBounds_toArray,List.set_cons_zero,List.set_cons_succ] at hb9
            have hm9:=((HMw.out.setC (i:=0) (u:=.slice none 0 0) hwR).setC (i:=1) (u:=.slice none 0 0) hwR).setC (i:=2) (u:=.int .i64 0) hwR
            have hb9:=hb9.alloc (.cells #[.slice none 0 0,.slice none 0 0,.int .i64 0] 37)
            have hm9:=hm9.alloc (o:=.cells #[.slice none 0 0,.slice none 0 0,.int .i64 0] 37)
            generalize (((w6.setCell ⟨bR,0,none⟩ (.slice none 0 0)).setCell ⟨bR,1,none⟩ (.slice none 0 0)).setCell ⟨bR,2,none⟩ (.int .i64 0)).alloc (.cells #[.slice none 0 0,.slice none 0 0,.int .i64 0] 37)=w9 at *
            have q0:=hb9.cell 0
            have q1:=hb9.cell 1
            have q2:=hb9.cell 2
            simp at q0 q1 q2
            refine bodyPost_ret (by simp [results,Tryz.results76,go_sem,q0,q1,q2];try rfl) rfl ?_
            rw [HCL.out.1,HCL.out.2]
            exact any_no ⟨rfl,hm9⟩
        · have hSb:(S != 0)=true:=by simpa using hS0
          go_wp2_with (at_builtin;refine wpList_append_own _ rfl _ _ 109 rfl (bE+1) 149 i0 (.agg #[.string { data:=#[] },.int .i64 0]) 2 24 Tryz.underlying109 hi0 hz0 hz1 hz2 rfl (by decide) _ _ _ rfl (HRow.out.alloc (.cells #[.string code,.int .i64 S] 149)) ⟨wr.heap.size,0,none⟩ 1 1 [.string code,.int .i64 S] rfl rfl ?_ ?_ ?_ ?_ ?_ ?_)
          case refine_6 =>
            intro v' w5 hown' hgrow _
            obtain ⟨A5,c5,rfl,_,_,_⟩:=own_shape hown'
            have hm5:Mor w2 w5:=own_step (own_base (HRow.out.alloc (.cells #[.string code,.int .i64 S] 149)) (by have:=HgE.out;omega)) (HM2r.out.alloc) hgrow
            have hE5:=Bk.growT (HEr.out.alloc (.cells #[.string code,.int .i64 S] 149)) (HRow.out.alloc (.cells #[.string code,.int .i64 S] 149)) hgrow (by decide)
            have e2:=hE5.cell 2
            have ef:=hE5.frozen 2
            have el:=hE5.lt
            simp at e2
            have hE6:=hE5.set_ 2 (.slice A5 (ls.length+1) c5)
            simp only [List.setIfInBounds_toArray,List.set_cons_zero,List.set_cons_succ] at hE6
            have hO6:=own_set (i:=2) (u:=.slice A5 (ls.length+1) c5) hown' (show bE < bE+1 by omega)
            have hM6:=hm5.setC (i:=2) (u:=.slice A5 (ls.length+1) c5) (show w2.heap.size≤bE by have:=HgE.out;omega)
            have HO6:=Lib.hid hO6
            have HW0:=Lib.hid (HM02.out.trans' hM6)
            have hne':bP≠bE:=by omega
            have hp:=HP.out _ (HM02.out.trans' hm5)
            have c0:=hp.cell 0
            have c1:=hp.cell 1
            have c2:=hp.cell 2
            have cl:=hp.lt
            have e0:=hE5.cell 0
            have e1:=hE5.cell 1
            simp at c0 c1 c2 e0 e1
            clear hown' hgrow hm5 hE5 hE6 hO6 hM6 hp
            go_wp2_with fail
            clear c0 c1 c2 cl e0 e1 e2 ef el
            generalize w5.setCell ⟨bE,2,none⟩ (.slice A5 (ls.length+1) c5)=w55 at *
            have HLq:=Lib.hid (show Lq w55 A5 (ls.length+1) c5 (closeE b key day code).ls by
              obtain ⟨A9,c9,e9,hq9⟩:=own_lq (xs:=ls++[(code,S)]) (by rw [flat_snoc];simpa [pc] using HO6.out) (by rw [List.length_append];rfl) (fun i hi=>by
                by_cases h:i < ls.length
                · have e:cd (ls++[(code,S)]) i=cd ls i:=by unfold cd;rw [List.getD_eq_getElem?_getD,List.getD_eq_getElem?_getD,List.getElem?_append_left h]
                  rw [e,(cd_at ls i h).1];exact HStr.out _ (List.getElem_mem h)
                · have h2:i=ls.length:=by omega
                  subst h2
                  have e:cd (ls++[(code,S)]) ls.length=code:=by unfold cd;rw [List.getD_eq_getElem?_getD,List.getElem?_append_right (Nat.le_refl _),Nat.sub_self];rfl
                  rw [e];exact HCs.out)
              injection e9 with g1 _ g3
              subst g1 g3
              rw [HXl.out,if_pos hS0]
              exact hq9)
            have c0:=True.intro
            have c1:=True.intro
            have c2:=True.intro
            have cl:=True.intro
            have e0:=True.intro
            have e1:=True.intro
            have e2:=True.intro
            have ef:=True.intro
            have el:=True.intro
            by_cases hpc:postc b (closeE b key day code)=0
            · refine (HPo.out _ (HM0.out.trans' HW0.out) _ _ _ HLq.out hpc).mono ?_
              intro e w6 h6
              obtain ⟨A6,n6,c6,X6,m6,k6,rfl,hq6,-,hm6⟩:=postYes_bq h6
              rw [HSs.out]
              have HM6:=Lib.hid (hm6.alloc (o:=.cells #[.slice A6 n6 c6,.slice X6 m6 k6,.int .i64 sh] 37))
              have HQ6:=Lib.hid (hq6.mor ((Mor.refl w6).alloc (o:=.cells #[.slice A6 n6 c6,.slice X6 m6 k6,.int .i64 sh] 37)))
              clear h6 hq6 hm6 c0 c1 c2 cl e0 e1 e2 ef el
              go_wp2_with fail
              by_cases hsc:shutc (postb b (closeE b key day code)) day=0
              · have hcl:closec b key day code=0:=by rw [HR5.out,if_neg hne,if_neg (by simp [hpc]),hsc]
                have hcb:closeb b key day code=shutb (postb b (closeE b key day code)) day:=by unfold closeb;rw [if_pos hcl]
                have HCL:=Lib.hid (And.intro hcl hcb)
                clear hcl hcb
                refine (HSy.out _ _ _ _ _ _ _ HQ6.out hsc).mono ?_
                rintro e w7 ⟨A7,n7,c7,X7,m7,k7,rfl,ho7,hm⟩
                rw [show (shutb (postb b (closeE b key day code)) day).shut=day from rfl]
                have HO7:=Lib.hid ho7
                have HMw:=Lib.hid (((HM0.out.trans' HW0.out).trans' HM6.out).trans' hm)
                have HSz:=Lib.hid (show w.heap.size≤_ from ((HM0.out.trans' HW0.out).trans' HM6.out).below.size)
                have hr:=HR.out _ ((HW0.out.trans' HM6.out).trans' hm)
                have z0:=hr.cell 0
                have z1:=hr.cell 1
                have z2:=hr.cell 2
                have f0:=hr.frozen 0
                have f1:=hr.frozen 1
                have f2:=hr.frozen 2
                have rl:=hr.lt
                simp at z0 z1 z2
                have HRb:=Lib.hid hr
                clear hr
                clear hm ho7
                go_wp2_with fail
                have hb9:=((HRb.out.set_ 0 (.slice A7 n7 c7)).set_ 1 (.slice X7 m7 k7)).set_ 2 (.int .i64 day)
                simp only [List.setIfInBounds_toArray,List.set_cons_zero,List.set_cons_succ] at hb9
                have hm9:=((HMw.out.setC (i:=0) (u:=.slice A7 n7 c7) hwR).setC (i:=1) (u:=.slice X7 m7 k7) hwR).setC (i:=2) (u:=.int .i64 day) hwR
                have ho9:=(own3 (a:=.slice A7 n7 c7) (a':=.slice X7 m7 k7) (a'':=.int .i64 day) HO7.out HRb.out).base HSz.out
                generalize ((w7.setCell ⟨bR,0,none⟩ (.slice A7 n7 c7)).setCell ⟨bR,1,none⟩ (.slice X7 m7 k7)).setCell ⟨bR,2,none⟩ (.int .i64 day)=w9 at *
                have q0:=hb9.cell 0
                have q1:=hb9.cell 1
                have q2:=hb9.cell 2
                simp at q0 q1 q2
                refine bodyPost_ret (by simp [results,Tryz.results76,go_sem,q0,q1,q2];try rfl) rfl ?_
                rw [HCL.out.1,HCL.out.2]
                exact ⟨A7,n7,c7,X7,m7,k7,rfl,ho9,hm9⟩
              · have hcl:closec b key day code=shutc (postb b (closeE b key day code)) day:=by rw [HR5.out,if_neg hne,if_neg (by simp [hpc])]
                have hcb:closeb b key day code=zeroB:=by unfold closeb;rw [if_neg (by rw [hcl];exact hsc)]
                have HCL:=Lib.hid (And.intro hcl hcb)
                clear hcl hcb
                refine (HSn.out _ _ _ _ _ _ _ HQ6.out hsc).mono ?_
                rintro e w7 ⟨rfl,hm⟩
                have HMw:=Lib.hid (((HM0.out.trans' HW0.out).trans' HM6.out).trans' hm)
                have hr:=HR.out _ ((HW0.out.trans' HM6.out).trans' hm)
                have z0:=hr.cell 0
                have z1:=hr.cell 1
                have z2:=hr.cell 2
                have f0:=hr.frozen 0
                have f1:=hr.frozen 1
                have f2:=hr.frozen 2
                have rl:=hr.lt
                simp at z0 z1 z2
                have HRb:=Lib.hid hr
                clear hr
                clear hm
                go_wp2_with fail
                have hb9:=((HRb.out.set_ 0 (.slice none 0 0)).set_ 1 (.slice none 0 0)).set_ 2 (.int .i64 0)
                simp only [List.setIfInBounds_toArray,List.set_cons_zero,List.set_cons_succ] at hb9
                have hm9:=((HMw.out.setC (i:=0) (u:=.slice none 0 0) hwR).setC (i:=1) (u:=.slice none 0 0) hwR).setC (i:=2) (u:=.int .i64 0) hwR
                generalize ((w7.setCell ⟨bR,0,none⟩ (.slice none 0 0)).setCell ⟨bR,1,none⟩ (.slice none 0 0)).setCell ⟨bR,2,none⟩ (.int .i64 0)=w9 at *
                have q0:=hb9.cell 0
                have q1:=hb9.cell 1
                have q2:=hb9.cell 2
                simp at q0 q1 q2
                refine bodyPost_ret (by simp [results,Tryz.results76,go_sem,q0,q1,q2];try rfl) rfl ?_
                rw [HCL.out.1,HCL.out.2]
                exact any_no ⟨rfl,hm9⟩
            · have hcl:closec b key day code=postc b (closeE b key day code):=by rw [HR5.out,if_neg hne,if_pos hpc]
              have hcb:closeb b key day code=zeroB:=by unfold closeb;rw [if_neg (by rw [hcl];exact hpc)]
              have HCL:=Lib.hid (And.intro hcl hcb)
              have hpb:(postc b (closeE b key day code) != 0)=true:=by simpa using hpc
              refine (HPn.out _ (HM0.out.trans' HW0.out) _ _ _ HLq.out hpc).mono ?_
              rintro e w6 ⟨rfl,hm⟩
              generalize postc b (closeE b key day code)=r6 at *
              clear hcl hcb c0 c1 c2 cl e0 e1 e2 ef el
              have HMw:=Lib.hid ((HM0.out.trans' HW0.out).trans' hm)
              have hr:=HR.out _ (HW0.out.trans' hm)
              have z0:=hr.cell 0
              have z1:=hr.cell 1
              have z2:=hr.cell 2
              have f0:=hr.frozen 0
              have f1:=hr.frozen 1
              have f2:=hr.frozen 2
              have rl:=hr.lt
              simp at z0 z1 z2
              have HRb:=Lib.hid hr
              clear hr
              clear hm
              go_wp2_with fail
              have hb9:=((HRb.out.set_ 0 (.slice none 0 0)).set_ 1 (.slice none 0 0)).set_ 2 (.int .i64 0)
              simp only [List.setIfInBounds_toArray,List.set_cons_zero,List.set_cons_succ] at hb9
              have hm9:=((HMw.out.setC (i:=0) (u:=.slice none 0 0) hwR).setC (i:=1) (u:=.slice none 0 0) hwR).setC (i:=2) (u:=.int .i64 0) hwR
              have hb9:=hb9.alloc (.cells #[.slice none 0 0,.slice none 0 0,.int .i64 0] 37)
              have hm9:=hm9.alloc (o:=.cells #[.slice none 0 0,.slice none 0 0,.int .i64 0] 37)
              generalize (((w6.setCell ⟨bR,0,none⟩ (.slice none 0 0)).setCell ⟨bR,1,none⟩ (.slice none 0 0)).setCell ⟨bR,2,none⟩ (.int .i64 0)).alloc (.cells #[.slice none 0 0,.slice none 0 0,.int .i64 0] 37)=w9 at *
              have q0:=hb9.cell 0
              have q1:=hb9.cell 1
              have q2:=hb9.cell 2
              simp at q0 q1 q2
              refine bodyPost_ret (by simp [results,Tryz.results76,go_sem,q0,q1,q2];try rfl) rfl ?_
              rw [HCL.out.1,HCL.out.2]
              exact any_no ⟨rfl,hm9⟩
          all_goals try (first | (exact rfl) | (intro u hu;simp at hu;rcases hu with rfl | rfl <;> rfl) | (unfold maxLen;omega) | omega | (simp [go_sem];omega) | (intro j u hj;match j,hj with | 0,hj=>simp at hj;subst hj;simp [Addr.add] | 1,hj=>simp at hj;subst hj;simp [Addr.add]))
theorem close_any (A:Option Addr) (n c:Nat) (X:Option Addr) (m k:Nat) (b:Bok) (key:ByteArray) (day:Int) (code:ByteArray) (w:World) (hb:Bq w A n c X m k b) (hks:key.size≤maxLen) (hcs:code.size≤maxLen) :
    Calls Tryz.prog 76 #[bv A n c X m k b.shut,.string key,.int .i64 day,.string code] w (PostAny w (closeb b key day code) (closec b key day code)):=by
  by_cases h1:bookc b=0
  · by_cases h2:day < 0∨292193 < day
    · have e:closec b key day code=1:=by unfold closec;rw [if_neg (by simp [h1]),if_pos h2]
      have e2:closeb b key day code=zeroB:=by unfold closeb;rw [if_neg (by rw [e];omega)]
      rw [e,e2]
      exact (close_2 A n c X m k b key day code w hb h1 h2).mono fun e w' h=>any_no h
    · rcases findA_cases b.ac code with h3 | ⟨i,hi,h3,h4⟩
      · have e:closec b key day code=4:=by unfold closec;rw [if_neg (by simp [h1]),if_neg h2,if_pos h3]
        have e2:closeb b key day code=zeroB:=by unfold closeb;rw [if_neg (by rw [e];omega)]
        rw [e,e2]
        exact (close_3 A n c X m k b key day code w hb h1 h2 h3).mono fun e w' h=>any_no h
      · by_cases h5:am b.ac i=2
        · exact close_go A n c X m k b key day code w hb hks hcs h1 h2 i hi h3 h5 (by
            unfold closec
            rw [if_neg (by simp [h1]),if_neg h2,if_neg (by omega),h3,show ((i:Int)).toNat=i by omega,if_neg (by simp [h5])])
        · have e:closec b key day code=3:=by
            unfold closec
            rw [if_neg (by simp [h1]),if_neg h2,if_neg (by omega),h3,show ((i:Int)).toNat=i by omega,if_pos h5]
          have e2:closeb b key day code=zeroB:=by unfold closeb;rw [if_neg (by rw [e];omega)]
          rw [e,e2]
          exact (close_4 A n c X m k b key day code w hb h1 h2 i hi h3 h5).mono fun e w' h=>any_no h
  · have e:closec b key day code=bookc b:=by unfold closec;rw [if_pos h1]
    have e2:closeb b key day code=zeroB:=by unfold closeb;rw [if_neg (by rw [e];exact h1)]
    rw [e,e2]
    exact (close_1 A n c X m k b key day code w hb h1).mono fun e w' h=>any_no h
theorem closed {b:Bok} {key:ByteArray} {day:Int} {code:ByteArray} (h:closec b key day code=0) :
    BOk (closeb b key day code)∧(closeb b key day code).ac=b.ac∧(closeb b key day code).shut=day∧(closeb b key day code).en=(postb b (closeE b key day code)).en:=by
  obtain ⟨hbo,d0,d9,_,_,hp,hs⟩:=closec_zero h
  have e:closeb b key day code=shutb (postb b (closeE b key day code)) day:=by unfold closeb;rw [if_pos h]
  rw [e]
  exact ⟨shut_ok (post_ok hp) d0 d9,(post_ac b _).1,rfl,rfl⟩
end Go.Proofs.YtdhbkifpodekcaaGreatDoor
