/- Texts of this claim. -/
import Derived.Test.YtdhbkifpodekcaaGreatDoorDeskZ12
import Derived.Test.YtdhbkifpodekcaaGreatDoorDeskZ36
import Derived.Deep.DeepCutAuto
import Derived.Deep.RegionHeld3
import Derived.Deep.RegionWith
namespace Go.Proofs.YtdhbkifpodekcaaGreatDoor
open Go.ChangeShapes Go.WideShapes Go.ChangeAt Go.RowKit Go.PlainAid
set_option linter.unusedVariables false
set_option maxRecDepth 100000
theorem info_acct:(Tryz.prog.info? 144).map (fun i=>(i.zero,i.size,i.bytes))=some (some (.agg #[.string { data:=#[] },.int .i64 0]),2,24):=by kernel_rfl
theorem info_entry:(Tryz.prog.info? 111).map (fun i=>(i.zero,i.size,i.bytes))=some (some (.agg #[.string { data:=#[] },.int .i64 0,.slice none 0 0]),3,48):=by kernel_rfl
def MadeAc (w:World) (n:Nat) (ys:List Ln) (e:Ending) (w':World):Prop :=
  ∃ v,e=.returned v∧w'.ownsRow w.heap.size 144 2 v n (flat pc ys)∧Mor w w'
@[go_sem] theorem eql_nil_ac (w : World) (a : Option Addr) (n c : Nat) : (binOp .eql 34 (.slice a n c) (.slice none 0 0)).run Tryz.prog w = .ok (.bool a.isNone) w :=
  Lib.run_eql_slice_nil w _ 144 a n c 0 0 Tryz.underlying34
set_option maxHeartbeats 1600000 in
theorem clone_ac (A:Option Addr) (n cap:Nat) (xs:List Ln) (w:World) (h:Lq w A n cap xs) (hl:n≤1000) :
    Calls Tryz.prog 112 #[.slice A n cap] w (MadeAc w n xs):=by
  obtain ⟨i0,hi,hz0,hz1,hz2⟩:=info_parts info_acct
  cases A with
  | none =>
    obtain rfl:=h.nil rfl
    have hx:=List.eq_nil_of_length_eq_zero h.length
    subst hx
    clear h
    go_enter Tryz.func112,Tryz.ntmps112
    go_wp2_with fail
    go_ret
    exact ⟨.slice none 0 0,rfl,World.ownsRow_nil _ _ _ _,Mor.refl _⟩
  | some x =>
    have HC:=Lib.hid (fun (W:World) (hW:Mor w W) j u hu=>si_flat (h.si.mor hW) j u hu)
    have HL:=Lib.hid (show (flat pc xs).length=n*2 by rw [flat_len pc 2 pc_len,h.length])
    clear h
    go_enter Tryz.func112,Tryz.ntmps112
    go_wp2_with (at_builtin;refine wpList_append_own _ rfl _ _ 34 rfl w.heap.size 144 i0 (.agg #[.string { data:=#[] },.int .i64 0]) 2 24 Tryz.underlying34 hi hz0 hz1 hz2 rfl (by decide) _ 0 [] rfl ⟨by simp,.inr ⟨w.heap.size,0,#[],rfl,Nat.le_refl _,heap_alloc_new w _,Nat.le_refl _,by unfold maxLen;omega,rfl,rfl⟩⟩ x n cap (flat pc xs) rfl (by rw [HL.out]) ?_ ?_ ?_ ?_ ?_ ?_)
    case refine_6 =>
      intro v' w1 hown hgrow _
      have HO:=Lib.hid hown
      have HB:Hid (Below w.heap.size w w1):=Lib.hid (((Below.refl _ _).alloc (Nat.le_refl _) _).grown hgrow (by simp) (by intro k hk;simp [Value.ownBlock] at hk;omega))
      clear hown hgrow
      go_wp2
      go_ret
      exact ⟨v',rfl,by simpa using HO.out,Mor.of_below HB.out⟩
    all_goals try (first | (exact fun j u hu=>HC.out _ ((Mor.refl _).alloc) j u hu) | (exact flat_one xs) | (unfold maxLen;omega) | omega | simp)
set_option maxHeartbeats 1600000 in
theorem clone_lq (A:Option Addr) (n cap:Nat) (xs:List Ln) (w:World) (h:Lq w A n cap xs) (hl:n≤1000) :
    Calls Tryz.prog 123 #[.slice A n cap] w (MadePost w n xs):=by
  cases A with
  | none =>
    obtain rfl:=h.nil rfl
    have hx:=List.eq_nil_of_length_eq_zero h.length
    subst hx
    clear h
    go_enter Tryz.func123,Tryz.ntmps123
    go_wp2_with fail
    go_ret
    exact ⟨.slice none 0 0,rfl,World.ownsRow_nil _ _ _ _,Mor.refl _⟩
  | some x=>exact clone_ln x n cap xs w h.si h.length (by omega)
theorem own_swap {w0:World} {c1 c2:Array Value} {T':TypeId} {bs:List Obj} {dk:Nat} {B s n:Nat} {T:TypeId} {v:Value} {xs:List Value} (hT:T≠T') (h:(more (w0.alloc (.cells c1 T')).drew bs dk).ownsRow B T s v n xs):(more (w0.alloc (.cells c2 T')) bs dk).ownsRow B T s v n xs:=by
  refine own_at h fun g cur hg=>?_
  have e1:∀ c,(w0.alloc (.cells c T')).heap.size=w0.heap.size+1:=fun c=>(sz1 _ _).symm
  by_cases hl:g < w0.heap.size+1
  · rw [block_more _ _ _ _ (by rw [e1];exact hl)]
    rw [block_more _ _ _ _ (by show g < (w0.alloc _).heap.size;rw [e1];exact hl)] at hg ⊢
    by_cases he:g=w0.heap.size
    · subst he
      have hg':(w0.alloc (.cells c1 T')).heap[w0.heap.size]?=some (.cells cur T (0,0)):=hg
      rw [heap_alloc_new w0 _] at hg'
      injection hg' with hg'
      injection hg' with _ hg' _
      exact absurd hg'.symm hT
    · show (w0.alloc _).heap[g]?=(w0.alloc _).heap[g]?
      rw [Below.heap_alloc w0 _ g (by omega),Below.heap_alloc w0 _ g (by omega)]
  · obtain ⟨j,rfl⟩:∃ j,g=(w0.heap.size+1)+j:=⟨g - (w0.heap.size+1),by omega⟩
    have h1:=block_more_new (w0.alloc (.cells c2 T')) bs dk j
    have h2:=block_more_new (w0.alloc (.cells c1 T')).drew bs dk j
    rw [e1] at h1
    rw [show (w0.alloc (.cells c1 T')).drew.heap.size=w0.heap.size+1 from e1 _] at h2
    rw [h1,h2]
def CopyPost (w:World) (n m:Nat) (b:Bok) (e:Ending) (w':World):Prop :=
  ∃ vA vX,e=.returned (.agg #[vA,vX,.int .i64 b.shut])∧OwnB w' w.heap.size vA vX n m b∧Mor w w'
set_option maxRecDepth 100000 in
set_option maxHeartbeats 3200000 in
theorem copied_any (A:Option Addr) (n c:Nat) (X:Option Addr) (m k:Nat) (b:Bok) (w:World) (h:Bq w A n c X m k b) (hn:n≤1000) (hm:m≤1000) (hls:∀ x∈b.en,x.ls.length≤1000) :
    Calls Tryz.prog 121 #[bv A n c X m k b.shut] w (CopyPost w n m b):=by
  obtain ⟨i0,hi,hz0,hz1,hz2⟩:=info_parts info_entry
  have HQ:=Lib.hid h
  have HCa:=Lib.hid (fun w' (hm:Mor w w')=>show Calls Tryz.prog 112 #[.slice A n c] w' fun e w2=>∃ A' c',e=.returned (.slice A' n c')∧w2.ownsRow w.heap.size 144 2 (.slice A' n c') n (flat pc b.ac)∧Mor w' w2 from
    (clone_ac A n c b.ac w' (h.ac.mor hm) hn).mono (by
      rintro e w2 ⟨v,rfl,ho,hm2⟩
      obtain ⟨A',c',rfl,_,_,_⟩:=own_shape ho
      exact ⟨A',c',rfl,own_base ho hm.below.size,hm2⟩))
  generalize hsh:b.shut=s at *
  have HSH:=Lib.hid hsh
  clear h hsh
  go_enter Tryz.func121,Tryz.ntmps121
  go_wp2_with fail
  have hP0:=(Bk.new w 37 #[.slice A n c,.slice X m k,.int .i64 s]).alloc (.cells #[.slice none 0 0,.slice none 0 0,.int .i64 0] 37)
  have hR0:=Bk.new (w.alloc (.cells #[.slice A n c,.slice X m k,.int .i64 s] 37)) 37 #[.slice none 0 0,.slice none 0 0,.int .i64 0]
  have hM0:=(Mor.refl w).alloc (o:=.cells #[.slice A n c,.slice X m k,.int .i64 s] 37) |>.alloc (o:=.cells #[.slice none 0 0,.slice none 0 0,.int .i64 0] 37)
  rw [← sz1] at hR0
  obtain ⟨bP,hbP⟩:∃ b,b=w.heap.size:=⟨_,rfl⟩
  rw [← hbP] at hP0 hR0 ⊢
  obtain ⟨bR,hbR⟩:∃ b,b=bP+1:=⟨_,rfl⟩
  rw [← hbR] at hR0 ⊢
  generalize (w.alloc (.cells #[.slice A n c,.slice X m k,.int .i64 s] 37)).alloc (.cells #[.slice none 0 0,.slice none 0 0,.int .i64 0] 37)=w0 at *
  have c0:=hP0.cell 0
  have c2:=hP0.cell 2
  have cl:=hP0.lt
  simp at c0 c2
  have HP0:=Lib.hid hP0
  have HR0:=Lib.hid hR0
  have HM0:=Lib.hid hM0
  have HbP:=Lib.hid hbP
  have HbR:=Lib.hid hbR
  clear hP0 hR0 hM0 hbP hbR
  go_cut [3] (fun u wx=>∃ g A' c',u=.pointer (some ⟨g,0,none⟩)∧Hid (Bk wx g 37 #[.slice A' n c',.slice none 0 0,.int .i64 s]∧wx.ownsRow w.heap.size 144 2 (.slice A' n c') n (flat pc b.ac)∧Mor w0 wx∧w0.heap.size≤g))
  case first =>
    have HKp:=Lib.hid (fun w' (h:Mor w0 w')=>show w'.cell? ⟨bP,0,none⟩=some (.slice A n c)∧w'.cell? ⟨bP,2,none⟩=some (.int .i64 s) from ⟨by rw [(HP0.out.mor h).cell];rfl,by rw [(HP0.out.mor h).cell];rfl⟩)
    go_region_held3 (fun w'=>w'.cell? ⟨bP,0,none⟩=some (.slice A n c)∧w'.cell? ⟨bP,2,none⟩=some (.int .i64 s)) (exact HKp.out _ (by repeat (first | exact Mor.refl _ | apply Mor.alloc | apply Mor.more | apply Mor.drewN | apply Mor.drew))) (first | (go_at_call 112;(with_reducible refine (HCa.out _ (by repeat (first | exact HM0.out | apply Mor.alloc | apply Mor.more | apply Mor.drewN | apply Mor.drew))).mono ?_);rintro e w1 ⟨A',c',rfl,ho,bs,dk,rfl⟩))
    all_goals (go_wp2_with fail;go_meet;refine ⟨_,A',c',rfl,?_⟩)
    · refine Lib.hid ⟨?_,own_mor ho (Mor.refl _).alloc,(Mor.refl _).more.alloc,Nat.le_add_right _ _⟩
      have h:=Bk.new (more w0 bs dk) 37 #[.slice A' n c',.slice none 0 0,.int .i64 s]
      rwa [size_more] at h
    · exact Lib.hid ⟨(Bk.new w0 37 _).mor (Mor.refl _).more,own_swap (by decide) ho,(Mor.refl _).alloc.more,Nat.le_refl _⟩
  case rest =>
    obtain ⟨g,A',c',rfl,HH⟩:=hcut
    obtain ⟨hG,hA,hMc,hgs⟩:=HH.out
    have HG:=Lib.hid hG
    have HA:=Lib.hid hA
    have HMc:=Lib.hid hMc
    have hPc:=HP0.out.mor hMc
    have d1:=hPc.cell 1
    have dl:=hPc.lt
    simp at d1
    have HPc:=Lib.hid hPc
    have HRc:=Lib.hid (HR0.out.mor hMc)
    have HGR:=Lib.hid (show bR < g by have:=HR0.out.lt;omega)
    have HbRw:=Lib.hid (show w.heap.size≤bR by have:=HbR.out;have:=HbP.out;omega)
    clear hG hA hMc hgs hPc HH HCa c0 c2 cl
    have HN:=Lib.hid (show b.en.length=m from HQ.out.length)
    go_wp2_with fail
    go_loopw [15] (fun i wr=>∃ j:Nat,j≤m∧i=.int .i64 j∧Hid (∃ v qs,Bk wr g 37 #[.slice A' n c',v,.int .i64 s]∧wr.ownsRow wc.heap.size 111 3 v j (flat ec qs)∧qs.length=j∧(∀ i,i < j→OwnE wr wc.heap.size (qe qs i) (ne b.en i))∧wr.ownsRow w.heap.size 144 2 (.slice A' n c') n (flat pc b.ac)∧Bk wr bR 37 #[.slice none 0 0,.slice none 0 0,.int .i64 0]∧Below w.heap.size w wr∧wc.heap.size≤wr.heap.size)) (fun i _=>m - (intOf i).toNat)
    case atStart=>exact ⟨0,Nat.zero_le _,rfl,Lib.hid ⟨.slice none 0 0,[],HG.out,World.ownsRow_nil _ _ _ _,rfl,fun i hi=>absurd hi (Nat.not_lt_zero _),HA.out,HRc.out,(HM0.out.trans' HMc.out).below,Nat.le_refl _⟩⟩
    case round =>
      obtain ⟨j,hj,rfl,HI⟩:=hrel
      obtain ⟨v,qs,bg,ho,hql,hent,hac,br,hX,hsz⟩:=HI.out
      obtain ⟨X',k',rfl,-,-,-⟩:=own_shape ho
      have hgc:g < wc.heap.size:=HG.out.lt
      have b1:=bg.cell 1
      have bl:=bg.lt
      simp at b1
      by_cases hlt:j < m
      · have hji:(j:Int) < (m:Int):=by omega
        have hj0:(0:Int)≤(j:Int):=by omega
        have hMr:=Mor.of_below hX
        obtain ⟨x,B,p,q,hXx,hxb,hks,d0,d1,d2,hq⟩:=(HQ.out.es.mor hMr).at_ j (by rw [HN.out];exact hlt)
        subst hXx
        have HCl:=Lib.hid (fun w' (hm:Mor wr w')=>show Calls Tryz.prog 123 #[.slice B p q] w' fun e w2=>∃ A2 c2,e=.returned (.slice A2 p c2)∧w2.ownsRow wr.heap.size 149 2 (.slice A2 p c2) p (flat pc (ne b.en j).ls)∧Mor w' w2 from
          (clone_lq B p q (ne b.en j).ls w' (hq.mor hm) (by rw [← hq.length];exact hls _ (by rw [ne_eq _ _ (by rw [HN.out];exact hlt)];exact List.getElem_mem _))).mono (by
            rintro e w2 ⟨v,rfl,ho,hm2⟩
            obtain ⟨A',c',rfl,_,_,_⟩:=own_shape ho
            exact ⟨A',c',rfl,own_base ho hm.below.size,hm2⟩))
        have HKs:=Lib.hid hks
        have HQj:=Lib.hid hq
        have HBg:=Lib.hid bg
        have HO:=Lib.hid ho
        have HE:=Lib.hid hent
        have HAc:=Lib.hid hac
        have HBr:=Lib.hid br
        have HX:=Lib.hid hX
        have HQL:=Lib.hid hql
        have HSz:=Lib.hid hsz
        clear hks hq bg ho hent hac br hX hMr hql hsz HI
        obtain ⟨gE,hgE⟩:∃ b,b=wr.heap.size:=⟨_,rfl⟩
        generalize hky:(ne b.en j).key=ky at *
        generalize hdy:(ne b.en j).day=dy at *
        have HEQ:=Lib.hid (And.intro hky hdy)
        clear hky hdy
        go_wp2_with fail
        refine (HCl.out _ ((Mor.refl _).alloc)).mono ?_
        rintro e w1 ⟨A2,c2,rfl,hrow,hm1⟩
        have hEb:=(Bk.new wr 111 #[.string ky,.int .i64 dy,.slice B p q]).mor hm1
        have hgb:=(HBg.out.alloc (.cells #[.string ky,.int .i64 dy,.slice B p q] 111)).mor hm1
        have hM1:Mor wr w1:=(Mor.refl _).alloc.trans' hm1
        have hgE2:g≠gE:=by have:=HBg.out.lt;omega
        have hgE3:gE≠g:=fun e=>hgE2 e.symm
        rw [← hgE] at hEb ⊢
        have f0:=hEb.cell 0
        have f1:=hEb.cell 1
        have f2:=hEb.cell 2
        have fz:=hEb.frozen 2
        have fl:=hEb.lt
        have g1:=hgb.cell 1
        have gl:=hgb.lt
        simp at f0 f1 f2 g1
        have HRow:=Lib.hid hrow
        have HM1:=Lib.hid hM1
        have HEb:=Lib.hid hEb
        have HGb:=Lib.hid hgb
        have HgE:=Lib.hid hgE
        clear hrow hM1 hm1 hEb hgb hgE b1 bl d0 d1 d2 hxb HCl
        have HM3:=Lib.hid (show Mor wr ((w1.setCell ⟨gE,2,none⟩ (.slice A2 p c2)).alloc (.cells #[.string ky,.int .i64 dy,.slice A2 p c2] 111)) from (Mor.of_below ((HM1.out.below).setCell (p:=⟨gE,2,none⟩) (by show wr.heap.size≤gE;rw [HgE.out];exact Nat.le_refl _) _)).alloc)
        go_wp2_with (at_builtin;refine wpList_append_own _ rfl _ _ 35 rfl wc.heap.size 111 i0 (.agg #[.string { data:=#[] },.int .i64 0,.slice none 0 0]) 3 48 Tryz.underlying35 hi hz0 hz1 hz2 rfl (by decide) _ _ _ rfl (own_mor HO.out HM3.out) ⟨w1.heap.size,0,none⟩ 1 1 [.string ky,.int .i64 dy,.slice A2 p c2] rfl rfl ?_ ?_ ?_ ?_ ?_ ?_)
        case refine_6 =>
          intro v' w4 ho4 hg4 _
          obtain ⟨X4,k4,rfl,-,-,-⟩:=own_shape ho4
          have hO3:=own_mor HO.out HM3.out
          have hG4:=(HBg.out.mor HM3.out).grows hO3 hg4 (by omega)
          have hR4:=(HBr.out.mor HM3.out).grows hO3 hg4 (by have:=HGR.out;omega)
          have hA4:=own_grows (own_mor HAc.out HM3.out) hO3 hg4 (by decide)
          have hX4:Below w.heap.size w w4:=(HX.out.trans (Below.mono HM3.out.below HX.out.size)).grown hg4 (Nat.le_trans HX.out.size HM3.out.below.size) (fun b hb=>by have:=(own_blk hO3 hb).2.1;have:=HbRw.out;have:=HGR.out;omega)
          have hE4:∀ i,i < j→OwnE w4 wc.heap.size (qe qs i) (ne b.en i):=fun i hi=>by
            have h:=(HE.out i hi).mor HM3.out
            exact ⟨h.key,h.day,own_grows h.row hO3 hg4 (by decide),h.len,h.ks,h.str⟩
          have hN4:w4.ownsRow wc.heap.size 149 2 (.slice A2 p c2) p (flat pc (ne b.en j).ls):=by
            refine own_grows (own_base (own_mor (own_setT HRow.out HEb.out (by decide)) (Mor.refl _).alloc) (show wc.heap.size≤wr.heap.size from HSz.out)) hO3 hg4 (by decide)
          have hSz4:wc.heap.size≤w4.heap.size:=Nat.le_trans HSz.out (Nat.le_trans HM3.out.below.size hg4.size)
          have g1:=hG4.cell 1
          have gz:=hG4.frozen 1
          have gl:=hG4.lt
          simp at g1
          have HG4:=Lib.hid hG4
          have HR4:=Lib.hid hR4
          have HA4:=Lib.hid hA4
          have HX4:=Lib.hid hX4
          have HE4:=Lib.hid hE4
          have HN4:=Lib.hid hN4
          have HO4:=Lib.hid ho4
          have HSz4:=Lib.hid hSz4
          clear hG4 hR4 hA4 hX4 hE4 hN4 ho4 hg4 hSz4 hO3 f0 f1 f2 fz fl
          go_wp2_with fail
          go_roundw
          case rel=>exact ⟨j+1,by omega,by go_num,Lib.hid ⟨.slice X4 (j+1) k4,qs++[⟨ky,dy,A2,p,c2⟩],by simpa using HG4.out.set_ 1 (.slice X4 (j+1) k4),own_setT (by rw [flat_snoc];exact HO4.out) HG4.out (by decide),by rw [List.length_append,HQL.out];rfl,fun i hi=>by
              by_cases e:i < j
              · rw [qe_old _ _ _ (by rw [HQL.out];exact e)]
                have h:=HE4.out i e
                exact ⟨h.key,h.day,own_setT h.row HG4.out (by decide),h.len,h.ks,h.str⟩
              · have e:i=j:=by omega
                subst e
                have e2:=HQL.out
                subst e2
                rw [qe_last]
                exact ⟨HEQ.out.1.symm,HEQ.out.2.symm,own_setT HN4.out HG4.out (by decide),HQj.out.length,by rw [HEQ.out.1];exact HKs.out,HQj.out.str⟩,
            own_setT HA4.out HG4.out (by decide),HR4.out.set_other _ _ _ (by have:=HGR.out;omega),HX4.out.setCell (p:=⟨g,1,none⟩) (show w.heap.size≤g by have:=HbRw.out;have:=HGR.out;omega) _,by simpa [World.setCell] using HSz4.out⟩⟩
          case measure=>simp [intOf];omega
        all_goals try (first | (exact rfl) | (intro u hu;simp at hu;rcases hu with rfl | rfl | rfl <;> rfl) | (unfold maxLen;omega) | omega | (exact Nat.le_trans HSz.out HM3.out.below.size) | (exact lit_at _ _ _ rfl (by simp [World.setCell])))
      · obtain rfl:j=m:=by omega
        have c0:=bg.cell 0
        have c1:=bg.cell 1
        have c2:=bg.cell 2
        have r0:=br.cell 0
        have r1:=br.cell 1
        have r2:=br.cell 2
        have z0:=br.frozen 0
        have z1:=br.frozen 1
        have z2:=br.frozen 2
        have rl:=br.lt
        simp at c0 c1 c2 r0 r1 r2
        have hne:g≠bR:=by have:=HGR.out;omega
        have hne':bR≠g:=fun e=>hne e.symm
        have q0:=(br.set_ 0 (.slice A' n c')).cell 0
        have q1:=((br.set_ 0 (.slice A' n c')).set_ 1 (.slice X' j k')).cell 1
        have q2:=(((br.set_ 0 (.slice A' n c')).set_ 1 (.slice X' j k')).set_ 2 (.int .i64 s)).cell 2
        simp at q0 q1 q2
        have HO:=Lib.hid ho
        have HE:=Lib.hid hent
        have HAc:=Lib.hid hac
        have HBr:=Lib.hid br
        have HX:=Lib.hid hX
        have HQL:=Lib.hid hql
        clear bg ho hent hac br hX hql hsz HI
        go_wp2_with fail
        (try simp only [Exit.inBlock,Exit.then])
        refine bodyPost_ret (by simp [results,Tryz.results121,go_sem,q0,q1,q2];try rfl) rfl ?_
        refine ⟨.slice A' n c',.slice X' j k',by rw [HSH.out],⟨?_,HQ.out.ac.length,HQ.out.ac.str,qs,?_,HQL.out,HN.out,fun i hi=>?_⟩,?_⟩
        · exact own_setT (own_setT (own_setT HAc.out HBr.out (by decide)) (HBr.out.set_ _ _) (by decide)) ((HBr.out.set_ _ _).set_ _ _) (by decide)
        · exact own_base (own_setT (own_setT (own_setT HO.out HBr.out (by decide)) (HBr.out.set_ _ _) (by decide)) ((HBr.out.set_ _ _).set_ _ _) (by decide)) (HM0.out.trans' HMc.out).below.size
        · have h:=HE.out i hi
          exact ⟨h.key,h.day,own_base (own_setT (own_setT (own_setT h.row HBr.out (by decide)) (HBr.out.set_ _ _) (by decide)) ((HBr.out.set_ _ _).set_ _ _) (by decide)) (HM0.out.trans' HMc.out).below.size,h.len,h.ks,h.str⟩
        · exact Mor.of_below (((HX.out.setCell (p:=⟨bR,0,none⟩) HbRw.out _).setCell (p:=⟨bR,1,none⟩) HbRw.out _).setCell (p:=⟨bR,2,none⟩) HbRw.out _)
end Go.Proofs.YtdhbkifpodekcaaGreatDoor
