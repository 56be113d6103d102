/- Texts of this claim. -/
import Derived.Test.YtdhbkifpodekcaaGreatDoorDeskZ36
import Derived.BigRegion
import Derived.Carry
import Derived.Deep.RegionHeld3
import Derived.Deep.RegionWith
namespace Go.Proofs.YtdhbkifpodekcaaGreatDoor
open Go.ChangeShapes Go.WideShapes Go.ChangeAt Go.RowKit Go.PlainAid
set_option linter.unusedVariables false
set_option maxRecDepth 100000
def seenF (es:List En) (k:Nat) (s:ByteArray):Bool:=(List.range k).any fun j=>decide ((ne es j).key=s)
theorem seenF_step (es:List En) (k:Nat):(fun s=>if s=(ne es k).key then true else seenF es k s)=seenF es (k+1):=by
  funext s
  unfold seenF
  rw [List.range_succ,List.any_append]
  simp only [List.any_cons,List.any_nil,Bool.or_false]
  by_cases h:s=(ne es k).key
  · rw [if_pos h,decide_eq_true h.symm,Bool.or_true]
  · rw [if_neg h,decide_eq_false (fun e=>h e.symm),Bool.or_false]
theorem enc_days {x:En} (h:enc x=0):0≤x.day∧x.day≤292193:=by
  obtain ⟨_,h1,h2,_⟩:=entc_ok h;exact ⟨h1,h2⟩
theorem Bk.grown {w w':World} {g gm:Nat} {t:TypeId} {cs:Array Value} (h:Bk w g t cs) (hg:w.grownBy w' (some gm)) (hne:g≠gm):Bk w' g t cs :=
  (hg.block g h.lt (fun e=>by injection e with e;exact hne (by omega))).trans h
set_option maxRecDepth 100000 in
set_option maxHeartbeats 3200000 in
theorem bcheck_any (A:Option Addr) (n c:Nat) (X:Option Addr) (m k:Nat) (b:Bok) (w:World) (h:Bq w A n c X m k b) :
    Calls Tryz.prog 117 #[bv A n c X m k b.shut] w fun e w'=>e=.returned (.int .i64 (bookc b))∧Mor w w':=by
  have HB:=Lib.hid h
  have HA:=Lib.hid (fun w' (hm:Mor w w')=>acct_any A n c b.ac w' (h.ac.si.mor hm) h.ac.length (Nat.le_trans h.ac.le h.ac.max) h.ac.str)
  have hmx:m≤maxLen:=Nat.le_trans h.le h.max
  unfold maxLen at hmx
  by_cases hac:acc b.ac=0
  rotate_left
  · have HE:=Lib.hid (show bookc b=acc b.ac by unfold bookc;rw [if_pos hac])
    generalize acc b.ac=r at *
    have hr:(r != 0)=true:=by simpa using hac
    clear h hac
    go_enter Tryz.func117,Tryz.ntmps117
    go_wp2_with fail
    refine (HA.out _ (Mor.refl _).alloc).mono ?_
    rintro e w1 ⟨rfl,hm⟩
    have HM:=Lib.hid ((Mor.refl w).alloc.trans' hm)
    clear hm
    go_wp2_with fail
    go_ret
    exact ⟨by rw [HE.out] <;> rfl,HM.out⟩
  have hn24:n≤24:=by
    rw [← h.ac.length]
    unfold acc at hac
    split at hac <;> omega
  rw [hac] at HA
  by_cases hs:b.shut < -1∨292193 < b.shut
  · have HE:=Lib.hid (show bookc b=1 by unfold bookc;rw [if_neg (by simp [hac]),if_pos hs])
    generalize b.shut=s at *
    clear h hac
    rcases hs with hs | hs
    · go_enter Tryz.func117,Tryz.ntmps117
      go_wp2_with fail
      refine (HA.out _ (Mor.refl _).alloc).mono ?_
      rintro e w1 ⟨rfl,hm⟩
      have hb:=(Bk.new w 37 #[.slice A n c,.slice X m k,.int .i64 s]).mor hm
      have c2:=hb.cell 2
      have cl:=hb.lt
      simp at c2
      have HM:=Lib.hid ((Mor.refl w).alloc.trans' hm)
      clear hm hb
      go_wp2_with fail
      go_ret
      exact ⟨by rw [HE.out] <;> rfl,HM.out⟩
    · have hs2:¬ s < -1:=by omega
      go_enter Tryz.func117,Tryz.ntmps117
      go_wp2_with fail
      refine (HA.out _ (Mor.refl _).alloc).mono ?_
      rintro e w1 ⟨rfl,hm⟩
      have hb:=(Bk.new w 37 #[.slice A n c,.slice X m k,.int .i64 s]).mor hm
      have c2:=hb.cell 2
      have cl:=hb.lt
      simp at c2
      have HM:=Lib.hid ((Mor.refl w).alloc.trans' hm)
      clear hm hb
      go_wp2_with fail
      go_ret
      exact ⟨by rw [HE.out] <;> rfl,HM.out⟩
  have hs1:¬ b.shut < -1:=by omega
  have hs2:¬ 292193 < b.shut:=by omega
  by_cases h60:60 < m
  · have HE:=Lib.hid (show bookc b=2 by unfold bookc;rw [if_neg (by simp [hac]),if_neg hs,if_pos (by rw [h.length];exact h60)])
    generalize b.shut=s at *
    clear h hac hs
    go_enter Tryz.func117,Tryz.ntmps117
    go_wp2_with fail
    refine (HA.out _ (Mor.refl _).alloc).mono ?_
    rintro e w1 ⟨rfl,hm⟩
    have hb:=(Bk.new w 37 #[.slice A n c,.slice X m k,.int .i64 s]).mor hm
    have c1:=hb.cell 1
    have c2:=hb.cell 2
    have cl:=hb.lt
    simp at c1 c2
    have HM:=Lib.hid ((Mor.refl w).alloc.trans' hm)
    clear hm hb
    go_wp2_with fail
    go_ret
    exact ⟨by rw [HE.out] <;> rfl,HM.out⟩
  have h60':m≤60:=by omega
  have HE:=Lib.hid (show bookc b=bkUp b.ac b.en m by unfold bookc;rw [if_neg (by simp [hac]),if_neg hs,if_neg (by rw [h.length];exact h60),h.length])
  obtain ⟨es,hes⟩:∃ es,b.en=es:=⟨_,rfl⟩
  obtain ⟨ac,hac2⟩:∃ ac,b.ac=ac:=⟨_,rfl⟩
  have HAC:=Lib.hid (fun w' (hm:Mor w w')=>show Si w' A ac by rw [← hac2];exact h.ac.si.mor hm)
  have HACn:=Lib.hid (show ac.length=n by rw [← hac2];exact h.ac.length)
  have HES:=Lib.hid (fun w' (hm:Mor w w')=>show Es w' X es by rw [← hes];exact h.es.mor hm)
  have HN:=Lib.hid (show es.length=m by rw [← hes];exact h.length)
  rw [hes,hac2] at HE
  generalize b.shut=s at *
  generalize bookc b=r at *
  clear h HB hac hs h60 hes hac2 b
  go_enter Tryz.func117,Tryz.ntmps117
  go_wp2_with fail
  refine (HA.out _ (Mor.refl _).alloc).mono ?_
  rintro e w1 ⟨rfl,hm⟩
  have hb:=(Bk.new w 37 #[.slice A n c,.slice X m k,.int .i64 s]).mor hm
  obtain ⟨bP,hbP⟩:∃ b,b=w.heap.size:=⟨_,rfl⟩
  rw [← hbP] at hb ⊢
  have c1:=hb.cell 1
  have c2:=hb.cell 2
  have cl:=hb.lt
  simp at c1 c2
  have HP:=Lib.hid hb
  have HM:=Lib.hid ((Mor.refl w).alloc.trans' hm)
  clear hm hb hbP
  have hmm:=@run_makeMap Tryz.prog
  go_wp2_with fail
  clear hmm
  obtain ⟨gm,hgm⟩:∃ g,g=w1.heap.size:=⟨_,rfl⟩
  rw [← hgm]
  have HGM:=Lib.hid hgm
  have HB0:=Lib.hid (show Bs (w1.alloc (.map #[] 0)) gm 0 (seenF es 0) by rw [hgm];exact Bs.made w1)
  clear hgm
  go_loopw [30] (fun i wr=>∃ j:Nat,j≤m∧i=.int .i64 j∧Hid (bkUp ac es j=0)∧Hid (Bs wr gm j (seenF es j))∧Hid (Below w1.heap.size w1 wr)) (fun i _=>m - (intOf i).toNat)
  case atStart=>exact ⟨0,Nat.zero_le _,rfl,Lib.hid rfl,HB0,Lib.hid (Mor.refl _).alloc.below⟩
  case round =>
    obtain ⟨j,hj,rfl,HU,HS,HX⟩:=hrel
    have HMr:=Lib.hid (HM.out.trans' (Mor.of_below HX.out))
    by_cases hlt:j < m
    · have hji:(j:Int) < (m:Int):=by omega
      have hj0:(0:Int)≤(j:Int):=by omega
      obtain ⟨x,B,p,q,hX,hxb,hks,d0,d1,d2,hq⟩:=(HES.out _ HMr.out).at_ j (by rw [HN.out];exact hlt)
      subst hX
      have hb:=HP.out.below HX.out cl
      have e0:=hb.cell 0
      have e1:=hb.cell 1
      have e2:=hb.cell 2
      have el:=hb.lt
      simp at e0 e1 e2
      have HQ:=Lib.hid hq
      have HBad:=Lib.hid (fun h:bkAt ac es j≠0=>show r=bkAt ac es j by rw [HE.out,bkUp_bad HU.out h hlt])
      have HOk:=Lib.hid (fun h:bkAt ac es j=0=>bkUp_ok HU.out h)
      have HAt:=Lib.hid (show bkAt ac es j=if enc (ne es j)≠0 then enc (ne es j) else if knownB ac (ne es j)=false then 4 else if seenF es j (ne es j).key=true then 5 else if 0 < j∧¬ elt (ne es (j - 1)) (ne es j) then 3 else 0 from rfl)
      have HCk:=Lib.hid (fun w' (hm:Mor wr w')=>check_any (ne es j).key (ne es j).day B p q (ne es j).ls w' hks (HQ.out.si.mor hm) HQ.out.length HQ.out.le (Nat.le_trans HQ.out.le HQ.out.max) HQ.out.str)
      have HLen:=Lib.hid (fun h:enc (ne es j)=0=>show p≤12 from by
        obtain ⟨_,_,_,h4⟩:=entc_ok h
        have:=(linec_ok h4).1
        have:=HQ.out.length
        omega)
      rw [show entc (ne es j).key (ne es j).day (ne es j).ls=enc (ne es j) from rfl] at HCk
      have HKn:=Lib.hid (fun w' (hm:Mor wr w') (hp:p≤12)=>known_any A n c (some x) m k s B p q ac (ne es j) w' (HAC.out _ (HMr.out.trans' hm)) HACn.out (by omega) (HQ.out.si.mor hm) HQ.out.length (by omega))
      have HDay:=Lib.hid (fun h:enc (ne es j)=0=>enc_days h)
      have HPrev:=Lib.hid (fun h:0 < j=>show enc (ne es (j - 1))=0 from (bkAt_ok (bkUp_at HU.out (by omega))).1)
      have HCm:=Lib.hid (fun w' (h:0 < j) (h2:enc (ne es j)=0) A' n' c'=>cmp_any (ne es (j - 1)) (ne es j) A' n' c' B p q w' (enc_days (HPrev.out h)).1 (enc_days (HPrev.out h)).2 (enc_days h2).1 (enc_days h2).2)
      have HLt:=Lib.hid (cmpE_lt (ne es (j - 1)) (ne es j))
      have HStep:=Lib.hid (seenF_step es j)
      have HLk:=Lib.hid (fun w' (h:Bs w' gm j (seenF es j))=>h.look (ne es j).key hks)
      have HKs:=Lib.hid hks
      clear hks
      generalize hky:(ne es j).key=ky at *
      generalize hdy:(ne es j).day=dy at *
      by_cases hen:enc (ne es j)=0
      rotate_left
      · have HF:=Lib.hid (show r=enc (ne es j) by
          have e:bkAt ac es j=enc (ne es j):=by rw [HAt.out,if_pos hen]
          rw [HBad.out (by rw [e];exact hen),e])
        generalize enc (ne es j)=ec at *
        have hb:(ec != 0)=true:=by simpa using hen
        clear hq hen hky hdy HAt HBad HOk HKn HCm HLk
        go_wp2_with (go_at_call 118;(with_reducible refine (HCk.out _ ((Mor.refl _).alloc)).mono ?_);rintro e w5 ⟨rfl,bs,dr,rfl⟩)
        go_ret
        exact ⟨by rw [HF.out] <;> rfl,HMr.out.alloc.more⟩
      rw [hen] at HCk
      have HAt2:=Lib.hid (show bkAt ac es j=if knownB ac (ne es j)=false then 4 else if seenF es j ky=true then 5 else if 0 < j∧¬ elt (ne es (j - 1)) (ne es j) then 3 else 0 by rw [HAt.out,if_neg (by simp [hen])])
      have HDy:=Lib.hid (HDay.out hen)
      have HP12:=Lib.hid (HLen.out hen)
      have HCm2:=Lib.hid (fun w' (h:0 < j) A' n' c'=>HCm.out w' h hen A' n' c')
      clear hen HAt HCm HDay HLen
      cases hkn:knownB ac (ne es j)
      · rw [hkn] at HKn
        have HF:=Lib.hid (show r=4 by
          have e:bkAt ac es j=4:=by rw [HAt2.out,if_pos hkn]
          rw [HBad.out (by omega),e])
        clear hkn hq hky hdy HAt2 HBad HOk HLk HCm2
        go_wp2_with (first
          | (go_at_call 118;(with_reducible refine (HCk.out _ ((Mor.refl _).alloc)).mono ?_);rintro e w5 ⟨rfl,bs,dr,rfl⟩)
          | (go_at_call 122;(with_reducible refine (HKn.out _ ((Mor.refl _).alloc.more) HP12.out).mono ?_);rintro e w6 ⟨rfl,bs2,dr2,rfl⟩))
        go_ret
        exact ⟨by rw [HF.out] <;> rfl,HMr.out.alloc.more⟩
      rw [hkn] at HKn
      have HAt3:=Lib.hid (show bkAt ac es j=if seenF es j ky=true then 5 else if 0 < j∧¬ elt (ne es (j - 1)) (ne es j) then 3 else 0 by rw [HAt2.out,if_neg (by simp [hkn])])
      clear hkn HAt2
      go_wp2_with ((go_at_call 118;(with_reducible refine (HCk.out _ ((Mor.refl _).alloc)).mono ?_);rintro e w5 ⟨rfl,bs,dr,rfl⟩))
      refine (HKn.out _ ((Mor.refl _).alloc.more) HP12.out).mono ?_
      rintro e w6 ⟨rfl,hm6⟩
      have hm6':Mor (wr.alloc (.cells #[.string ky,.int .i64 dy,.slice B p q] 111)) w6:=(Mor.refl _).more.trans' hm6
      have hE:=(Bk.new wr 111 #[.string ky,.int .i64 dy,.slice B p q]).mor hm6'
      have hP6:=(hb.alloc (.cells #[.string ky,.int .i64 dy,.slice B p q] 111)).mor hm6'
      have hS6:=(HS.out.alloc (.cells #[.string ky,.int .i64 dy,.slice B p q] 111)).mor hm6'
      have hM6:Mor wr w6:=(Mor.refl _).alloc.trans' hm6'
      obtain ⟨bE,hbE⟩:∃ b,b=wr.heap.size:=⟨_,rfl⟩
      rw [← hbE] at hE ⊢
      have HbE:=Lib.hid (show wr.heap.size≤bE by omega)
      have HE6:=Lib.hid hE
      have HP6:=Lib.hid hP6
      have HS6:=Lib.hid hS6
      have HM6:=Lib.hid hM6
      have lk:=HLk.out w6 hS6
      have f0:=hE.cell 0
      have f1:=hE.cell 1
      have f2:=hE.cell 2
      have fl:=hE.lt
      have e0:=hP6.cell 0
      have e1:=hP6.cell 1
      have e2:=hP6.cell 2
      have el:=hP6.lt
      simp at f0 f1 f2 e0 e1 e2
      clear hE hP6 hS6 hM6 hm6 hm6' hb hq d0 d1 d2 hxb HCk HKn hbE HLk
      by_cases hse:seenF es j ky=true
      · rw [hse] at lk
        have HF:=Lib.hid (show r=5 by
          have e:bkAt ac es j=5:=by rw [HAt3.out,if_pos hse]
          rw [HBad.out (by omega),e])
        clear hse hky hdy HAt3 HBad HOk HCm2
        go_wp2_with fail
        go_ret
        exact ⟨by rw [HF.out] <;> rfl,HMr.out.trans' HM6.out⟩
      have hse':seenF es j ky=false:=by simpa using hse
      rw [hse'] at lk
      have HAt4:=Lib.hid (show bkAt ac es j=if 0 < j∧¬ elt (ne es (j - 1)) (ne es j) then 3 else 0 by rw [HAt3.out,if_neg hse])
      clear hse hse' HAt3
      go_wp2_with (at_mapUpdate;refine wpList_put_bs _ rfl _ _ _ rfl gm j _ rfl HS6.out (by unfold maxLen;omega) ky true rfl rfl HKs.out ?_)
      intro w7 hb7 hg7
      have hX7:Below w1.heap.size w1 w7:=(Below.mono (HX.out.trans (Below.mono HM6.out.below HX.out.size)) (Nat.le_refl _)).grown hg7 (Nat.le_trans HX.out.size HM6.out.below.size) (fun i hi=>by cases hi;have:=HGM.out;omega)
      have hE7:=HE6.out.grown hg7 (show bE≠gm by have:=HS.out.lt;have:=HbE.out;omega)
      have hP7:=HP6.out.grown hg7 (show bP≠gm by have:=HGM.out;omega)
      have HX7:=Lib.hid hX7
      have HM7:=Lib.hid (HM.out.trans' (Mor.of_below hX7))
      have HS7:=Lib.hid (show Bs w7 gm (j+1) (seenF es (j+1)) by rw [← HStep.out];simpa using hb7)
      have HE7:=Lib.hid hE7
      have HP7:=Lib.hid hP7
      have f0:=hE7.cell 0
      have f1:=hE7.cell 1
      have f2:=hE7.cell 2
      have fl:=hE7.lt
      have e0:=hP7.cell 0
      have e1:=hP7.cell 1
      have e2:=hP7.cell 2
      have el:=hP7.lt
      simp at f0 f1 f2 e0 e1 e2
      clear hX7 hE7 hP7 hb7 hg7 lk HE6 HP6 HS6 HM6 HX HS hky hdy
      by_cases h0:0 < j
      · obtain ⟨i,rfl⟩:∃ i,j=i+1:=⟨j - 1,by omega⟩
        simp only [Nat.add_sub_cancel] at HCm2 HLt HAt4 HPrev
        obtain ⟨x',B',p',q',hX',hxb',hks',d0,d1,d2,hq'⟩:=(HES.out _ HM7.out).at_ i (by rw [HN.out];omega)
        injection hX' with hX'
        subst hX'
        have hin:(0:Int)≤(i:Int):=by omega
        have him:(i:Int) < (m:Int):=by omega
        have kw1:IntKind.i64.wrap (i:Int)=(i:Int):=IntWalk.i64_in _ (by omega)
        have kw2:IntKind.i64.wrap ((i:Int)+1 - 1)=(i:Int):=by rw [show (i:Int)+1 - 1=i by omega];exact kw1
        have HCm3:=Lib.hid (fun w'=>HCm2.out w' h0 B' p' q')
        generalize (ne es i).key=ky' at *
        generalize (ne es i).day=dy' at *
        generalize cmpE (ne es i) (ne es (i+1))=cm at *
        have HKp:=Lib.hid (fun w' (h:Mor w7 w')=>show (w'.cell? ⟨bP,1,none⟩=some (.slice (some x) m k)∧w'.cell? ⟨bE,0,none⟩=some (.string ky)∧w'.cell? ⟨bE,1,none⟩=some (.int .i64 dy)∧w'.cell? ⟨bE,2,none⟩=some (.slice B p q)∧w'.cell? (x.add (i*3))=some (.string ky')∧w'.cell? ⟨(x.add (i*3)).block,(x.add (i*3)).off+1,none⟩=some (.int .i64 dy')∧w'.cell? ⟨(x.add (i*3)).block,(x.add (i*3)).off+2,none⟩=some (.slice B' p' q')) from by
          have hp:=HP7.out.mor h
          have he:=HE7.out.mor h
          exact ⟨by rw [hp.cell];rfl,by rw [he.cell];rfl,by rw [he.cell];rfl,by rw [he.cell];rfl,(h.below.cell (p:=x.add (i*3)) (by rw [addb];exact hxb')).trans d0,(h.below.cell (p:=⟨(x.add (i*3)).block,(x.add (i*3)).off+1,none⟩) (by rw [addb];exact hxb')).trans d1,(h.below.cell (p:=⟨(x.add (i*3)).block,(x.add (i*3)).off+2,none⟩) (by rw [addb];exact hxb')).trans d2⟩)
        by_cases hc:cm < 0
        · have HG:=Lib.hid (HOk.out (by rw [HAt4.out,if_neg (by rintro ⟨_,h⟩;exact h (HLt.out.1 hc))]))
          have hc1:decide (0≤cm)=false:=by simp;omega
          have hc2:¬ 0≤cm:=by omega
          go_wp2_with fail
          go_region_held3 (fun w'=>w'.cell? ⟨bP,1,none⟩=some (.slice (some x) m k)∧w'.cell? ⟨bE,0,none⟩=some (.string ky)∧w'.cell? ⟨bE,1,none⟩=some (.int .i64 dy)∧w'.cell? ⟨bE,2,none⟩=some (.slice B p q)∧w'.cell? (x.add (i*3))=some (.string ky')∧w'.cell? ⟨(x.add (i*3)).block,(x.add (i*3)).off+1,none⟩=some (.int .i64 dy')∧w'.cell? ⟨(x.add (i*3)).block,(x.add (i*3)).off+2,none⟩=some (.slice B' p' q')) (exact HKp.out _ (by repeat (first | exact Mor.refl _ | apply Mor.alloc | apply Mor.more | apply Mor.drewN | apply Mor.drew))) (first | (go_at_call 125;(with_reducible refine (HCm3.out _).mono ?_);rintro e w8 ⟨rfl,bs3,dr3,rfl⟩))
          obtain ⟨wn,hwn⟩:∃ wn,wn=more w7 bs3 dr3:=⟨_,rfl⟩
          rw [← hwn]
          have HSn:=Lib.hid (show Bs wn gm (i+1+1) (seenF es (i+1+1)) by rw [hwn];exact HS7.out.mor (Mor.refl _).more)
          have HXn:=Lib.hid (show Below w1.heap.size w1 wn by rw [hwn];exact (HX7.out.trans (Below.mono (Mor.refl w7).more.below HX7.out.size)))
          clear hwn HKp
          go_wp2_with fail
          go_roundw
          case rel=>exact ⟨i+1+1,by omega,by go_num,HG,HSn,HXn⟩
          case measure=>simp [intOf];omega
        · have HF:=Lib.hid (show r=3 by
            have e:bkAt ac es (i+1)=3:=by rw [HAt4.out,if_pos ⟨h0,fun h=>hc (HLt.out.2 h)⟩]
            rw [HBad.out (by omega),e])
          have hc1:decide (0≤cm)=true:=by simp;omega
          have hc2:0≤cm:=by omega
          go_wp2_with fail
          go_region_held3 (fun w'=>w'.cell? ⟨bP,1,none⟩=some (.slice (some x) m k)∧w'.cell? ⟨bE,0,none⟩=some (.string ky)∧w'.cell? ⟨bE,1,none⟩=some (.int .i64 dy)∧w'.cell? ⟨bE,2,none⟩=some (.slice B p q)∧w'.cell? (x.add (i*3))=some (.string ky')∧w'.cell? ⟨(x.add (i*3)).block,(x.add (i*3)).off+1,none⟩=some (.int .i64 dy')∧w'.cell? ⟨(x.add (i*3)).block,(x.add (i*3)).off+2,none⟩=some (.slice B' p' q')) (exact HKp.out _ (by repeat (first | exact Mor.refl _ | apply Mor.alloc | apply Mor.more | apply Mor.drewN | apply Mor.drew))) (first | (go_at_call 125;(with_reducible refine (HCm3.out _).mono ?_);rintro e w8 ⟨rfl,bs3,dr3,rfl⟩))
          obtain ⟨wn,hwn⟩:∃ wn,wn=more w7 bs3 dr3:=⟨_,rfl⟩
          rw [← hwn]
          have HMn:=Lib.hid (show Mor w wn by rw [hwn];exact HM7.out.trans' (Mor.refl _).more)
          clear hwn HKp
          go_wp2_with fail
          go_ret
          exact ⟨by rw [HF.out] <;> rfl,HMn.out⟩
      · obtain rfl:j=0:=by omega
        have HG:=Lib.hid (HOk.out (by rw [HAt4.out,if_neg (by omega)]))
        go_wp2_with fail
        go_quiet (fail)
        go_wp2_with fail
        go_roundw
        case rel=>exact ⟨0+1,by omega,by go_num,HG,HS7,Lib.hid (bel_dN HX7.out)⟩
        case measure=>simp [intOf];omega
    · obtain rfl:j=m:=by omega
      go_wp2_with fail
      go_ret
      exact ⟨by rw [HE.out,HU.out] <;> rfl,HMr.out⟩
theorem ln_take (s:ByteArray) (ls:List Ln) (k:Nat) (h:k < ls.length):lnOf (ls.take (k+1)) s=lnOf (ls.take k) s+if cd ls k=s then am ls k else 0:=by
  unfold lnOf
  rw [sm_take _ _ _ h,(cd_at ls k h).1,(cd_at ls k h).2]
theorem of_take (s:ByteArray) (f t:Int) (es:List En) (k:Nat) (h:k < es.length):ofS (es.take (k+1)) s f t=ofS (es.take k) s f t+enOf s f t (ne es k):=by
  unfold ofS
  rw [sm_take _ _ _ h,ne_eq _ _ h]
set_option maxRecDepth 100000 in
set_option maxHeartbeats 3200000 in
theorem of_any (A:Option Addr) (n c:Nat) (X:Option Addr) (m k:Nat) (sh:Int) (es:List En) (s:ByteArray) (f t:Int) (w:World) (hr:Es w X es) (hn:es.length=m) (hl:m≤60) (he:∀ x∈es,enc x=0) :
    Calls Tryz.prog 128 #[bv A n c X m k sh,.string s,.int .i64 f,.int .i64 t] w fun e w'=>e=.returned (.int .i64 (ofS es s f t))∧Mor w w':=by
  have HR:=Lib.hid hr
  have HN:=Lib.hid hn
  have HE:=Lib.hid (fun j (hj:j < m)=>he (ne es j) (by rw [ne_eq _ _ (by omega)];exact List.getElem_mem _))
  have HBd:=Lib.hid (fun j (hj:j≤m)=>ofS_bd (es:=es.take j) (fun x hx=>he x (List.mem_of_mem_take hx)) (by rw [List.length_take];omega) s f t)
  have HSt:=Lib.hid (fun j (hj:j < m)=>of_take s f t es j (by omega))
  clear hr hn he
  go_enter Tryz.func128,Tryz.ntmps128
  go_wp2
  go_loopw [9,17] (fun v i wr=>∃ j:Nat,j≤m∧i=.int .i64 j∧v=.int .i64 (ofS (es.take j) s f t)∧Hid (Mor w wr)) (fun _ i _=>m - (intOf i).toNat)
  case atStart=>exact ⟨0,Nat.zero_le _,rfl,rfl,Lib.hid (Mor.refl _).alloc⟩
  case round =>
    obtain ⟨j,hj,rfl,rfl,HM⟩:=hrel
    by_cases hlt:j < m
    · have hji:(j:Int) < (m:Int):=by omega
      have hj0:(0:Int)≤(j:Int):=by omega
      obtain ⟨x,B,p,q,hX,hxb,-,d0,d1,d2,hq⟩:=(HR.out.mor HM.out).at_ j (by rw [HN.out];exact hlt)
      subst hX
      have HQ:=Lib.hid hq
      have HS1:=Lib.hid (HSt.out j hlt)
      have HEn:=Lib.hid (HE.out j hlt)
      have HBj:=Lib.hid (HBd.out j (by omega))
      have HEo:=Lib.hid (show enOf s f t (ne es j)=if (ne es j).day < f∨t < (ne es j).day then 0 else lnOf (ne es j).ls s from rfl)
      obtain ⟨p12,_,_,hok,_⟩:=en_lines HEn.out
      rw [hq.length] at p12
      have HLb:=Lib.hid (fun i (hi:i≤p)=>lnOf_bd (ls:=(ne es j).ls.take i) (fun y hy=>hok y (List.mem_of_mem_take hy)) s)
      have HLs:=Lib.hid (fun i (hi:i < p)=>ln_take s (ne es j).ls i (by rw [hq.length];exact hi))
      have HLa:=Lib.hid (fun i (hi:i < p)=>show -1000000000000≤am (ne es j).ls i∧am (ne es j).ls i≤1000000000000 from by
        have h1:i < (ne es j).ls.length:=by rw [hq.length];exact hi
        rw [(cd_at _ i h1).2]
        have:=hok _ (List.getElem_mem h1)
        unfold okL at this;omega)
      have HAll:=Lib.hid (show (ne es j).ls.take p=(ne es j).ls from List.take_of_length_le (by rw [hq.length];exact Nat.le_refl _))
      have HLl:=Lib.hid (fun i (hi:i≤p)=>show ((ne es j).ls.take i).length=i by rw [List.length_take,hq.length];omega)
      clear hq hok
      generalize ofS (es.take j) s f t=S at *
      generalize (ne es j).key=ky at *
      generalize (ne es j).ls=ls at *
      generalize (ne es j).day=d at *
      obtain ⟨sb1,sb2⟩:=HBj.out
      by_cases h1:d < f
      · have HV:=Lib.hid (show ofS (es.take (j+1)) s f t=S by rw [HS1.out,HEo.out,if_pos (.inl h1),Int.add_zero])
        go_wp2_with fail
        go_roundw
        case rel=>exact ⟨j+1,by omega,by go_num,by rw [HV.out],Lib.hid HM.out.alloc⟩
        case measure=>simp [intOf];omega
      · by_cases h2:t < d
        · have HV:=Lib.hid (show ofS (es.take (j+1)) s f t=S by rw [HS1.out,HEo.out,if_pos (.inr h2),Int.add_zero])
          go_wp2_with fail
          go_roundw
          case rel=>exact ⟨j+1,by omega,by go_num,by rw [HV.out],Lib.hid HM.out.alloc⟩
          case measure=>simp [intOf];omega
        · have HV:=Lib.hid (show ofS (es.take (j+1)) s f t=S+lnOf ls s by rw [HS1.out,HEo.out,if_neg (by omega)])
          clear HEo HS1 HSt HE HEn
          go_wp2_with fail
          go_loopw [9,34] (fun v i wr2=>∃ y:Nat,y≤p∧i=.int .i64 y∧v=.int .i64 (S+lnOf (ls.take y) s)∧Hid (Mor wr wr2)) (fun _ i _=>p - (intOf i).toNat)
          case atStart=>exact ⟨0,Nat.zero_le _,rfl,by show _=Value.int .i64 (S+0);rw [Int.add_zero],Lib.hid (Mor.refl _).alloc⟩
          case round =>
            obtain ⟨y,hy,rfl,rfl,HM2⟩:=hrel
            obtain ⟨lb1,lb2⟩:=HLb.out y hy
            rw [HLl.out y hy] at lb1 lb2
            by_cases hyp:y < p
            · have hyi:(y:Int) < (p:Int):=by omega
              have hy0:(0:Int)≤(y:Int):=by omega
              obtain ⟨x2,hA,hx2b,g1,g2⟩:=(HQ.out.si.mor HM2.out).at_ y (by rw [HQ.out.length];exact hyp)
              subst hA
              obtain ⟨la1,la2⟩:=HLa.out y hyp
              have HL1:=Lib.hid (HLs.out y hyp)
              generalize lnOf (ls.take y) s=L at *
              generalize cd ls y=cy at *
              generalize am ls y=ay at *
              by_cases hc:cy=s
              · have HW:=Lib.hid (show S+lnOf (ls.take (y+1)) s=S+L+ay by rw [HL1.out,if_pos hc];omega)
                subst hc
                go_wp2_with fail
                go_roundw
                case rel=>exact ⟨y+1,by omega,by go_num,by rw [HW.out],Lib.hid HM2.out.alloc⟩
                case measure=>simp [intOf];omega
              · have HW:=Lib.hid (show S+lnOf (ls.take (y+1)) s=S+L by rw [HL1.out,if_neg hc];omega)
                have hcb:(cy.toList == s.toList)=false:=by rw [str_eq];exact decide_eq_false hc
                go_wp2_with fail
                go_roundw
                case rel=>exact ⟨y+1,by omega,by go_num,by rw [HW.out],Lib.hid HM2.out.alloc⟩
                case measure=>simp [intOf];omega
            · obtain rfl:y=p:=by omega
              rw [HAll.out]
              go_wp2_with fail
              go_roundw
              case rel=>exact ⟨j+1,by omega,by go_num,by rw [HV.out],Lib.hid (HM.out.trans' HM2.out)⟩
              case measure=>simp [intOf];omega
    · obtain rfl:j=m:=by omega
      have hall:es.take j=es:=List.take_of_length_le (by rw [HN.out];exact Nat.le_refl _)
      rw [hall]
      go_wp2
      go_ret
      exact ⟨rfl,HM.out⟩
set_option maxHeartbeats 1600000 in
theorem bal_any (A:Option Addr) (n c:Nat) (X:Option Addr) (m k:Nat) (b:Bok) (s:ByteArray) (day:Int) (w:World) (h:Bq w A n c X m k b) :
    Calls Tryz.prog 136 #[bv A n c X m k b.shut,.string s,.int .i64 day] w fun e w'=>e=.returned (.tuple #[.int .i64 (balv b s day),.int .i64 (balc b s day)])∧Mor w w':=by
  have HC:=Lib.hid (fun w' (hm:Mor w w')=>bcheck_any A n c X m k b w' (h.mor hm))
  have HBc:=Lib.hid (show balc b s day=if bookc b≠0 then bookc b else if hasB b.ac s=false then 4 else if day < 0∨292193 < day then 1 else 0 from rfl)
  have HBv:=Lib.hid (show balv b s day=if balc b s day≠0 then 0 else ofS b.en s 0 day from rfl)
  generalize balv b s day=v at *
  generalize balc b s day=c' at *
  by_cases h1:bookc b=0
  rotate_left
  · rw [if_pos h1] at HBc
    rw [HBc.out,if_pos h1] at HBv
    generalize bookc b=r at *
    have hr:(r != 0)=true:=by simpa using h1
    clear h h1
    generalize b.shut=sh at *
    go_enter Tryz.func136,Tryz.ntmps136
    go_wp2_with fail
    refine (HC.out _ (Mor.refl _).alloc).mono ?_
    rintro e w1 ⟨rfl,hm⟩
    have HM:=Lib.hid ((Mor.refl w).alloc.trans' hm)
    clear hm
    go_wp2_with fail
    go_returns
    exact ⟨by rw [HBv.out,HBc.out] <;> rfl,HM.out⟩
  have hbo:=(bookc_iff b).1 h1
  have hn24:n≤24:=by rw [← h.ac.length];exact (acc_ok hbo.ac).1
  rw [if_neg (by simp [h1])] at HBc
  rw [h1] at HC
  have HF:=Lib.hid (fun w' (hm:Mor w w')=>find_ac A n c b.ac s w' (h.ac.si.mor hm) h.ac.length (by omega))
  have HO:=Lib.hid (fun w' (hm:Mor w w')=>of_any A n c X m k b.shut b.en s 0 day w' (h.es.mor hm) h.length (by rw [← h.length];exact hbo.len) hbo.enc)
  have HNg:=Lib.hid (findA_neg b.ac s)
  have HD:=Lib.hid (fun w=>cis_any day w)
  generalize ofS b.en s 0 day=ov at *
  generalize findA b.ac s=fa at *
  clear h h1 hbo
  generalize b.shut=sh at *
  by_cases h2:fa < 0
  · rw [if_pos (HNg.out.1 h2)] at HBc
    rw [HBc.out,if_pos (by decide)] at HBv
    go_enter Tryz.func136,Tryz.ntmps136
    go_wp2_with fail
    refine (HC.out _ (Mor.refl _).alloc).mono ?_
    rintro e w1 ⟨rfl,hm⟩
    have hb:=(Bk.new w 37 #[.slice A n c,.slice X m k,.int .i64 sh]).mor hm
    have c0:=hb.cell 0
    have cl:=hb.lt
    simp at c0
    have HM:=Lib.hid ((Mor.refl w).alloc.trans' hm)
    clear hm hb
    go_wp2_with fail
    refine (HF.out _ HM.out).mono ?_
    rintro e w2 ⟨rfl,hm⟩
    have HM2:=Lib.hid (HM.out.trans' hm)
    clear hm
    go_wp2_with fail
    go_returns
    exact ⟨by rw [HBv.out,HBc.out] <;> rfl,HM2.out⟩
  · have hhas:¬ hasB b.ac s=false:=fun e=>h2 (HNg.out.2 e)
    rw [if_neg hhas] at HBc
    by_cases h3:day < 0∨292193 < day
    · rw [if_pos h3] at HBc
      rw [HBc.out,if_pos (by decide)] at HBv
      rw [show (decide (0≤day) && decide (day≤292193))=false by simp;omega] at HD
      go_enter Tryz.func136,Tryz.ntmps136
      go_wp2_with fail
      refine (HC.out _ (Mor.refl _).alloc).mono ?_
      rintro e w1 ⟨rfl,hm⟩
      have hb:=(Bk.new w 37 #[.slice A n c,.slice X m k,.int .i64 sh]).mor hm
      have c0:=hb.cell 0
      have cl:=hb.lt
      simp at c0
      have HM:=Lib.hid ((Mor.refl w).alloc.trans' hm)
      clear hm hb
      go_wp2_with fail
      refine (HF.out _ HM.out).mono ?_
      rintro e w2 ⟨rfl,hm⟩
      have HM2:=Lib.hid (HM.out.trans' hm)
      clear hm
      go_wp2_with (go_at_call 93;(with_reducible refine (HD.out _).mono ?_);rintro e w1 ⟨rfl,rfl⟩)
      go_returns
      exact ⟨by rw [HBv.out,HBc.out] <;> rfl,HM2.out⟩
    · rw [if_neg h3] at HBc
      rw [HBc.out,if_neg (by decide)] at HBv
      rw [show (decide (0≤day) && decide (day≤292193))=true by simp;omega] at HD
      go_enter Tryz.func136,Tryz.ntmps136
      go_wp2_with fail
      refine (HC.out _ (Mor.refl _).alloc).mono ?_
      rintro e w1 ⟨rfl,hm⟩
      have hb:=(Bk.new w 37 #[.slice A n c,.slice X m k,.int .i64 sh]).mor hm
      have c0:=hb.cell 0
      have cl:=hb.lt
      simp at c0
      have HB:=Lib.hid hb
      have HM:=Lib.hid ((Mor.refl w).alloc.trans' hm)
      clear hm hb
      go_wp2_with fail
      refine (HF.out _ HM.out).mono ?_
      rintro e w2 ⟨rfl,hm⟩
      have hb:=HB.out.mor hm
      have HM2:=Lib.hid (HM.out.trans' hm)
      clear hm c0 cl
      have c0:=hb.cell 0
      have c1:=hb.cell 1
      have c2:=hb.cell 2
      have cl:=hb.lt
      simp at c0 c1 c2
      clear hb
      go_wp2_with (first | (go_at_call 93;(with_reducible refine (HD.out _).mono ?_);rintro e w1 ⟨rfl,rfl⟩))
      refine (HO.out _ HM2.out).mono ?_
      rintro e w3 ⟨rfl,hm⟩
      have HM3:=Lib.hid (HM2.out.trans' hm)
      clear hm
      go_wp2_with fail
      go_returns
      exact ⟨by rw [HBv.out,HBc.out] <;> rfl,HM3.out⟩
end Go.Proofs.YtdhbkifpodekcaaGreatDoor
