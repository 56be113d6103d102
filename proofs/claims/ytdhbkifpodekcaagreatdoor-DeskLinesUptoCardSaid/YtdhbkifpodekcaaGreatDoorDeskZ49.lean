/- Texts of this claim. -/
import Derived.Test.YtdhbkifpodekcaaGreatDoorDeskZ48
import Derived.Recover
namespace Go.Proofs.YtdhbkifpodekcaaGreatDoor
open Go Go.ChangeShapes Go.WideShapes Go.ChangeAt Go.RowKit Go.PlainAid
set_option linter.unusedVariables false
set_option maxRecDepth 100000
theorem nextR_sz {ws:List ByteArray} {p:Nat} {s:ByteArray} (hsz:∀ s∈ws,s.size≤100000) (h:nextR ws p=some s):s.size≤maxLen:=by
  obtain ⟨h1,h2⟩:=nextR_some h
  have:s∈ws:=by
    rw [← h2,wdd,List.getD_eq_getElem?_getD,List.getElem?_eq_getElem h1,Option.getD_some]
    exact List.getElem_mem h1
  have:=hsz s this
  unfold maxLen;omega
theorem nums4 {ws:List ByteArray} {p:Nat} (h:∀ i,i < 4→(numR ws (p+i)).isSome):∃ a b c d,numR ws p=some a∧numR ws (p+1)=some b∧numR ws (p+2)=some c∧numR ws (p+3)=some d∧numL ws p 4=[a,b,c,d]:=by
  obtain ⟨a,ha⟩:=Option.isSome_iff_exists.1 (h 0 (by omega))
  obtain ⟨b,hb⟩:=Option.isSome_iff_exists.1 (h 1 (by omega))
  obtain ⟨c,hc⟩:=Option.isSome_iff_exists.1 (h 2 (by omega))
  obtain ⟨d,hd⟩:=Option.isSome_iff_exists.1 (h 3 (by omega))
  exact ⟨a,b,c,d,ha,hb,hc,hd,by simp [numL,List.range_succ,hb,hc,hd,show numR ws p=some a from ha]⟩
theorem bk_on {W g:Nat} {T:TypeId} {w w':World} {cs:Array Value} (h:Bk w g T cs) (ho:On W w w') (hg:g≠W):Bk w' g T cs:=(ho.block g hg h.lt).trans h
theorem At.other {wb w:World} {W g i:Nat} {A:Option Addr} {n c p:Nat} {u:Value} (h:At wb w W A n c p) (hg:wb.heap.size≤g) (hW:W≠g):At wb (w.setCell ⟨g,i,none⟩ u) W A n c p:=⟨h.mor.setC' hg,h.bk.set_other g i u hW⟩
theorem lq_set {w:World} {A:Option Addr} {n c g i B:Nat} {xs:List Ln} {u:Value} {T:TypeId} {cs:Array Value} (h:w.ownsRow B 149 2 (.slice A n c) n (flat pc xs)) (hg:Bk w g T cs) (hT:149≠T) (hl:xs.length=n) (hs:∀ i,i < n→(cd xs i).size≤maxLen):Lq (w.setCell ⟨g,i,none⟩ u) A n c xs:=by
  obtain ⟨A',c',e,h⟩:=own_lq (own_setT (i:=i) (u:=u) h hg hT) hl hs
  injection e with e1 _ e2
  subst e1 e2
  exact h
set_option maxHeartbeats 3200000 in
theorem rd_post (ws:List ByteArray) (h1:1≤ws.length):RdOk 27 { data:=#[112,111,115,116] } ws:=by
  refine ⟨(nextR ws 1).bind fun s1=>(numR ws 2).bind fun v2=>(linesR ws 3).bind fun l3=>some (ws.length,fun s=>bkR (postc s.b ⟨s1,v2,l3⟩) (if postc s.b ⟨s1,v2,l3⟩=0 then postb s.b ⟨s1,v2,l3⟩ else zeroB) s),?_,fun wb w W D A n c h hD ht hW ha=>?_⟩
  · intro r hr s hs
    obtain ⟨s1,e1,hr⟩:=Option.bind_eq_some_iff.1 hr
    obtain ⟨v2,e2,hr⟩:=Option.bind_eq_some_iff.1 hr
    obtain ⟨l3,e3,hr⟩:=Option.bind_eq_some_iff.1 hr
    obtain rfl:=Option.some.inj hr
    exact bkR_b hs (postc_cb _ _) post_okD
  · obtain ⟨R,hR⟩:∃ R,R=((nextR ws 1).bind fun s1=>(numR ws 2).bind fun v2=>(linesR ws 3).bind fun l3=>some (ws.length,fun s=>bkR (postc s.b ⟨s1,v2,l3⟩) (if postc s.b ⟨s1,v2,l3⟩=0 then postb s.b ⟨s1,v2,l3⟩ else zeroB) s):Option (Nat × (St→Do))):=⟨_,rfl⟩
    rw [← hR]
    rw [h.len] at hR
    have HR:=Lib.hid hR
    have hmf:=@mkf
    have hDw:D < w.heap.size:=Nat.lt_of_lt_of_le hD ha.mor.below.size
    have hn1:1≤n:=by rw [← h.len];exact h1
    have HH:=Lib.hid h
    have HA0:=Lib.hid (ha.to (mor_new w (.cells #[.pointer (some ⟨D,0,none⟩)] 33)))
    have hWW:=Lib.hid (show w.heap.size≠W from Nat.ne_of_gt hW)
    have c0:=cell_newD w (.pointer (some ⟨D,0,none⟩)) 33
    have hs0:w.heap.size < (w.alloc (.cells #[.pointer (some ⟨D,0,none⟩)] 33)).heap.size:=by simp
    have C0:=Lib.hid (And.intro c0 hs0)
    clear h ha ht hR hD c0 hs0
    go_enter Tryz.func27,Tryz.ntmps27
    have HC:=Lib.hid (next_fk wb _ W A n c ws 1 HH.out HA0.out (by omega))
    go_wp2_with fail
    refine HC.out.mono ?_
    rintro e w1 (⟨hv,he,hm⟩ | ⟨s1,hv1,hz1,hp1,rfl,ha,ho⟩)
    · rw [bang] at he
      subst he
      have hRn:R=none:=by rw [HR.out];simp only [hv,Option.bind_none]
      subst hRn
      go_wp2_with fail
      exact ⟨rfl,rfl,hm⟩
    have hs1:w.heap.size < w1.heap.size:=Nat.lt_of_lt_of_le C0.out.2 ho.size
    have c0:w1.cell? ⟨w.heap.size,0,none⟩=some (.pointer (some ⟨D,0,none⟩)):=cell_onD ho C0.out.1 hWW.out
    generalize hbd:w.heap.size=bd at *
    have HA1:=Lib.hid ha
    clear ha ho HC
    have HC:=Lib.hid (num_fk wb _ W A n c ws 2 HH.out HA1.out (by omega))
    go_wp2_with fail
    refine HC.out.mono ?_
    rintro e w2 (⟨hv,he,hm⟩ | ⟨v2,hv2,hz2,hp2,rfl,ha,ho⟩)
    · rw [bang] at he
      subst he
      have hRn:R=none:=by rw [HR.out];simp only [hv1,Option.bind_some,hv,Option.bind_none]
      subst hRn
      go_wp2_with fail
      exact ⟨rfl,rfl,hm⟩
    have hs2:w1.heap.size≤w2.heap.size:=ho.size
    have c0:w2.cell? ⟨bd,0,none⟩=some (.pointer (some ⟨D,0,none⟩)):=cell_onD ho c0 hWW.out
    have HA2:=Lib.hid ha
    clear ha ho HC
    have HC:=Lib.hid (fun w' (hm:Mor w2 w')=>lines_fk wb w' W A n c ws 3 HH.out (HA2.out.to hm) (by omega))
    have b2:=Bk.new w2 111 #[.string s1,.int .i64 v2,.slice none 0 0]
    have hs3:w2.heap.size < (w2.alloc (.cells #[.string s1,.int .i64 v2,.slice none 0 0] 111)).heap.size:=by simp
    have cz:=cell_morD (mor_new w2 (.cells #[.string s1,.int .i64 v2,.slice none 0 0] 111)) c0
    have HB2:=Lib.hid (And.intro b2 (And.intro hs3 cz))
    clear b2 hs3 cz c0
    go_wp2_with fail
    refine (HC.out _ (mor_new _ _)).mono ?_
    rintro e w3 (⟨hv,he,hm⟩ | ⟨l3,A3,c3,hv3,rfl,hown,hsz3,ha,ho⟩)
    · rw [bang] at he
      subst he
      have hRn:R=none:=by rw [HR.out];simp only [hv1,hv2,Option.bind_some,hv,Option.bind_none]
      subst hRn
      go_wp2_with fail
      exact ⟨rfl,rfl,hm⟩
    have hWn:W < bd:=hW
    have bx:=bk_on HB2.out.1 ho (by omega)
    have c0:=cell_onD ho HB2.out.2.2 hWW.out
    have hs3:=Nat.lt_of_lt_of_le HB2.out.2.1 ho.size
    have hwb:=HA2.out.mor.below.size
    generalize w2.heap.size=ex at *
    have HA3:=Lib.hid ha
    have HO3:=Lib.hid (And.intro hown hsz3)
    have HX:=Lib.hid bx
    have C3:=Lib.hid c0
    have x2:=bx.cell 2
    simp at x2
    have x2f:=bx.frozen 2
    clear ha ho HC bx c0
    go_wp2_with fail
    go_returns
    have hRs:R=some (n,fun s=>bkR (postc s.b ⟨s1,v2,l3⟩) (if postc s.b ⟨s1,v2,l3⟩=0 then postb s.b ⟨s1,v2,l3⟩ else zeroB) s):=by rw [HR.out];simp only [hv1,hv2,hv3,Option.bind_some]
    subst hRs
    have b3:=HX.out.set_ 2 (.slice A3 l3.length c3)
    exact ⟨_,_,rfl,HA3.out.other hwb (by omega),do_post D _ bd ex ⟨s1,v2,l3⟩ A3 l3.length c3 (cell_onD ((On.refl ex w3).setCell _) C3.out (by omega)) (by simpa using b3.cell 0) (by simpa using b3.cell 1) (by simpa using b3.cell 2) (by omega) (by omega) (by dsimp only;unfold maxLen;omega) (lq_set HO3.out.1 HX.out (by decide) rfl HO3.out.2),fun args w=>rfl⟩
set_option maxHeartbeats 3200000 in
theorem rd_plan (ws:List ByteArray) (h1:1≤ws.length) (hsz:∀ s∈ws,s.size≤100000):RdOk 27 { data:=#[112,108,97,110] } ws:=by
  refine ⟨(nextR ws 1).bind fun s1=>(numR ws 2).bind fun v2=>(numR ws 3).bind fun v3=>(numR ws 4).bind fun v4=>(numR ws 5).bind fun v5=>(nextR ws 6).bind fun s6=>(nextR ws 7).bind fun s7=>some (8,fun s=>planR s ⟨s1,v2,v3,v4,v5,s6,s7⟩),?_,fun wb w W D A n c h hD ht hW ha=>?_⟩
  · intro r hr s hs
    obtain ⟨s1,e1,hr⟩:=Option.bind_eq_some_iff.1 hr
    obtain ⟨v2,e2,hr⟩:=Option.bind_eq_some_iff.1 hr
    obtain ⟨v3,e3,hr⟩:=Option.bind_eq_some_iff.1 hr
    obtain ⟨v4,e4,hr⟩:=Option.bind_eq_some_iff.1 hr
    obtain ⟨v5,e5,hr⟩:=Option.bind_eq_some_iff.1 hr
    obtain ⟨s6,e6,hr⟩:=Option.bind_eq_some_iff.1 hr
    obtain ⟨s7,e7,hr⟩:=Option.bind_eq_some_iff.1 hr
    obtain rfl:=Option.some.inj hr
    exact planR_b hs ⟨nextR_sz hsz e1,nextR_sz hsz e6,nextR_sz hsz e7,(numR_i64 e3).2,(numR_i64 e4).2,(numR_i64 e5).2,(numR_i64 e2).2⟩
  · obtain ⟨R,hR⟩:∃ R,R=((nextR ws 1).bind fun s1=>(numR ws 2).bind fun v2=>(numR ws 3).bind fun v3=>(numR ws 4).bind fun v4=>(numR ws 5).bind fun v5=>(nextR ws 6).bind fun s6=>(nextR ws 7).bind fun s7=>some (8,fun s=>planR s ⟨s1,v2,v3,v4,v5,s6,s7⟩):Option (Nat × (St→Do))):=⟨_,rfl⟩
    rw [← hR]
    have HR:=Lib.hid hR
    have hmf:=@mkf
    have hDw:D < w.heap.size:=Nat.lt_of_lt_of_le hD ha.mor.below.size
    have hn1:1≤n:=by rw [← h.len];exact h1
    have HH:=Lib.hid h
    have HT:=Lib.hid ht
    have HA0:=Lib.hid (ha.to (mor_new w (.cells #[.pointer (some ⟨D,0,none⟩)] 33)))
    have hWW:=Lib.hid (show w.heap.size≠W from Nat.ne_of_gt hW)
    have c0:=cell_newD w (.pointer (some ⟨D,0,none⟩)) 33
    have hs0:w.heap.size < (w.alloc (.cells #[.pointer (some ⟨D,0,none⟩)] 33)).heap.size:=by simp
    have C0:=Lib.hid (And.intro c0 hs0)
    clear h ha ht hR hD c0 hs0
    go_enter Tryz.func27,Tryz.ntmps27
    have HC:=Lib.hid (next_fk wb _ W A n c ws 1 HH.out HA0.out (by omega))
    go_wp2_with fail
    refine HC.out.mono ?_
    rintro e w1 (⟨hv,he,hm⟩ | ⟨s1,hv1,hz1,hp1,rfl,ha,ho⟩)
    · rw [bang] at he
      subst he
      have hRn:R=none:=by rw [HR.out];simp only [hv,Option.bind_none]
      subst hRn
      go_wp2_with fail
      exact ⟨rfl,rfl,hm⟩
    have hs1:w.heap.size < w1.heap.size:=Nat.lt_of_lt_of_le C0.out.2 ho.size
    have c0:w1.cell? ⟨w.heap.size,0,none⟩=some (.pointer (some ⟨D,0,none⟩)):=cell_onD ho C0.out.1 hWW.out
    generalize hbd:w.heap.size=bd at *
    have HA1:=Lib.hid ha
    clear ha ho HC
    have HC:=Lib.hid (fun w' (hm:Mor w1 w')=>nums_any wb w' W A n c ws 2 4 HH.out (HA1.out.to hm) (by omega) (by omega))
    have b2:=Bk.new w1 120 #[.string s1,.int .i64 0,.int .i64 0,.int .i64 0,.int .i64 0,.string { data:=#[] },.string { data:=#[] }]
    have hs3:w1.heap.size < (w1.alloc (.cells #[.string s1,.int .i64 0,.int .i64 0,.int .i64 0,.int .i64 0,.string { data:=#[] },.string { data:=#[] }] 120)).heap.size:=by simp
    have cz:=cell_morD (mor_new w1 (.cells #[.string s1,.int .i64 0,.int .i64 0,.int .i64 0,.int .i64 0,.string { data:=#[] },.string { data:=#[] }] 120)) c0
    have HB2:=Lib.hid (And.intro b2 (And.intro hs3 cz))
    clear b2 hs3 cz c0
    go_wp2_with fail
    refine (HC.out _ (mor_new _ _)).mono ?_
    rintro e w2 (⟨v,hall,rfl,hown,ha,ho⟩ | ⟨⟨i,hi,hn⟩,he,hm⟩)
    rotate_left
    · rw [bang] at he
      subst he
      have hRn:R=none:=by
        rw [HR.out]
        obtain rfl | rfl | rfl | rfl:i=0∨i=1∨i=2∨i=3:=by omega
        all_goals simp only [show 2+0=2 from rfl,show 2+1=3 from rfl,show 2+2=4 from rfl,show 2+3=5 from rfl] at hn
        all_goals simp only [hv1,hn,Option.bind_none,Option.bind_fun_none]
      subst hRn
      go_wp2_with fail
      exact ⟨rfl,rfl,hm⟩
    obtain ⟨v2,v3,v4,v5,hv2,hv3,hv4,hv5,hL⟩:=nums4 hall
    have hWn:W < bd:=hW
    have bx:=bk_on HB2.out.1 ho (by omega)
    have c0:=cell_onD ho HB2.out.2.2 hWW.out
    have hs3:=Nat.lt_of_lt_of_le HB2.out.2.1 ho.size
    have hwb:=HA1.out.mor.below.size
    rw [hL] at hown
    obtain ⟨b,cp,rfl,hb,_,hcp,hrow⟩:=own_row hown (by omega)
    have hbz:w1.heap.size < b:=Nat.lt_of_lt_of_le HB2.out.2.1 hb
    have r0:=hrow.2 0 (by simp)
    have r1:=hrow.2 1 (by simp)
    have r2:=hrow.2 2 (by simp)
    have r3:=hrow.2 3 (by simp)
    simp at r0 r1 r2 r3
    generalize w1.heap.size=ex at *
    have HA3:=Lib.hid ha
    have C3:=Lib.hid c0
    have HX:=Lib.hid bx
    have x1:=bx.cell 1
    have x2:=bx.cell 2
    have x3:=bx.cell 3
    have x4:=bx.cell 4
    simp at x1 x2 x3 x4
    have f1:=bx.frozen 1
    have f2:=bx.frozen 2
    have f3:=bx.frozen 3
    have f4:=bx.frozen 4
    have hne:b≠ex:=by omega
    clear ha ho hrow bx c0 hown hall hb
    have HC:=Lib.hid (fun w' hA=>next_fk wb w' W A n c ws 6 HH.out hA (by have:=(numR_i64 hv5).1;have:=HH.out.len;omega))
    go_wp2_with fail
    go_region
    have ho2:On ex w2 ((((w2.setCell ⟨ex,1,none⟩ (.int .i64 v2)).setCell ⟨ex,2,none⟩ (.int .i64 v3)).setCell ⟨ex,3,none⟩ (.int .i64 v4)).setCell ⟨ex,4,none⟩ (.int .i64 v5)).drew:=(((((On.refl ex w2).setCell _).setCell _).setCell _).setCell _).drew
    have b2:Bk ((((w2.setCell ⟨ex,1,none⟩ (.int .i64 v2)).setCell ⟨ex,2,none⟩ (.int .i64 v3)).setCell ⟨ex,3,none⟩ (.int .i64 v4)).setCell ⟨ex,4,none⟩ (.int .i64 v5)).drew ex 120 #[.string s1,.int .i64 v2,.int .i64 v3,.int .i64 v4,.int .i64 v5,.string { data:=#[] },.string { data:=#[] }]:=by
      have:=((((HX.out.set_ 1 (.int .i64 v2)).set_ 2 (.int .i64 v3)).set_ 3 (.int .i64 v4)).set_ 4 (.int .i64 v5)).drew
      simpa using this
    have hWe:W≠ex:=by omega
    have HAx:=Lib.hid (((((HA3.out.other (i:=1) (u:=.int .i64 v2) hwb hWe).other (i:=2) (u:=.int .i64 v3) hwb hWe).other (i:=3) (u:=.int .i64 v4) hwb hWe).other (i:=4) (u:=.int .i64 v5) hwb hWe).to (Mor.refl _).drew)
    have c0:=cell_onD ho2 C3.out (by omega)
    have hs4:=ho2.size
    have hs5:ex < w2.heap.size:=HX.out.lt
    have HX2:=Lib.hid b2
    generalize ((((w2.setCell ⟨ex,1,none⟩ (.int .i64 v2)).setCell ⟨ex,2,none⟩ (.int .i64 v3)).setCell ⟨ex,3,none⟩ (.int .i64 v4)).setCell ⟨ex,4,none⟩ (.int .i64 v5)).drew=wx at *
    have C4:=Lib.hid c0
    clear ho2 b2 c0 x1 x2 x3 x4 f1 f2 f3 f4 r0 r1 r2 r3 hL
    go_wp2_with fail
    refine (HC.out _ HAx.out).mono ?_
    rintro e w6 (⟨hv,he,hm⟩ | ⟨s6,hv6,hz6,hp6,rfl,ha,ho⟩)
    · rw [bang] at he
      subst he
      have hRn:R=none:=by rw [HR.out];simp only [hv1,hv2,hv3,hv4,hv5,Option.bind_some,hv,Option.bind_none]
      subst hRn
      go_wp2_with fail
      exact ⟨rfl,rfl,hm⟩
    have b6:=bk_on HX2.out ho (by omega)
    have c0:=cell_onD ho C4.out hWW.out
    have C6:=Lib.hid (And.intro b6 c0)
    have HA6:=Lib.hid ha
    have HC:=Lib.hid (fun w' hA=>next_fk wb w' W A n c ws 7 HH.out hA (by omega))
    clear ha ho b6 c0
    go_wp2_with fail
    refine (HC.out _ HA6.out).mono ?_
    rintro e w7 (⟨hv,he,hm⟩ | ⟨s7,hv7,hz7,hp7,rfl,ha,ho⟩)
    · rw [bang] at he
      subst he
      have hRn:R=none:=by rw [HR.out];simp only [hv1,hv2,hv3,hv4,hv5,hv6,Option.bind_some,hv,Option.bind_none]
      subst hRn
      go_wp2_with fail
      exact ⟨rfl,rfl,hm⟩
    have b7:=bk_on C6.out.1 ho (by omega)
    have c0:=cell_onD ho C6.out.2 hWW.out
    have C7:=Lib.hid (And.intro b7 c0)
    have HA7:=Lib.hid ha
    have x5:=b7.cell 5
    have x6:=b7.cell 6
    simp at x5 x6
    have f5:=b7.frozen 5
    have f6:=b7.frozen 6
    clear ha ho b7 c0
    go_wp2_with fail
    go_returns
    have hRs:R=some (8,fun s=>planR s ⟨s1,v2,v3,v4,v5,s6,s7⟩):=by rw [HR.out];simp only [hv1,hv2,hv3,hv4,hv5,hv6,hv7,Option.bind_some]
    subst hRs
    have b8:=(C7.out.1.set_ 5 (.string s6)).set_ 6 (.string s7)
    have ho8:=((On.refl ex w7).setCell (i:=5) (.string s6)).setCell (i:=6) (.string s7)
    have HA8:=(HA7.out.other (i:=5) (u:=.string s6) hwb hWe).other (i:=6) (u:=.string s7) hwb hWe
    exact ⟨_,_,rfl,HA8,do_plan D _ bd ex ⟨s1,v2,v3,v4,v5,s6,s7⟩ ⟨nextR_sz hsz hv1,nextR_sz hsz hv6,nextR_sz hsz hv7,(numR_i64 hv3).2,(numR_i64 hv4).2,(numR_i64 hv5).2,(numR_i64 hv2).2⟩ (cell_onD ho8 C7.out.2 (by omega))
      (by simpa using b8.cell 0) (by simpa using b8.cell 1) (by simpa using b8.cell 2) (by simpa using b8.cell 3) (by simpa using b8.cell 4) (by simpa using b8.cell 5) (by simpa using b8.cell 6) (by omega) (HT.out.mor HA8.mor),fun args w=>rfl⟩
def rdWs:List ByteArray:=[{ data:=#[97,99,99,116] },{ data:=#[112,111,115,116] },{ data:=#[115,104,117,116] },{ data:=#[99,108,111,115,101] },{ data:=#[117,110,100,111] },{ data:=#[112,108,97,110] },{ data:=#[114,117,110] }]
def lkWs:List ByteArray:=[{ data:=#[98,97,108,97,110,99,101] },{ data:=#[112,114,111,102,105,116] },{ data:=#[116,114,105,97,108] },{ data:=#[115,104,101,101,116] },{ data:=#[107,101,121,115] }]
theorem str_no {s:ByteArray} {l:List UInt8} (h:¬ s=⟨l.toArray⟩):(s.toList == l)=false:=by
  have:=str_eq s ⟨l.toArray⟩
  rw [ByteArray.toList_eq ⟨l.toArray⟩] at this
  rw [show l=(⟨l.toArray⟩:ByteArray).data.toList from rfl,this]
  exact decide_eq_false h
set_option maxHeartbeats 3200000 in
theorem rd_look (s:ByteArray) (ws:List ByteArray) (h7:s ∉ rdWs) (HL:RdOk 84 s ws):RdOk 27 s ws:=by
  obtain ⟨R,hB,HL⟩:=HL
  refine ⟨R,hB,fun wb w W D A n c h hD ht hW ha=>?_⟩
  have HC:=Lib.hid (fun w' (hm:Mor w w')=>HL wb w' W D A n c h hD ht (Nat.lt_of_lt_of_le hW hm.below.size) (ha.to hm))
  simp only [rdWs,List.mem_cons,List.not_mem_nil,or_false,not_or] at h7
  obtain ⟨a1,a2,a3,a4,a5,a6,a7⟩:=h7
  have a1:=str_no a1
  have a2:=str_no a2
  have a3:=str_no a3
  have a4:=str_no a4
  have a5:=str_no a5
  have a6:=str_no a6
  have a7:=str_no a7
  clear h ha ht hD HL hB
  go_enter Tryz.func27,Tryz.ntmps27
  go_wp2_with fail
  refine (HC.out _ (mor_new _ _)).mono ?_
  intro e w1 hp
  cases R with
  | none =>
    obtain ⟨he,hm⟩:=hp
    rw [bang] at he
    subst he
    go_wp2_with fail
    exact ⟨rfl,rfl,hm⟩
  | some r =>
    obtain ⟨K,cap,rfl,hq⟩:=hp
    have HP:=Lib.hid hq
    clear hq
    go_wp2_with fail
    go_returns
    exact ⟨K,cap,rfl,HP.out⟩
set_option maxHeartbeats 3200000 in
theorem lk_no (s:ByteArray) (ws:List ByteArray) (h5:s ∉ lkWs):RdOk 84 s ws:=by
  refine ⟨none,RdB.none_ ws,fun wb w W D A n c h hD ht hW ha=>?_⟩
  have HA:=Lib.hid ha.mor
  have HB:=Lib.hid (fun w=>bad_any 11 w)
  simp only [lkWs,List.mem_cons,List.not_mem_nil,or_false,not_or] at h5
  obtain ⟨a1,a2,a3,a4,a5⟩:=h5
  have a1:=str_no a1
  have a2:=str_no a2
  have a3:=str_no a3
  have a4:=str_no a4
  have a5:=str_no a5
  clear h ha ht hD
  go_enter Tryz.func84,Tryz.ntmps84
  go_wp2_with (go_at_call 66;(with_reducible refine (HB.out _).mono ?_);rintro e w' ⟨he,rfl⟩;rw [bang] at he;subst he)
  exact ⟨rfl,rfl,HA.out.trans' (mor_new _ _)⟩
theorem rd_any (s:ByteArray) (ws:List ByteArray) (h1:1≤ws.length) (hsz:∀ s∈ws,s.size≤100000):RdOk 27 s ws:=by
  by_cases h7:s∈rdWs
  · simp only [rdWs,List.mem_cons,List.not_mem_nil,or_false] at h7
    rcases h7 with rfl | rfl | rfl | rfl | rfl | rfl | rfl
    · exact rd_acct ws h1
    · exact rd_post ws h1
    · exact rd_shut ws h1
    · exact rd_close ws h1
    · exact rd_undo ws h1
    · exact rd_plan ws h1 hsz
    · exact rd_run ws h1
  · refine rd_look s ws h7 ?_
    by_cases h5:s∈lkWs
    · simp only [lkWs,List.mem_cons,List.not_mem_nil,or_false] at h5
      rcases h5 with rfl | rfl | rfl | rfl | rfl
      · exact rd_balance ws h1
      · exact rd_profit ws h1
      · exact rd_trial ws h1
      · exact rd_sheet ws h1
      · exact rd_keys ws h1
    · exact lk_no s ws h5
set_option maxHeartbeats 1600000 in
theorem catch_idle (p:Addr) (w:World) :
    CallsD Tryz.prog 21 #[.pointer (some p)] .returning w fun e u' w'=>e=.returned (.tuple #[])∧u'=.returning∧w'=w:=by
  refine callsD_of_wpS Tryz.func21 rfl fun c₀ cs hu=>?_
  apply wpS_seq
  apply wpS_region
  simp [wpOpsS,go_sem,recoverD,hu,Tryz.ntmps21,Exit.thenS]
  refine wpS_of_wp ?_
  change Code.wp _ _ _ { tmps:=#[.pointer (some p),.nilIface,undef,undef,.nilIface,undef,undef,undef,undef,undef,undef,undef,undef,undef,undef,undef,undef,undef, undef],defers:=[] } _
  go_wp2_with fail
  cases c₀
  simp only at hu
  subst hu
  exact ⟨rfl,.returning,rfl,_,results_none rfl _ _ _,rfl,rfl,rfl⟩
set_option maxHeartbeats 1600000 in
theorem fault_as (c:Int) (w:World):(Instr.typeAssert (.iface 59 (.agg #[.int .i64 c])) 20 59 true).run Tryz.prog w=.ok (.tuple #[.agg #[.int .i64 c],.bool true]) w:=by rfl
set_option maxHeartbeats 1600000 in
theorem catch_fault (g:Nat) (x:ByteArray) (c:Int) (hcb:CB c) (w:World) (ht:Tb w) (hc:w.cell? ⟨g,0,none⟩=some (.string x)) (hz:w.frozen? ⟨g,0,none⟩=false) :
    CallsD Tryz.prog 21 #[.pointer (some ⟨g,0,none⟩)] (.panicking [{ v:=.iface 59 (.agg #[.int .i64 c]),recovered:=false }]) w fun e u' w' =>
      e=.returned (.tuple #[])∧u'=.panicking [{ v:=.iface 59 (.agg #[.int .i64 c]),recovered:=true }]∧∃ w1,Mor w w1∧w'=w1.setCell ⟨g,0,none⟩ (.string ({ data:=#[101,114,114,111,114,32] }++⟨(Lib.itoa c).toArray⟩)):=by
  refine callsD_of_wpS Tryz.func21 rfl fun c₀ cs hu=>?_
  have hta:=fault_as c
  obtain ⟨hb0,hb1⟩:=hcb
  have hL:=itoa_len c 2 (by omega) (by omega)
  have hL2:¬ 9223372036854775807 < 6+(Lib.itoa c).length:=by omega
  apply wpS_seq
  apply wpS_region
  simp [wpOpsS,go_sem,recoverD,hu,Tryz.ntmps21,Exit.thenS]
  refine wpS_of_wp ?_
  change Code.wp _ _ _ { tmps:=#[.pointer (some ⟨g,0,none⟩),.iface 59 (.agg #[.int .i64 c]),undef,undef,.iface 59 (.agg #[.int .i64 c]),undef,undef,undef,undef,undef,undef,undef,undef,undef,undef,undef,undef,undef, undef],defers:=[] } _
  go_wp2_with (go_at_call 22;(with_reducible refine (itoa_any c _ (by omega) (by omega) (ht.mor (mor_new _ _))).mono ?_);rintro e w5 ⟨rfl,hm5⟩;have hc5:=cell_morD ((mor_new _ _).trans' hm5) hc;have hz5:=(((mor_new _ _).trans' hm5).below.frozen (World.block_lt_of_cell? _ _ hc)).trans hz;clear hc hz)
  cases c₀
  simp only at hu
  subst hu
  refine ⟨rfl,.panicking [{ v:=.iface 59 (.agg #[.int .i64 c]),recovered:=true }],rfl,_,results_none rfl _ _ _,rfl,rfl,w5,(mor_new _ _).trans' (by assumption),rfl⟩
end Go.Proofs.YtdhbkifpodekcaaGreatDoor
