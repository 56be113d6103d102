/- Texts of this claim. -/
import Derived.Test.YtdhbkifpodekcaaGreatDoorDeskZ49
import Derived.Laws.EntriesVeiled
namespace Go.Proofs.YtdhbkifpodekcaaGreatDoor
open Go Go.ChangeShapes Go.WideShapes Go.ChangeAt Go.RowKit Go.PlainAid
open Go.Maps (Keyed IsMap)
set_option linter.unusedVariables false
set_option maxRecDepth 100000
def rkZ:Value:=.agg #[.int .i64 0,.bool false,.nilFunc]
theorem rkZ_zero (w:World):(zeroValue 67).run Tryz.prog w=.ok rkZ w:=by rfl
theorem look_some {b:Nat} {w:World} (h:w.ownsMap Tryz.prog 9 rdRk b 12 tabD) {s:ByteArray} {r:Rk} (hs:s.size≤100000) (hr:tabF s.data.toList=some r) :
    (Instr.lookup 69 (.map (some b)) (.string s) true).run Tryz.prog w=.ok (.tuple #[rkV r,.bool true]) w:=by
  obtain ⟨v,ps,h1,h2⟩:=h.look_ok law_strD Tryz.underlying69 (rkZ_zero w) (show rdRk rkZ=some (.nil,[]) from rfl) (WideMaps.keyOf_string_mk (s:=s) Tryz.underlying9 (by unfold maxLen;omega))
  obtain ⟨t1,t2⟩:=tabD_look s.data.toList
  rw [t2,hr] at h2
  rw [t1,hr,rdRk_inv h2] at h1
  exact h1
theorem look_none {b:Nat} {w:World} (h:w.ownsMap Tryz.prog 9 rdRk b 12 tabD) {s:ByteArray} (hs:s.size≤100000) (hr:tabF s.data.toList=none) :
    (Instr.lookup 69 (.map (some b)) (.string s) true).run Tryz.prog w=.ok (.tuple #[rkZ,.bool false]) w:=by
  obtain ⟨t1,t2⟩:=tabD_look s.data.toList
  rw [hr] at t1
  obtain ⟨es,clock,hb,F,_,hD⟩:=h
  rcases Maps.fit_look true law_strD Tryz.underlying69 (rkZ_zero w) hb F (WideMaps.keyOf_string_mk (s:=s) Tryz.underlying9 (by unfold maxLen;omega)) with ⟨hrun,_,hat⟩ | ⟨e0,y,_,_,hrun,hRv,hat,_⟩
  · exact hrun
  · rw [← hD] at hat
    have:=Maps.has_true_of_atKey hat
    rw [t1] at this
    cases this
theorem rk_cells {w0 wt:World} {k:Nat} (hm:Mor (w0.alloc (.cells #[.int .i64 0,.bool false,.nilFunc] 67)) wt) (hk:w0.heap.size=k) :
    Hid (Bk wt k 67 #[.int .i64 0,.bool false,.nilFunc])∧wt.cell? ⟨k,0,none⟩=some (.int .i64 0)∧wt.cell? ⟨k,1,none⟩=some (.bool false)∧wt.cell? ⟨k,2,none⟩=some .nilFunc∧wt.frozen? ⟨k,0,none⟩=false∧wt.frozen? ⟨k,1,none⟩=false∧wt.frozen? ⟨k,2,none⟩=false:=by
  subst hk
  have b:=(Bk.new w0 67 #[.int .i64 0,.bool false,.nilFunc]).mor hm
  exact ⟨Lib.hid b,by simpa using b.cell 0,by simpa using b.cell 1,by simpa using b.cell 2,b.frozen 0,b.frozen 1,b.frozen 2⟩
def errB (c:Int):ByteArray:={ data:=#[101,114,114,111,114,32] }++⟨(Lib.itoa c).toArray⟩
def ansB (r:Int × List Int):ByteArray:=if r.1=0 then tolB r.2 else errB r.1
theorem door_no {tmps:Array Value} {w':World} {c:Int} {g:Nat} {x:ByteArray} {R:Ending→World→Prop} (hc:CB c) (ht:Tb w') (ht4:tmps[4]?.getD undef=.pointer (some ⟨g,0,none⟩)) (hx:w'.cell? ⟨g,0,none⟩=some (.string x)) (hz:w'.frozen? ⟨g,0,none⟩=false)
    (hR:∀ w1,Mor w' w1→R (.returned (.string (errB c))) (w1.setCell ⟨g,0,none⟩ (.string (errB c)))) :
    bodyPostD Tryz.prog Tryz.f13 R (.panic [{ v:=.iface 59 (.agg #[.int .i64 c]),recovered:=false }]) { tmps:=tmps,defers:=[{ target:=.fn (.func 21) #[.pointer (some ⟨g,0,none⟩)],args:=#[] }] } w':=by
  refine leaves_cons (f:=21) (args:=#[.pointer (some ⟨g,0,none⟩)]) (by simp) (by simp [go_sem]) ?_
  refine (catch_fault g x c hc w' ht hx hz).mono ?_
  rintro e u' w'' ⟨rfl,rfl,w1,hm,rfl⟩
  have hx1:=World.cell?_setCell_same w1 ⟨g,0,none⟩ (Value.string (errB c)) (cell_morD hm hx)
  have hR:=hR w1 hm
  unfold errB at hx1 hR
  simp [Leaves,settle,results,Tryz.results13,go_sem,ht4,hx1]
  exact hR
theorem door_ok {tmps:Array Value} {w':World} {g:Nat} {x:ByteArray} {R:Ending→World→Prop} (ht4:tmps[4]?.getD undef=.pointer (some ⟨g,0,none⟩)) (hx:w'.cell? ⟨g,0,none⟩=some (.string x))
    (hR:R (.returned (.string x)) w') :
    bodyPostD Tryz.prog Tryz.f13 R .ret { tmps:=tmps,defers:=[{ target:=.fn (.func 21) #[.pointer (some ⟨g,0,none⟩)],args:=#[] }] } w':=by
  refine leaves_cons (f:=21) (args:=#[.pointer (some ⟨g,0,none⟩)]) (by simp) (by simp [go_sem]) ?_
  refine (catch_idle ⟨g,0,none⟩ w').mono ?_
  rintro e u' w'' ⟨rfl,rfl,rfl⟩
  simp [Leaves,settle,results,Tryz.results13,go_sem,ht4,hx]
  exact hR
structure In (w:World) (A:Option Addr) (n c:Nat) (ws:List ByteArray):Prop where
  rs:Rs w A ws
  len:ws.length=n
  one:1≤n
  le:n≤c
  nn:n≤100000
  sz:∀ s∈ws,s.size≤100000
  tb:Tb w
  tab:Tab w
theorem In.sz0 {w:World} {A:Option Addr} {n c:Nat} {ws:List ByteArray} (h:In w A n c ws):(wdd ws 0).size≤100000:=by
  have h0:0 < ws.length:=by have:=h.one;have:=h.len;omega
  refine h.sz _ ?_
  rw [wdd,List.getD_eq_getElem?_getD,List.getElem?_eq_getElem h0,Option.getD_some]
  exact List.getElem_mem h0
theorem Rs.new {w:World} {A:Option Addr} {ws:List ByteArray} (h:Rs w A ws) {w':World} (hm:Mor w w'):Rs w' A ws:=h.mor hm
theorem In.wd {w:World} {A:Option Addr} {n c:Nat} {ws:List ByteArray} (h:In w A n c ws) (x:ByteArray) :
    Wd (w.alloc (.cells #[.string x] 9)) (w.heap.size+1) A n c ws∧At (w.alloc (.cells #[.string x] 9)) ((w.alloc (.cells #[.string x] 9)).alloc (.cells #[.slice A n c,.int .i64 1] 64)) (w.heap.size+1) A n c 1:=by
  have e:(w.alloc (.cells #[.string x] 9)).heap.size=w.heap.size+1:=by simp
  refine ⟨⟨h.rs.new (mor_new _ _),h.len,h.le,by rw [e];omega,h.tb.mor (mor_new _ _),h.sz,h.nn⟩,⟨mor_new _ _,?_⟩⟩
  have:=Bk.new (w.alloc (.cells #[.string x] 9)) 64 #[.slice A n c,.int .i64 1]
  rw [e] at this
  exact this
theorem tabF_en {s:List UInt8} {r:Rk} (h:tabF s=some r):∀ args w,(callFunc r.K args).run Tryz.prog w=.ok (.enter r.K args) w:=by
  unfold tabF at h
  cases hf:(tabL.reverse.find? fun e=>e.1 == s) with
  | none=>rw [hf] at h;cases h
  | some e =>
    rw [hf] at h
    injection h with h
    subst h
    have hm:=List.mem_of_find?_eq_some hf
    simp only [tabL,List.mem_reverse,List.mem_cons,List.not_mem_nil,or_false] at hm
    rcases hm with rfl | rfl | rfl | rfl | rfl | rfl | rfl | rfl | rfl | rfl | rfl | rfl <;> exact fun _ _=>rfl
theorem arg_mk {w:World} {g n m k:Nat} {B:Option Addr} {a l:List Int} (ha:Ri w (some ⟨g,0,none⟩) a) (hl:a.length=n) (hn:1≤n) (hb:Ri w B l) (hm:l.length=m) (hk:m≤k) (h2:m≤200000) (tb:Tb w) (tab:Tab w):Arg w g n B m k a l:=by
  rcases ha with rfl | ⟨x,e,hx,hc⟩
  · simp at hl;omega
  · injection e with e
    subst e
    exact ⟨fun i hi=>by
      have:=hc i hi
      by_cases h0:i=0
      · subst h0;simpa [Addr.add] using this
      · simpa [Addr.add,h0] using this,hx,hl,hb,hm,hk,h2,tb,tab⟩
structure RkR (ws:List ByteArray) (r:Rk) (rr:Int × List Int):Prop where
  rb:RB rr
  num:(∃ i,i < r.n∧numR ws (1+i)=none)→rr.1=11
  lst:r.list=true→¬ LsOk ws (1+r.n)→rr.1=11
  fin:(if r.list=true then r.n+2 else r.n+1)≠ws.length→rr.1=11
  rec_:(∀ i,i < r.n→(numR ws (1+i)).isSome)→(r.list=true→LsOk ws (1+r.n))→(if r.list=true then r.n+2 else r.n+1)=ws.length →
    ∀ w g n c B m k,Arg w g n B m k (numL ws 1 r.n) (if r.list=true then lsV (lsT ws (1+r.n)) else [])→n≤c→Calls Tryz.prog r.K #[.slice (some ⟨g,0,none⟩) n c,.slice B m k] w (RecPost w rr)
theorem rkR_ex (ws:List ByteArray) (r:Rk) (hr:RecOk r.K r.n):∃ rr,RkR ws r rr:=by
  by_cases h:(∀ i,i < r.n→(numR ws (1+i)).isSome)∧(r.list=true→LsOk ws (1+r.n))∧(if r.list=true then r.n+2 else r.n+1)=ws.length
  · obtain ⟨rr,h1,h2⟩:=hr (numL ws 1 r.n) (if r.list=true then lsV (lsT ws (1+r.n)) else []) (numL_len _ _ _)
    refine ⟨rr,h1,fun hh=>?_,fun h3 h4=>absurd (h.2.1 h3) h4,fun h3=>absurd h.2.2 h3,fun _ _ _=>h2⟩
    obtain ⟨i,hi,hn⟩:=hh
    have:=h.1 i hi
    rw [hn] at this;cases this
  · exact ⟨(11,[]),⟨by unfold CB;omega,LB.nil⟩,fun _=>rfl,fun _ _=>rfl,fun _=>rfl,fun a b c=>absurd ⟨a,b,c⟩ h⟩
theorem ans11 {rr:Int × List Int} (h:rr.1=11):ansB rr=errB 11:=by
  unfold ansB
  rw [h,if_neg (by decide)]
set_option maxHeartbeats 6400000 in
theorem ans_rk (ws:List ByteArray) (r:Rk) (rr:Int × List Int) (hr:tabF (wdd ws 0).data.toList=some r) (hrr:RkR ws r rr) (w:World) (D:Nat) (A:Option Addr) (n c:Nat) (h:In w A n c ws) :
    Calls Tryz.prog 13 #[.pointer (some ⟨D,0,none⟩),.slice A n c] w fun e w'=>e=.returned (.string (ansB rr))∧Mor w w':=by
  have hmf:=@mkf
  have hn0:0 < n:=h.one
  have hr10:=(tabF_ok hr).2
  have hen:=tabF_en hr
  have HW:=Lib.hid (h.wd { data:=#[] })
  have HLen:=Lib.hid h.len
  obtain ⟨ab,ao,rfl,hab,hac⟩:=rd_str h.rs 0 (by rw [h.len];exact hn0)
  have hs0:=h.sz0
  have HT:=Lib.hid (fun w' (hm:Mor w w')=>And.intro (h.tb.mor hm) (h.tab.mor hm))
  have HRR:=Lib.hid hrr
  have HK:=Lib.hid (fun w' (hm:Mor w w')=>show w'.cell? ⟨ab,ao,none⟩=some (.string (wdd ws 0)) from (hm.below.cell hab).trans hac)
  have HL:=Lib.hid (fun b (w':World) (h:w'.ownsMap Tryz.prog 9 rdRk b 12 tabD)=>show (Instr.lookup 69 (.map (some b)) (.string (wdd ws 0)) true).run Tryz.prog w'=.ok (.tuple #[.agg #[.int .i64 (r.n:Int),.bool r.list,.func (.func r.K) #[] #[]],.bool true]) w' from look_some h hs0 hr)
  clear hac h hrr
  generalize wdd ws 0=s0 at *
  go_enter_defers Tryz.func13,Tryz.ntmps13
  go_wp2_with fail
  have HM2:=Lib.hid ((mor_new w (.cells #[.string { data:=#[] }] 9)).trans' (mor_new _ (.cells #[.slice (some ⟨ab,ao,none⟩) n c,.int .i64 1] 64)))
  obtain ⟨w2,hw2⟩:∃ x,x=(w.alloc (.cells #[.string { data:=#[] }] 9)).alloc (.cells #[.slice (some ⟨ab,ao,none⟩) n c,.int .i64 1] 64):=⟨_,rfl⟩
  rw [← hw2] at HM2 ⊢
  have hz2:w.heap.size≤w2.heap.size:=HM2.out.below.size
  have HW2:=Lib.hid hw2
  clear hw2
  go_cut [6,7] from 11 (fun s6 s7 wx=>∃ rb,s6=.pointer (some ⟨rb,0,none⟩)∧s7=.bool true∧w2.heap.size≤rb∧Hid (Mor w2 wx∧Bk wx rb 67 #[.int .i64 (r.n:Int),.bool r.list,.func (.func r.K) #[] #[]]))
  case first =>
    go_region_held3 (fun w'=>w'.cell? ⟨ab,ao,none⟩=some (.string s0)) (exact HK.out _ (by repeat (first | assumption | exact HM2.out | exact Mor.refl _ | apply Mor.alloc | apply Mor.more | apply Mor.drewN | apply Mor.drew | refine Mor.setC' ?_ (by omega)))) (first
      | (go_at_call 23;(with_reducible refine (table_any _).mono ?_);rintro e wt ⟨b,rfl,hown,hm⟩;have hmw2:Mor w2 wt:=Mor.trans' (by repeat (first | exact Mor.refl _ | apply Mor.alloc | apply Mor.more | apply Mor.drewN | apply Mor.drew)) hm;have hmw:Mor w wt:=HM2.out.trans' hmw2;have l0:=HL.out b _ hown;have l1:=HL.out b _ (hown.alloc (.cells #[.int .i64 0,.bool false,.nilFunc] 67));clear hown;(try (have q:=rk_cells (k:=w2.heap.size) hm rfl;obtain ⟨qb,q0,q1,q2,f0,f1,f2⟩:=q))))
    all_goals (go_wp2_with fail;go_meet;refine ⟨_,rfl,rfl,(by first | exact Nat.le_refl _ | exact (by assumption:Mor w2 _).below.size),?_⟩;refine Lib.hid ⟨(by repeat (first | assumption | exact Mor.refl _ | apply Mor.alloc | apply Mor.more | apply Mor.drewN | apply Mor.drew | refine Mor.setC' ?_ (by simp))),?_⟩)
    · exact Bk.new _ _ _
    · exact Bk.new _ _ _
    · have:=((qb.out.set_ 0 (.int .i64 (r.n:Int))).set_ 1 (.bool r.list)).set_ 2 (.func (.func r.K) #[] #[])
      simpa using this
  case rest =>
    obtain ⟨rb,rfl,rfl,hrb,HX⟩:=hcut
    have HA1:=Lib.hid (show At (w.alloc (.cells #[.string { data:=#[] }] 9)) wc (w.heap.size+1) (some ⟨ab,ao,none⟩) n c 1 from HW.out.2.to (by rw [← HW2.out];exact HX.out.1))
    have hrW:w.heap.size+1 < rb:=by
      have e:w2.heap.size=w.heap.size+1+1:=by rw [HW2.out];simp
      omega
    have HH:=Lib.hid HW.out.1
    have x0:=HX.out.2.cell 0
    have x1:=HX.out.2.cell 1
    have x2:=HX.out.2.cell 2
    simp at x0 x1 x2
    have HDo:=Lib.hid (show ∀ (tmps:Array Value) w' (hm:Mor (w.alloc (.cells #[.string { data:=#[] }] 9)) w') (c:Int),CB c→tmps[4]?.getD undef=.pointer (some ⟨w.heap.size,0,none⟩)→ansB rr=errB c →
        bodyPostD Tryz.prog Tryz.f13 (fun e w'=>e=.returned (.string (ansB rr))∧Mor w w') (.panic [{ v:=.iface 59 (.agg #[.int .i64 c]),recovered:=false }]) { tmps:=tmps,defers:=[{ target:=.fn (.func 21) #[.pointer (some ⟨w.heap.size,0,none⟩)],args:=#[] }] } w' from
      fun tmps w' hm c hc h4 he=>by
        have b:=(Bk.new w 9 #[.string { data:=#[] }]).mor hm
        exact door_no hc (HT.out _ ((mor_new _ _).trans' hm)).1 h4 (by simpa using b.cell 0) (b.frozen 0) (fun w1 hm1=>⟨by rw [he],Mor.setC' (((mor_new _ _).trans' hm).trans' hm1) (Nat.le_refl _)⟩))
    have HOut:=Lib.hid (show ∀ w',Mor (w.alloc (.cells #[.string { data:=#[] }] 9)) w'→w'.cell? ⟨w.heap.size,0,none⟩=some (.string { data:=#[] })∧w'.frozen? ⟨w.heap.size,0,none⟩=false∧Mor w w' from fun w' hm=>by
        have b:=(Bk.new w 9 #[.string { data:=#[] }]).mor hm
        exact ⟨by simpa using b.cell 0,b.frozen 0,(mor_new _ _).trans' hm⟩)
    generalize w.alloc (.cells #[.string { data:=#[] }] 9)=wb at *
    clear HW HW2
    have HN:=Lib.hid (nums_any wb wc (w.heap.size+1) (some ⟨ab,ao,none⟩) n c ws 1 r.n HH.out HA1.out (by omega) (by omega))
    go_wp2_with fail
    refine HN.out.mono ?_
    rintro e w3 (⟨v,hall,rfl,hown,ha,ho⟩ | ⟨hex,he,hm⟩)
    rotate_left
    · rw [bang] at he
      subst he
      go_wp2_with fail
      exact HDo.out _ _ hm 11 (by unfold CB;omega) rfl (ans11 (HRR.out.num hex))
    have HX3:=Lib.hid (bk_on HX.out.2 ho (by omega))
    have HA3:=Lib.hid ha
    have HO3:=Lib.hid (And.intro hown ho)
    have HAl:=Lib.hid hall
    obtain ⟨U,cu,rfl,hcu,hRu,hUg⟩:=own_shape hown
    obtain ⟨ug,rfl,hug⟩:=hUg (by omega)
    have hpn:1+r.n≤n:=by
      obtain ⟨z,hz⟩:=Option.isSome_iff_exists.1 (hall (r.n - 1) (by omega))
      have:=(numR_i64 hz).1
      have:=HLen.out
      omega
    have hWl:w.heap.size+1 < wc.heap.size:=by have:=HX.out.2.lt;omega
    have y1:=HX3.out.cell 1
    simp at y1
    clear x0 x1 x2 hown ha ho hall hRu HN HA1
    obtain ⟨lb,hlb⟩:∃ lb,lb=r.list:=⟨_,rfl⟩
    have HLb:=Lib.hid hlb
    rw [← hlb] at y1
    clear hlb
    cases lb with
    | false =>
      by_cases hp:1+r.n=n
      · have HE:=Lib.hid (end_ok wb w3 (w.heap.size+1) (some ⟨ab,ao,none⟩) n c ws HH.out (by have:=HA3.out;rw [hp] at this;exact this))
        have HRc:=Lib.hid (HRR.out.rec_ HAl.out (by rw [← HLb.out];exact fun h=>absurd h (by decide)) (by rw [← HLb.out,HLen.out];rw [if_neg (by decide)];omega))
        have HY:=Lib.hid (HX3.out)
        go_wp2_with fail
        refine HE.out.mono ?_
        rintro e w5 ⟨rfl,hm⟩
        have y2:=(HY.out.mor hm).cell 2
        simp at y2
        have HM5:=Lib.hid (HA3.out.mor.trans' hm)
        have HC:=Lib.hid (HRc.out w5 ug r.n cu none 0 0 (arg_mk (own_ri HO3.out.1 |>.mor hm) (numL_len _ _ _) (by omega) (.inl (by rw [if_neg (by rw [← HLb.out];decide)])) (by rw [if_neg (by rw [← HLb.out];decide)];rfl) (Nat.le_refl _) (by omega) (HT.out _ (HOut.out _ HM5.out).2.2).1 (HT.out _ (HOut.out _ HM5.out).2.2).2) (by omega))
        clear hm
        go_wp2_with fail
        by_cases hc0:rr.1=0
        · refine HC.out.mono ?_
          intro e w6 hp6
          obtain ⟨rfl,hm6⟩:=hp6.ok hc0
          have HM6:=Lib.hid (HM5.out.trans' hm6)
          obtain ⟨o0,o1,o2⟩:=HOut.out _ HM6.out
          clear hp6 hm6 y2
          go_wp2_with fail
          exact door_ok rfl (World.cell?_setCell_same _ _ _ o0) ⟨by unfold ansB;rw [if_pos hc0],o2.setC' (Nat.le_refl _)⟩
        · refine HC.out.mono ?_
          intro e w6 hp6
          obtain ⟨he,hm6⟩:=hp6.no hc0
          rw [bang] at he
          subst he
          go_wp2_with fail
          exact HDo.out _ _ (HM5.out.trans' hm6) _ HRR.out.rb.1 rfl (by unfold ansB;rw [if_neg hc0])
      · have HE:=Lib.hid (end_no wb w3 (w.heap.size+1) (some ⟨ab,ao,none⟩) n c (1+r.n) ws HH.out HA3.out hp)
        go_wp2_with fail
        refine HE.out.mono ?_
        rintro e w5 ⟨he,hm⟩
        rw [bang] at he
        subst he
        go_wp2_with fail
        exact HDo.out _ _ hm 11 (by unfold CB;omega) rfl (ans11 (HRR.out.fin (by rw [← HLb.out,HLen.out];rw [if_neg (by decide)];omega)))
    | true =>
      have HN:=Lib.hid (list_any wb w3 (w.heap.size+1) (some ⟨ab,ao,none⟩) n c ws (1+r.n) HH.out HA3.out (by omega))
      go_wp2_with fail
      refine HN.out.mono ?_
      rintro e w4 (⟨v,hls,rfl,hown,ha,ho⟩ | ⟨hno,he,hm⟩)
      rotate_left
      · rw [bang] at he
        subst he
        go_wp2_with fail
        exact HDo.out _ _ hm 11 (by unfold CB;omega) rfl (ans11 (HRR.out.lst (by rw [← HLb.out]) hno))
      have hlsz:=HH.out.wsz (p:=1+r.n) (by have:=hls.1;have:=HLen.out;omega)
      have HX4:=Lib.hid (bk_on HX3.out ho (by omega))
      have HA4:=Lib.hid ha
      have HO4:=Lib.hid (And.intro hown ho)
      have HLs:=Lib.hid hls
      obtain ⟨V,cv,rfl,hcv,hRv,-⟩:=own_shape hown
      clear hown ha ho hls hRv HN
      by_cases hp:1+r.n+1=n
      · have HE:=Lib.hid (end_ok wb w4 (w.heap.size+1) (some ⟨ab,ao,none⟩) n c ws HH.out (by have:=HA4.out;rw [hp] at this;exact this))
        have HRc:=Lib.hid (HRR.out.rec_ HAl.out (by rw [← HLb.out];exact fun _=>HLs.out) (by rw [← HLb.out,HLen.out];rw [if_pos rfl];omega))
        have HY:=Lib.hid (HX4.out)
        go_wp2_with fail
        refine HE.out.mono ?_
        rintro e w5 ⟨rfl,hm⟩
        have y2:=(HY.out.mor hm).cell 2
        simp at y2
        have HM5:=Lib.hid (HA4.out.mor.trans' hm)
        have HC:=Lib.hid (HRc.out w5 ug r.n cu V _ cv (arg_mk (own_ri (own_onT HO3.out.1 HA3.out.bk (by decide) HO4.out.2) |>.mor hm) (numL_len _ _ _) (by omega) (by rw [if_pos HLb.out.symm];exact (own_ri HO4.out.1).mor hm) (by rw [if_pos HLb.out.symm];simp [lsV]) hcv (by rw [lsT];have:=pcs_few 44 (wdd ws (1+r.n));have:=hlsz;omega) (HT.out _ (HOut.out _ HM5.out).2.2).1 (HT.out _ (HOut.out _ HM5.out).2.2).2) (by omega))
        clear hm
        go_wp2_with fail
        by_cases hc0:rr.1=0
        · refine HC.out.mono ?_
          intro e w6 hp6
          obtain ⟨rfl,hm6⟩:=hp6.ok hc0
          have HM6:=Lib.hid (HM5.out.trans' hm6)
          obtain ⟨o0,o1,o2⟩:=HOut.out _ HM6.out
          clear hp6 hm6 y2
          go_wp2_with fail
          exact door_ok rfl (World.cell?_setCell_same _ _ _ o0) ⟨by unfold ansB;rw [if_pos hc0],o2.setC' (Nat.le_refl _)⟩
        · refine HC.out.mono ?_
          intro e w6 hp6
          obtain ⟨he,hm6⟩:=hp6.no hc0
          rw [bang] at he
          subst he
          go_wp2_with fail
          exact HDo.out _ _ (HM5.out.trans' hm6) _ HRR.out.rb.1 rfl (by unfold ansB;rw [if_neg hc0])
      · have HE:=Lib.hid (end_no wb w4 (w.heap.size+1) (some ⟨ab,ao,none⟩) n c (1+r.n+1) ws HH.out HA4.out hp)
        go_wp2_with fail
        refine HE.out.mono ?_
        rintro e w5 ⟨he,hm⟩
        rw [bang] at he
        subst he
        go_wp2_with fail
        exact HDo.out _ _ hm 11 (by unfold CB;omega) rfl (ans11 (HRR.out.fin (by rw [← HLb.out,HLen.out];rw [if_pos rfl];omega)))
theorem Dk.setS {w:World} {D:Nat} {s:St} {g i:Nat} {u:Value} {cs:Array Value} (h:Dk w D s) (hg:Bk w g 9 cs) (hD:g≠D):Dk (w.setCell ⟨g,i,none⟩ u) D s:=by
  obtain ⟨A,n,c,X,m,k,P,p,q,h⟩:=h
  exact ⟨A,n,c,X,m,k,P,p,q,h.bk.set_other g i u (Ne.symm hD),h.ob.setD hg (by decide) (by decide) (by decide),own_setT h.op hg (by decide),h.pl,h.kst⟩
theorem On.setN {w w':World} {D g i:Nat} {u:Value} (h:On D w w') (hg:w.heap.size≤g):On D w (w'.setCell ⟨g,i,none⟩ u) :=
  ⟨h.os,h.tape,h.output,by rw [show (w'.setCell ⟨g,i,none⟩ u).heap.size=w'.heap.size by simp [World.setCell]];exact h.size,fun k hk hl=>(Below.heap_setCell _ _ _ _ (Nat.ne_of_lt (Nat.lt_of_lt_of_le hl hg))).trans (h.block k hk hl)⟩
noncomputable def ansR (R:Option (Nat × (St→Do))) (n:Nat) (s:St):ByteArray × St :=
  match R with
  | none=>(errB 11,s)
  | some r=>if r.1=n then (if (r.2 s).c=0 then ((r.2 s).out,(r.2 s).s) else (errB (r.2 s).c,s)) else (errB 11,s)
set_option maxHeartbeats 6400000 in
theorem ans_rd (ws:List ByteArray) (R:Option (Nat × (St→Do))) (hr:tabF (wdd ws 0).data.toList=none) (hB:RdB ws R)
    (hR:∀ wb w W D A n c,Wd wb W A n c ws→D < wb.heap.size→Tab wb→W < w.heap.size→At wb w W A n c 1→Calls Tryz.prog 27 #[.pointer (some ⟨D,0,none⟩),.string (wdd ws 0),.pointer (some ⟨W,0,none⟩)] w (RdPost wb W D A n c R))
    (w0 w:World) (D:Nat) (s:St) (A:Option Addr) (n c:Nat) (h:In w A n c ws) (hd:Dk w D s) (hT0:Tb w0) (hm0:Mor w0 w) (hD0:w0.heap.size≤D) :
    Calls Tryz.prog 13 #[.pointer (some ⟨D,0,none⟩),.slice A n c] w fun e w'=>e=.returned (.string (ansR R n s).1)∧Dk w' D (ansR R n s).2∧On D w w':=by
  have hmf:=@mkf
  have hn0:0 < n:=h.one
  have HW:=Lib.hid (h.wd { data:=#[] })
  have HRd:=Lib.hid hR
  have hDl:D < w.heap.size:=by
    obtain ⟨A',n',c',X,m,k,P,p,q,h⟩:=hd
    exact h.bk.lt
  have HTab:=Lib.hid h.tab
  obtain ⟨ab,ao,rfl,hab,hac⟩:=rd_str h.rs 0 (by rw [h.len];exact hn0)
  have hs0:=h.sz0
  have HT:=Lib.hid (fun w' (hm:On D w w')=>show Tb w' from hT0.mor (On.to_mor hm0 hm hD0))
  have HDk:=Lib.hid hd
  have HSt:=Lib.hid (show Kst s from by obtain ⟨A',n',c',X,m,k,P,p,q,h⟩:=hd;exact h.kst)
  have HK:=Lib.hid (fun w' (hm:Mor w w')=>show w'.cell? ⟨ab,ao,none⟩=some (.string (wdd ws 0)) from (hm.below.cell hab).trans hac)
  have HL:=Lib.hid (fun b (w':World) (h:w'.ownsMap Tryz.prog 9 rdRk b 12 tabD)=>show (Instr.lookup 69 (.map (some b)) (.string (wdd ws 0)) true).run Tryz.prog w'=.ok (.tuple #[.agg #[.int .i64 0,.bool false,.nilFunc],.bool false]) w' from look_none h hs0 hr)
  clear hac h hd hR hT0 hm0 hD0
  generalize wdd ws 0=s0 at *
  go_enter_defers Tryz.func13,Tryz.ntmps13
  go_wp2_with fail
  have HM2:=Lib.hid ((mor_new w (.cells #[.string { data:=#[] }] 9)).trans' (mor_new _ (.cells #[.slice (some ⟨ab,ao,none⟩) n c,.int .i64 1] 64)))
  obtain ⟨w2,hw2⟩:∃ x,x=(w.alloc (.cells #[.string { data:=#[] }] 9)).alloc (.cells #[.slice (some ⟨ab,ao,none⟩) n c,.int .i64 1] 64):=⟨_,rfl⟩
  rw [← hw2] at HM2 ⊢
  have hz2:w.heap.size≤w2.heap.size:=HM2.out.below.size
  have HW2:=Lib.hid hw2
  clear hw2
  go_cut [7] from 11 (fun s7 wx=>s7=.bool false∧Hid (Mor w2 wx))
  case first =>
    go_region_held3 (fun w'=>w'.cell? ⟨ab,ao,none⟩=some (.string s0)) (exact HK.out _ (by repeat (first | assumption | exact HM2.out | exact Mor.refl _ | apply Mor.alloc | apply Mor.more | apply Mor.drewN | apply Mor.drew | refine Mor.setC' ?_ (by omega)))) (first
      | (go_at_call 23;(with_reducible refine (table_any _).mono ?_);rintro e wt ⟨b,rfl,hown,hm⟩;have hmw2:Mor w2 wt:=Mor.trans' (by repeat (first | exact Mor.refl _ | apply Mor.alloc | apply Mor.more | apply Mor.drewN | apply Mor.drew)) hm;have hmw:Mor w wt:=HM2.out.trans' hmw2;have l0:=HL.out b _ hown;have l1:=HL.out b _ (hown.alloc (.cells #[.int .i64 0,.bool false,.nilFunc] 67));clear hown;(try (have q:=rk_cells (k:=w2.heap.size) hm rfl;obtain ⟨qb,q0,q1,q2,f0,f1,f2⟩:=q))))
    all_goals (go_wp2_with fail;go_meet;refine ⟨rfl,?_⟩;exact Lib.hid (by repeat (first | assumption | exact Mor.refl _ | apply Mor.alloc | apply Mor.more | apply Mor.drewN | apply Mor.drew | refine Mor.setC' ?_ (by simp))))
  case rest =>
    obtain ⟨rfl,HX⟩:=hcut
    have a0:=HK.out wc (HM2.out.trans' HX.out)
    have HA1:=Lib.hid (show At (w.alloc (.cells #[.string { data:=#[] }] 9)) wc (w.heap.size+1) (some ⟨ab,ao,none⟩) n c 1 from HW.out.2.to (by rw [← HW2.out];exact HX.out))
    have hWl:w.heap.size+1 < wc.heap.size:=HA1.out.bk.lt
    have HH:=Lib.hid HW.out.1
    have HDo:=Lib.hid (show ∀ (tmps:Array Value) w' (hm:On D (w.alloc (.cells #[.string { data:=#[] }] 9)) w') (c:Int),CB c→tmps[4]?.getD undef=.pointer (some ⟨w.heap.size,0,none⟩)→(ansR R n s).1=errB c→Dk w' D (ansR R n s).2 →
        bodyPostD Tryz.prog Tryz.f13 (fun e w'=>e=.returned (.string (ansR R n s).1)∧Dk w' D (ansR R n s).2∧On D w w') (.panic [{ v:=.iface 59 (.agg #[.int .i64 c]),recovered:=false }]) { tmps:=tmps,defers:=[{ target:=.fn (.func 21) #[.pointer (some ⟨w.heap.size,0,none⟩)],args:=#[] }] } w' from
      fun tmps w' hm c hc h4 he hd=>by
        have b:=bk_on (Bk.new w 9 #[.string { data:=#[] }]) hm (by omega)
        have ho:=(On.of_mor (mor_new w (.cells #[.string { data:=#[] }] 9))).trans hm
        exact door_no hc (HT.out _ ho) h4 (by simpa using b.cell 0) (b.frozen 0) (fun w1 hm1=>⟨by rw [he],(hd.mor hm1).setS (b.mor hm1) (by omega),(ho.mor hm1).setN (Nat.le_refl _)⟩))
    have HOut:=Lib.hid (show ∀ w',On D (w.alloc (.cells #[.string { data:=#[] }] 9)) w'→w'.cell? ⟨w.heap.size,0,none⟩=some (.string { data:=#[] })∧w'.frozen? ⟨w.heap.size,0,none⟩=false∧Hid (Bk w' w.heap.size 9 #[.string { data:=#[] }])∧Hid (On D w w') from fun w' hm=>by
        have b:=bk_on (Bk.new w 9 #[.string { data:=#[] }]) hm (by omega)
        exact ⟨by simpa using b.cell 0,b.frozen 0,Lib.hid b,Lib.hid ((On.of_mor (mor_new _ _)).trans hm)⟩)
    have hwb1:D < (w.alloc (.cells #[.string { data:=#[] }] 9)).heap.size:=by simp;omega
    have HDb:=Lib.hid (HDk.out.mor (mor_new w (.cells #[.string { data:=#[] }] 9)))
    have HTb:=Lib.hid (HTab.out.mor (mor_new w (.cells #[.string { data:=#[] }] 9)))
    generalize w.alloc (.cells #[.string { data:=#[] }] 9)=wb at *
    clear HW HW2
    have HN:=Lib.hid (HRd.out wb wc (w.heap.size+1) D (some ⟨ab,ao,none⟩) n c HH.out hwb1 HTb.out hWl HA1.out)
    go_wp2_with fail
    refine HN.out.mono ?_
    intro e w3 hp
    cases R with
    | none =>
      obtain ⟨he,hm⟩:=hp
      rw [bang] at he
      subst he
      go_wp2_with fail
      exact HDo.out _ _ (On.of_mor hm) 11 (by unfold CB;omega) rfl rfl (HDb.out.mor hm)
    | some r =>
      obtain ⟨p,F⟩:=r
      obtain ⟨K,cap,rfl,ha,hc,hen⟩:=hp
      have HA3:=Lib.hid ha
      have HC3:=Lib.hid hc
      dsimp only at HA3 HC3
      clear ha hc
      by_cases hpn:p=n
      · have HE:=Lib.hid (end_ok wb w3 (w.heap.size+1) (some ⟨ab,ao,none⟩) n c ws HH.out (by have:=HA3.out;rw [hpn] at this;exact this))
        have HRs:=Lib.hid (show ansR (some (p,F)) n s=if (F s).c=0 then ((F s).out,(F s).s) else (errB (F s).c,s) by unfold ansR;dsimp only;rw [if_pos hpn])
        go_wp2_with fail
        refine HE.out.mono ?_
        rintro e w5 ⟨rfl,hm⟩
        have HM5:=Lib.hid (HA3.out.mor.trans' hm)
        have HC:=Lib.hid (HC3.out w5 s hm (HDb.out.mor HM5.out))
        have HBd:=Lib.hid (hB _ rfl s HSt.out)
        clear hm
        go_wp2_with fail
        by_cases hc0:(F s).c=0
        · rw [if_pos hc0] at HRs
          refine HC.out.mono ?_
          intro e w6 hp6
          obtain ⟨hdp,ho6⟩:=hp6
          rcases hdp with ⟨_,rfl,hd6⟩ | ⟨hn,_,_⟩
          rotate_left
          · exact absurd hc0 hn
          obtain ⟨o0,o1,o2,o3⟩:=HOut.out _ ((On.of_mor HM5.out).trans ho6)
          have HD6:=Lib.hid hd6
          clear hd6 ho6
          go_wp2_with fail
          exact door_ok rfl (World.cell?_setCell_same _ _ _ o0) ⟨by rw [HRs.out],by rw [HRs.out];exact HD6.out.setS o2.out (by omega),o3.out.setN (Nat.le_refl _)⟩
        · rw [if_neg hc0] at HRs
          refine HC.out.mono ?_
          intro e w6 hp6
          obtain ⟨hdp,ho6⟩:=hp6
          rcases hdp with ⟨hn,_,_⟩ | ⟨_,he,hd6⟩
          · exact absurd hn hc0
          rw [bang] at he
          subst he
          have HD6:=Lib.hid hd6
          have HO6:=Lib.hid ((On.of_mor HM5.out).trans ho6)
          clear hd6 ho6
          go_wp2_with fail
          exact HDo.out _ _ HO6.out _ HBd.out.cb rfl (by rw [HRs.out]) (by rw [HRs.out];exact HD6.out)
      · have HE:=Lib.hid (end_no wb w3 (w.heap.size+1) (some ⟨ab,ao,none⟩) n c p ws HH.out HA3.out hpn)
        have hRs:ansR (some (p,F)) n s=(errB 11,s):=by unfold ansR;dsimp only;rw [if_neg hpn]
        go_wp2_with fail
        refine HE.out.mono ?_
        rintro e w5 ⟨he,hm⟩
        rw [bang] at he
        subst he
        go_wp2_with fail
        exact HDo.out _ _ (On.of_mor hm) 11 (by unfold CB;omega) rfl (by rw [hRs]) (by rw [hRs];exact HDb.out.mor hm)
end Go.Proofs.YtdhbkifpodekcaaGreatDoor
