/- Texts of this claim. -/
import Derived.Test.YtdhbkifpodekcaaGreatDoorDeskZ15
import Derived.Test.YtdhbkifpodekcaaGreatDoorDeskZ16
namespace Go.Proofs.YtdhbkifpodekcaaGreatDoor
open Go Go.ChangeShapes Go.WideShapes Go.ChangeAt Go.RowKit Go.PlainAid
set_option linter.unusedVariables false
set_option maxRecDepth 100000
structure Wd (wb:World) (W:Nat) (A:Option Addr) (n c:Nat) (ws:List ByteArray):Prop where
  rs:Rs wb A ws
  len:ws.length=n
  le:n≤c
  hW:wb.heap.size≤W
  tb:Tb wb
  sz:∀ s∈ws,s.size≤100000
  nn:n≤100000
structure At (wb w:World) (W:Nat) (A:Option Addr) (n c p:Nat):Prop where
  mor:Mor wb w
  bk:Bk w W 64 #[.slice A n c,.int .i64 (p:Int)]
theorem At.to {wb w w':World} {W:Nat} {A:Option Addr} {n c p:Nat} (h:At wb w W A n c p) (hm:Mor w w'):At wb w' W A n c p:=⟨h.mor.trans' hm,h.bk.mor hm⟩
theorem At.set {wb w:World} {W:Nat} {A:Option Addr} {n c p:Nat} (h:At wb w W A n c p) (hW:wb.heap.size≤W) (q:Nat):At wb (w.setCell ⟨W,1,none⟩ (.int .i64 (q:Int))) W A n c q :=
  ⟨h.mor.setC' hW,by have:=h.bk.set_ 1 (.int .i64 (q:Int));simpa using this⟩
def wdd (ws:List ByteArray) (p:Nat):ByteArray:=ws.getD p ByteArray.empty
theorem At.drewN {wb w:World} {W:Nat} {A:Option Addr} {n c p k:Nat} (h:At wb w W A n c p):At wb (w.drewN k) W A n c p:=h.to (Mor.refl _).drewN
theorem At.cells {wb w:World} {W:Nat} {A:Option Addr} {n c p:Nat} (h:At wb w W A n c p) :
    w.cell? ⟨W,0,none⟩=some (.slice A n c)∧w.cell? ⟨W,1,none⟩=some (.int .i64 (p:Int))∧w.frozen? ⟨W,1,none⟩=false∧W < w.heap.size:=by
  have c0:=h.bk.cell 0
  have c1:=h.bk.cell 1
  simp at c0 c1
  exact ⟨c0,c1,h.bk.frozen 1,h.bk.lt⟩
set_option maxHeartbeats 1600000 in
theorem next_ok (wb w:World) (W:Nat) (A:Option Addr) (n c:Nat) (ws:List ByteArray) (p:Nat) (h:Wd wb W A n c ws) (ha:At wb w W A n c p) (hp:p < n) :
    Calls Tryz.prog 64 #[.pointer (some ⟨W,0,none⟩)] w fun e w'=>e=.returned (.string (wdd ws p))∧At wb w' W A n c (p+1)∧On W w w':=by
  have HQ:=Lib.hid (fun k=>(ha.set h.hW (p+1)).drewN (k:=k))
  obtain ⟨c0,c1,f1,hl⟩:=ha.cells
  obtain ⟨b,o,rfl,hb,hc⟩:=rd_str h.rs p (by rw [h.len];exact hp)
  have HC:=Lib.hid (fun w' (hm:Mor wb w')=>show w'.cell? ⟨b,o+p,none⟩=some (.string (wdd ws p)) from (hm.below.cell hb).trans hc)
  have hnn:=h.nn
  have hne:((p:Int) == (n:Int))=false:=by simp;omega
  have hle:=h.le
  have hpc:(p:Int) < (n:Int):=by omega
  have hp0:(0:Int)≤(p:Int):=by omega
  have hwp:((p+1:Nat):Int)=(p:Int)+1:=by omega
  generalize wdd ws p=s at *
  clear hc ha h
  go_enter Tryz.func64,Tryz.ntmps64
  go_wp2_with fail
  go_quiet (fail)
  go_wp2_with fail
  rename Nat=>nq
  have HA:=HQ.out nq
  rw [hwp] at HA
  have HOn:=Lib.hid (((On.refl W w).setCell (i:=1) (.int .i64 ((p:Int)+1))).drewN (n:=nq))
  generalize (w.setCell ⟨W,1,none⟩ (.int .i64 ((p:Int)+1))).drewN nq=wq at *
  have d0:=HA.bk.cell 0
  have d1:=HA.bk.cell 1
  have dl:=HA.bk.lt
  simp at d0 d1
  have d2:=HC.out _ HA.mor
  have HA:=Lib.hid HA
  clear c0 c1 f1 hl
  go_quiet (fail)
  go_wp2_with fail
  go_returns
  exact ⟨rfl,HA.out.drewN,HOn.out.drewN⟩
set_option maxHeartbeats 1600000 in
theorem next_no (wb w:World) (W:Nat) (A:Option Addr) (n c:Nat) (ws:List ByteArray) (h:Wd wb W A n c ws) (ha:At wb w W A n c n) :
    Calls Tryz.prog 64 #[.pointer (some ⟨W,0,none⟩)] w fun e w'=>e=bang 11∧Mor wb w':=by
  have HM:=Lib.hid ha.mor
  obtain ⟨c0,c1,f1,hl⟩:=ha.cells
  have hne:((n:Int) == (n:Int))=true:=by simp
  have HB:=Lib.hid (fun w=>bad_any 11 w)
  clear ha h
  go_enter Tryz.func64,Tryz.ntmps64
  go_wp2_with fail
  go_quiet (fail)
  go_wp2_with (go_at_call 66;(with_reducible refine (HB.out _).mono ?_);rintro e w' ⟨he,rfl⟩;rw [bang] at he;subst he)
  exact ⟨rfl,rfl,HM.out.drewN⟩
set_option maxHeartbeats 1600000 in
theorem end_ok (wb w:World) (W:Nat) (A:Option Addr) (n c:Nat) (ws:List ByteArray) (h:Wd wb W A n c ws) (ha:At wb w W A n c n) :
    Calls Tryz.prog 26 #[.pointer (some ⟨W,0,none⟩)] w fun e w'=>e=.returned (.tuple #[])∧Mor w w':=by
  obtain ⟨c0,c1,f1,hl⟩:=ha.cells
  have hne:((n:Int) == (n:Int))=true:=by simp
  clear ha h
  go_enter Tryz.func26,Tryz.ntmps26
  go_wp2_with fail
  go_quiet (fail)
  go_wp2_with fail
  go_end0
  exact ⟨rfl,(Mor.refl _).drewN⟩
set_option maxHeartbeats 1600000 in
theorem end_no (wb w:World) (W:Nat) (A:Option Addr) (n c p:Nat) (ws:List ByteArray) (h:Wd wb W A n c ws) (ha:At wb w W A n c p) (hp:p≠n) :
    Calls Tryz.prog 26 #[.pointer (some ⟨W,0,none⟩)] w fun e w'=>e=bang 11∧Mor wb w':=by
  have HM:=Lib.hid ha.mor
  obtain ⟨c0,c1,f1,hl⟩:=ha.cells
  have hne:((p:Int) != (n:Int))=true:=by simp;omega
  have hne2:((p:Int) == (n:Int))=false:=by simp;omega
  have HB:=Lib.hid (fun w=>bad_any 11 w)
  clear ha h
  go_enter Tryz.func26,Tryz.ntmps26
  go_wp2_with fail
  go_quiet (fail)
  go_wp2_with (go_at_call 66;(with_reducible refine (HB.out _).mono ?_);rintro e w' ⟨he,rfl⟩;rw [bang] at he;subst he)
  exact ⟨rfl,rfl,HM.out.drewN⟩
theorem own_onT {w w':World} {B s n W:Nat} {T T':TypeId} {v:Value} {xs:List Value} {cs:Array Value} (h:w.ownsRow B T s v n xs) (hb:Bk w W T' cs) (hT:T≠T') (ho:On W w w'):w'.ownsRow B T s v n xs:=by
  refine ⟨h.1,?_⟩
  rcases h.2 with hn | ⟨g,cap,cur2,rfl,hg2,hh,rest⟩
  · exact .inl hn
  · refine .inr ⟨g,cap,cur2,rfl,hg2,(ho.block g ?_ (Array.getElem?_eq_some_iff.1 hh).1).trans hh,rest⟩
    intro e
    subst e
    unfold Bk at hb
    rw [hh] at hb
    injection hb with hb
    injection hb with _ hb _
    exact hT hb
theorem mor_newB (w:World) (o:Obj):Mor w (w.alloc o):=(Mor.refl w).alloc
theorem on_grow {w wr w1:World} {B s n W:Nat} {T:TypeId} {v:Value} {xs:List Value} (hown:wr.ownsRow B T s v n xs) (hB:w.heap.size≤B) (ho:On W w wr) (hg:wr.grownBy w1 v.ownBlock):On W w w1 :=
  ⟨hg.os.trans ho.os,hg.tape.trans ho.tape,hg.output.trans ho.output,Nat.le_trans ho.size hg.size,fun k hk hl=>(hg.block k (Nat.lt_of_lt_of_le hl ho.size) (fun e=>by
    obtain ⟨_,h | ⟨g,cap,cur,rfl,hg',_⟩⟩:=hown
    · rw [h.1] at e;simp [Value.ownBlock] at e
    · simp [Value.ownBlock] at e;omega)).trans (ho.block k hk hl)⟩
def numV (s:ByteArray):Option Int :=
  match Lib.atoiAll (ub s) with
  | .ok v=>if s.size≤14∧ub s=Lib.itoa v then some v else none
  | _=>none
theorem numV_some {s:ByteArray} {v:Int} (h:numV s=some v):Lib.atoiAll (ub s)=.ok v∧s.size≤14∧s=⟨(Lib.itoa v).toArray⟩:=by
  unfold numV at h
  split at h
  · rename_i u hu
    split at h
    · rename_i h2
      injection h with h
      subst h
      exact ⟨hu,h2.1,ub_inj (by rw [ub_mk];exact h2.2)⟩
    · cases h
  · cases h
theorem atoiAll_bd {l:List UInt8} {v:Int} (h:Lib.atoiAll l=.ok v):-9223372036854775808≤v∧v≤9223372036854775807:=by
  cases l with
  | nil=>cases h
  | cons c r =>
    unfold Lib.atoiAll at h
    simp only at h
    generalize Lib.parseMag (if c.toNat=43∨c.toNat=45 then r else c :: r)=m at h
    cases m with
    | range=>cases h
    | ok u =>
      simp only at h
      by_cases hn:c.toNat=45
      · simp only [hn,not_true,false_and,if_false,true_and,if_true] at h
        split at h
        · cases h
        · injection h with h
          omega
      · simp only [hn,not_false_eq_true,false_and,if_false,true_and] at h
        split at h
        · cases h
        · injection h with h
          omega
    | _=>cases h
set_option maxHeartbeats 1600000 in
theorem number_ok (s:ByteArray) (v:Int) (w:World) (ht:Tb w) (h:numV s=some v) :
    Calls Tryz.prog 65 #[.string s] w fun e w'=>e=.returned (.int .i64 v)∧Mor w w':=by
  obtain ⟨h1,h2,h3⟩:=numV_some h
  have HA:=Lib.hid (atoi_any s w (by omega) ht)
  have hv:atoiV (ub s)=v:=by unfold atoiV;rw [h1]
  rw [hv] at HA
  have HO:=Lib.hid h1
  have hi:=atoiAll_bd h1
  have HI:=Lib.hid (fun w' (h:Mor w w')=>itoa_any v w' hi.1 hi.2 (ht.mor h))
  clear ht h h1 hv
  subst h3
  generalize hsz:(⟨(Lib.itoa v).toArray⟩:ByteArray)=st at *
  have h14:¬ (14:Int) < (st.size:Int):=by omega
  go_enter Tryz.func65,Tryz.ntmps65
  go_wp2_with fail
  refine HA.out.mono ?_
  rintro e w1 ⟨er,rfl,hm,hE⟩
  have hE':er=.nilIface:=by
    rcases hE with ⟨_,_,e⟩ | ⟨hn,_⟩
    · exact e
    · exact absurd HO.out (hn v)
  subst hE'
  have HM:=Lib.hid hm
  clear hm hE
  go_wp2_with (go_at_call 22;(with_reducible refine (HI.out _ HM.out).mono ?_);rintro e w5 ⟨rfl,hm5⟩)
  go_returns
  exact ⟨rfl,HM.out.trans' hm5⟩
set_option maxHeartbeats 1600000 in
theorem number_no (s:ByteArray) (w:World) (ht:Tb w) (hs:s.size≤100000) (h:numV s=none) :
    Calls Tryz.prog 65 #[.string s] w fun e w'=>e=bang 11∧Mor w w':=by
  have HB:=Lib.hid (fun w=>bad_any 11 w)
  have HA:=Lib.hid (atoi_any s w (by omega) ht)
  by_cases h1:∃ v,Lib.atoiAll (ub s)=.ok v
  · obtain ⟨v,h1⟩:=h1
    have hv:atoiV (ub s)=v:=by unfold atoiV;rw [h1]
    rw [hv] at HA
    have HO:=Lib.hid h1
    have hi:=atoiAll_bd h1
    have HI:=Lib.hid (fun w' (h:Mor w w')=>itoa_any v w' hi.1 hi.2 (ht.mor h))
    have h2:14 < s.size∨(s.size≤14∧s≠⟨(Lib.itoa v).toArray⟩):=by
      rcases Nat.lt_or_ge 14 s.size with hc | hc
      · exact .inl hc
      · refine .inr ⟨hc,fun e=>?_⟩
        unfold numV at h
        rw [h1] at h
        simp only at h
        rw [if_pos ⟨hc,by rw [congrArg ub e,ub_mk]⟩] at h
        cases h
    clear ht h h1 hv
    rcases h2 with h14 | ⟨h14,hne⟩
    · have h14:(14:Int) < (s.size:Int):=by omega
      go_enter Tryz.func65,Tryz.ntmps65
      go_wp2_with fail
      refine HA.out.mono ?_
      rintro e w1 ⟨er,rfl,hm,hE⟩
      have hE':er=.nilIface:=by
        rcases hE with ⟨_,_,e⟩ | ⟨hn,_⟩
        · exact e
        · exact absurd HO.out (hn v)
      subst hE'
      have HM:=Lib.hid hm
      clear hm hE
      go_wp2_with (go_at_call 66;(with_reducible refine (HB.out _).mono ?_);rintro e w' ⟨he,rfl⟩;rw [bang] at he;subst he)
      exact ⟨rfl,rfl,HM.out⟩
    · have h14:¬ (14:Int) < (s.size:Int):=by omega
      generalize (⟨(Lib.itoa v).toArray⟩:ByteArray)=st at *
      have hst:(s.toList == st.toList)=false:=by rw [str_eq];exact decide_eq_false hne
      go_enter Tryz.func65,Tryz.ntmps65
      go_wp2_with fail
      refine HA.out.mono ?_
      rintro e w1 ⟨er,rfl,hm,hE⟩
      have hE':er=.nilIface:=by
        rcases hE with ⟨_,_,e⟩ | ⟨hn,_⟩
        · exact e
        · exact absurd HO.out (hn v)
      subst hE'
      have HM:=Lib.hid hm
      clear hm hE
      go_wp2_with (first | (go_at_call 22;(with_reducible refine (HI.out _ HM.out).mono ?_);rintro e w5 ⟨rfl,hm5⟩) | (go_at_call 66;(with_reducible refine (HB.out _).mono ?_);rintro e w' ⟨he,rfl⟩;rw [bang] at he;subst he))
      exact ⟨rfl,rfl,HM.out.trans' hm5⟩
  · have HN:=Lib.hid h1
    clear ht h h1
    generalize atoiV (ub s)=v at *
    go_enter Tryz.func65,Tryz.ntmps65
    go_wp2_with fail
    refine HA.out.mono ?_
    rintro e w1 ⟨er,rfl,hm,hE⟩
    have hE':∃ N,er=.iface 219 (.pointer (some ⟨N,0,none⟩)):=by
      rcases hE with ⟨v,hv,e⟩ | ⟨hn,e⟩
      · exact absurd ⟨v,hv⟩ HN.out
      · exact e
    obtain ⟨N,rfl⟩:=hE'
    have HM:=Lib.hid hm
    clear hm hE
    go_wp2_with (go_at_call 66;(with_reducible refine (HB.out _).mono ?_);rintro e w' ⟨he,rfl⟩;rw [bang] at he;subst he)
    exact ⟨rfl,rfl,HM.out⟩
def numR (ws:List ByteArray) (p:Nat):Option Int:=if p < ws.length then numV (wdd ws p) else none
theorem Wd.wsz {wb:World} {W:Nat} {A:Option Addr} {n c:Nat} {ws:List ByteArray} (h:Wd wb W A n c ws) {p:Nat} (hp:p < n):(wdd ws p).size≤100000:=by
  refine h.sz _ ?_
  unfold wdd
  rw [List.getD_eq_getElem?_getD,List.getElem?_eq_getElem (by rw [h.len];exact hp)]
  exact List.getElem_mem _
set_option maxHeartbeats 1600000 in
theorem num_ok (wb w:World) (W:Nat) (A:Option Addr) (n c:Nat) (ws:List ByteArray) (p:Nat) (v:Int) (h:Wd wb W A n c ws) (ha:At wb w W A n c p) (hv:numR ws p=some v) :
    Calls Tryz.prog 63 #[.pointer (some ⟨W,0,none⟩)] w fun e w'=>e=.returned (.int .i64 v)∧At wb w' W A n c (p+1)∧On W w w':=by
  unfold numR at hv
  split at hv
  · rename_i hp
    rw [h.len] at hp
    have HN:=Lib.hid (next_ok wb w W A n c ws p h ha hp)
    have HV:=Lib.hid (fun w' (hm:Mor wb w')=>number_ok (wdd ws p) v w' (h.tb.mor hm) hv)
    generalize wdd ws p=s at *
    clear ha h hv
    go_enter Tryz.func63,Tryz.ntmps63
    go_wp2_with fail
    refine HN.out.mono ?_
    rintro e w1 ⟨rfl,ha,ho⟩
    have HA:=Lib.hid ha
    have HOn:=Lib.hid ho
    clear ha ho
    go_wp2_with fail
    refine (HV.out _ HA.out.mor).mono ?_
    rintro e w2 ⟨rfl,hm⟩
    go_wp2_with fail
    go_returns
    exact ⟨rfl,HA.out.to hm,HOn.out.mor hm⟩
  · cases hv
set_option maxHeartbeats 1600000 in
theorem num_no (wb w:World) (W:Nat) (A:Option Addr) (n c:Nat) (ws:List ByteArray) (p:Nat) (h:Wd wb W A n c ws) (ha:At wb w W A n c p) (hp:p≤n) (hv:numR ws p=none) :
    Calls Tryz.prog 63 #[.pointer (some ⟨W,0,none⟩)] w fun e w'=>e=bang 11∧Mor wb w':=by
  unfold numR at hv
  split at hv
  · rename_i hp
    rw [h.len] at hp
    have HN:=Lib.hid (next_ok wb w W A n c ws p h ha hp)
    have HV:=Lib.hid (fun w' (hm:Mor wb w')=>number_no (wdd ws p) w' (h.tb.mor hm) (h.wsz hp) hv)
    generalize wdd ws p=s at *
    clear ha h hv
    go_enter Tryz.func63,Tryz.ntmps63
    go_wp2_with fail
    refine HN.out.mono ?_
    rintro e w1 ⟨rfl,ha,-⟩
    have HA:=Lib.hid ha
    clear ha
    go_wp2_with fail
    refine (HV.out _ HA.out.mor).mono ?_
    rintro e w2 ⟨he,hm⟩;rw [bang] at he;subst he
    go_wp2_with fail
    exact ⟨rfl,rfl,HA.out.mor.trans' hm⟩
  · rename_i hp2
    rw [h.len] at hp2
    obtain rfl:p=n:=by omega
    have HN:=Lib.hid (next_no wb w W A p c ws h ha)
    clear ha h hv
    go_enter Tryz.func63,Tryz.ntmps63
    go_wp2_with fail
    refine HN.out.mono ?_
    rintro e w1 ⟨he,hm⟩;rw [bang] at he;subst he
    go_wp2_with fail
    exact ⟨rfl,rfl,hm⟩
def numL (ws:List ByteArray) (p k:Nat):List Int:=(List.range k).map fun i=>(numR ws (p+i)).getD 0
theorem numL_snoc (ws:List ByteArray) (p k:Nat):numL ws p (k+1)=numL ws p k++[(numR ws (p+k)).getD 0]:=by simp [numL,List.range_succ]
theorem numL_len (ws:List ByteArray) (p k:Nat):(numL ws p k).length=k:=by simp [numL]
def NumsPost (wb w:World) (ws:List ByteArray) (W:Nat) (A:Option Addr) (n c p k:Nat) (e:Ending) (w':World):Prop :=
  (∃ v,(∀ i,i < k→(numR ws (p+i)).isSome)∧e=.returned v∧w'.ownsRow w.heap.size 3 1 v k ((numL ws p k).map (Value.int .i64))∧At wb w' W A n c (p+k)∧On W w w') ∨
    ((∃ i,i < k∧numR ws (p+i)=none)∧e=bang 11∧Mor wb w')
set_option maxHeartbeats 3200000 in
theorem nums_any (wb w:World) (W:Nat) (A:Option Addr) (n c:Nat) (ws:List ByteArray) (p k:Nat) (h:Wd wb W A n c ws) (ha:At wb w W A n c p) (hp:p≤n) (hk:k≤10) :
    Calls Tryz.prog 24 #[.pointer (some ⟨W,0,none⟩),.int .i64 (k:Int)] w (NumsPost wb w ws W A n c p k):=by
  obtain ⟨i0,hi0,hz0,hz1,hz2⟩:=info_parts info_int'
  have HA0:=Lib.hid ha
  have HW:=Lib.hid h
  clear ha h
  go_enter Tryz.func24,Tryz.ntmps24
  go_wp2_with fail
  go_loopw [5,7] (fun v i wr=>∃ (j:Nat) (A':Option Addr) (c':Nat),j≤k∧i=.int .i64 j∧v=.slice A' j c'∧Hid ((∀ i,i < j→(numR ws (p+i)).isSome)∧wr.ownsRow w.heap.size 3 1 (.slice A' j c') j ((numL ws p j).map (Value.int .i64))∧At wb wr W A n c (p+j)∧On W w wr)) (fun _ i _=>k - (intOf i).toNat)
  case atStart=>exact ⟨0,none,0,Nat.zero_le _,rfl,rfl,Lib.hid ⟨fun i hi=>absurd hi (Nat.not_lt_zero _),World.ownsRow_nil _ _ _ _,HA0.out,On.refl _ _⟩⟩
  case round =>
    obtain ⟨j,A',c',hj,rfl,rfl,HJ⟩:=hrel
    by_cases hlt:j < k
    · have hji:(j:Int) < (k:Int):=by omega
      obtain ⟨h1,hown,ha,hon⟩:=HJ.out
      have hpj:p+j≤n:=by
        by_cases h0:j=0
        · omega
        · have:=h1 (j - 1) (by omega)
          unfold numR at this
          by_cases hl:p+(j - 1) < ws.length
          · have:=HW.out.len;omega
          · rw [if_neg hl] at this;cases this
      cases hv:numR ws (p+j) with
      | none =>
        have HN:=Lib.hid (num_no wb wr W A n c ws (p+j) HW.out ha hpj hv)
        have HV:=Lib.hid hv
        clear h1 hown ha hon HJ
        go_wp2_with fail
        refine HN.out.mono ?_
        rintro e w1 ⟨he,hm⟩
        rw [bang] at he
        subst he
        go_wp2_with fail
        exact ⟨rfl,.inr ⟨⟨j,hlt,HV.out⟩,rfl,hm⟩⟩
      | some u =>
        have HN:=Lib.hid (num_ok wb wr W A n c ws (p+j) u HW.out ha hv)
        have HO:=Lib.hid (fun w' (h:On W wr w')=>own_onT hown ha.bk (by decide) h)
        have HL:=Lib.hid (show numL ws p (j+1)=numL ws p j++[u] by rw [numL_snoc,hv];rfl)
        have HI:=Lib.hid (show ∀ i,i < j+1→(numR ws (p+i)).isSome from fun i hi=>by
          by_cases e:i=j
          · subst e;rw [hv];rfl
          · exact h1 i (by omega))
        have HW0:=Lib.hid hon
        clear h1 hown ha hon HJ
        go_wp2_with fail
        refine HN.out.mono ?_
        rintro e w1 ⟨rfl,ha,ho⟩
        have HA:=Lib.hid ha
        have HO1:=Lib.hid (HO.out _ ho)
        have HW1:=Lib.hid (HW0.out.trans ho)
        clear ha ho
        have hbz:w.heap.size≤(w1.alloc (.cells #[.int .i64 u] 3)).heap.size:=by have:=HW1.out.size;simp;omega
        have HO1':=Lib.hid (own_mor HO1.out ((Mor.refl w1).alloc (o:=.cells #[.int .i64 u] 3)))
        go_wp2_with (at_builtin;refine wpList_append_own _ rfl _ _ 71 rfl w.heap.size 3 i0 (.int .i64 0) 1 8 Tryz.underlying71 hi0 hz0 hz1 hz2 rfl (by decide) _ j ((numL ws p j).map (Value.int .i64)) rfl HO1'.out ⟨w1.heap.size,0,none⟩ 1 1 [.int .i64 u] rfl rfl (lit_at _ _ _ rfl rfl) (by intro x hx;simp at hx;subst hx;rfl) (by unfold maxLen;omega) (by omega) hbz ?_)
        intro u7 w7 hown7 hgrow7 _
        obtain ⟨A7,c7,rfl,_,_,_⟩:=own_shape hown7
        have HA7:=Lib.hid (show At wb w7 W A n c (p+(j+1)) from ⟨own_step (own_base HO1'.out (Nat.le_trans HA0.out.mor.below.size (Nat.le_refl _))) HA.out.mor.alloc hgrow7,Bk.growT (HA.out.bk.alloc (.cells #[.int .i64 u] 3)) HO1'.out hgrow7 (by decide)⟩)
        have HO7:=Lib.hid (show w7.ownsRow w.heap.size 3 1 (.slice A7 (j+1) c7) (j+1) ((numL ws p (j+1)).map (Value.int .i64)) by rw [HL.out,List.map_append];exact hown7)
        have HW7:=Lib.hid (on_grow HO1'.out (Nat.le_refl _) (HW1.out.mor (mor_newB _ _)) hgrow7)
        clear hown7 hgrow7 HO1' hbz
        go_simp
        go_wp2_with fail
        go_roundw
        case rel=>exact ⟨j+1,A7,c7,by omega,by go_num,rfl,Lib.hid ⟨HI.out,HO7.out,HA7.out,HW7.out⟩⟩
        case measure=>simp [intOf] <;> omega
    · obtain rfl:j=k:=by omega
      go_wp2_with fail
      go_returns
      exact .inl ⟨_,HJ.out.1,rfl,HJ.out.2.1,HJ.out.2.2.1,HJ.out.2.2.2⟩
theorem splitK_lenC (c:UInt8):∀ (k:Nat) (s:List UInt8),∀ w∈Lib.splitK [c] 0 k s,w.length≤s.length
  | 0,s,w,h=>by simp [Lib.splitK] at h;rw [h];exact Nat.le_refl _
  | k+1,s,w,h=>by
    simp only [Lib.splitK] at h
    split at h
    · simp at h;rw [h];exact Nat.le_refl _
    · rcases List.mem_cons.1 h with h | h
      · rw [h,List.length_take];omega
      · have:=splitK_lenC c k _ w h
        rw [List.length_drop] at this;omega
theorem splitB_sizeC (c:UInt8) {s w:ByteArray} {k:Nat} (h:w∈Lib.splitB ⟨#[c]⟩ 0 k s):w.size≤s.size:=by
  have hd:=Lib.splitB_data ⟨#[c]⟩ 0 k s
  have:w.data.toList∈Lib.splitK [c] 0 k s.data.toList:=by
    rw [← show (⟨#[c]⟩:ByteArray).data.toList=[c] from rfl,← hd]
    exact List.mem_map.2 ⟨w,h,rfl⟩
  have:=splitK_lenC c k _ _ this
  simpa using this
def pcs (c:UInt8) (s:ByteArray):List ByteArray:=Lib.splitB ⟨#[c]⟩ 0 (Lib.countB s ⟨#[c]⟩) s
theorem pcs_len (c:UInt8) (s:ByteArray):(pcs c s).length=Lib.countB s ⟨#[c]⟩+1:=Lib.splitB_all ⟨#[c]⟩ (Nat.le_refl 1) 0 _ s rfl
theorem pcs_few (c:UInt8) (s:ByteArray):(pcs c s).length≤s.size+1:=by
  rw [pcs_len]
  have:=Lib.countB_le ⟨#[c]⟩ (Nat.le_refl 1) s.size s (Nat.le_refl _)
  omega
theorem pcs_size (c:UInt8) {s u:ByteArray} (h:u∈pcs c s):u.size≤s.size:=splitB_sizeC c h
theorem splitC_any (c:UInt8) (s:ByteArray) (w:World) (hs:s.size < 4294967281) (ht:Tb w) :
    Calls Tryz.prog 11 #[.string s,.string ⟨#[c]⟩] w fun e w' =>
      e=.returned (.slice (some ⟨w.heap.size,0,none⟩) (pcs c s).length (pcs c s).length)∧w'=w.alloc (.cells ((pcs c s).map Value.string).toArray 9):=by
  obtain ⟨m,hm⟩:=ht.len
  rw [pcs_len]
  exact Sh.strings_Split s ⟨#[c]⟩ m w hs hm (Nat.le_refl 1)
def lsV (us:List ByteArray):List Int:=us.map fun u=>(numV u).getD 0
def lsT (ws:List ByteArray) (p:Nat):List ByteArray:=pcs 44 (wdd ws p)
def LsOk (ws:List ByteArray) (p:Nat):Prop:=p < ws.length∧∀ u∈lsT ws p,(numV u).isSome
def ListPost (wb w:World) (ws:List ByteArray) (W:Nat) (A:Option Addr) (n c p:Nat) (e:Ending) (w':World):Prop :=
  (∃ v,LsOk ws p∧e=.returned v∧w'.ownsRow w.heap.size 3 1 v (lsT ws p).length ((lsV (lsT ws p)).map (Value.int .i64))∧At wb w' W A n c (p+1)∧On W w w') ∨
    (¬ LsOk ws p∧e=bang 11∧Mor wb w')
set_option maxHeartbeats 3200000 in
theorem list_any (wb w:World) (W:Nat) (A:Option Addr) (n c:Nat) (ws:List ByteArray) (p:Nat) (h:Wd wb W A n c ws) (ha:At wb w W A n c p) (hp:p≤n) :
    Calls Tryz.prog 25 #[.pointer (some ⟨W,0,none⟩)] w (ListPost wb w ws W A n c p):=by
  obtain ⟨i0,hi0,hz0,hz1,hz2⟩:=info_parts info_int'
  by_cases hpn:p=n
  · subst hpn
    have HN:=Lib.hid (next_no wb w W A p c ws h ha)
    have HF:=Lib.hid (show ¬ LsOk ws p from fun hh=>by have:=hh.1;have:=h.len;omega)
    clear ha h
    go_enter Tryz.func25,Tryz.ntmps25
    go_wp2_with fail
    refine HN.out.mono ?_
    rintro e w1 ⟨he,hm⟩
    rw [bang] at he
    subst he
    go_wp2_with fail
    exact ⟨rfl,.inr ⟨HF.out,rfl,hm⟩⟩
  · have hlt:p < n:=by omega
    have hwl:wb.heap.size≤w.heap.size:=ha.mor.below.size
    have HN:=Lib.hid (next_ok wb w W A n c ws p h ha hlt)
    have HS:=Lib.hid (fun w' (hm:Mor wb w')=>splitC_any 44 (wdd ws p) w' (by have:=h.wsz hlt;omega) (h.tb.mor hm))
    have HT:=Lib.hid (fun w' (hm:Mor wb w')=>h.tb.mor hm)
    have HLen:=Lib.hid h.len
    have hpc:(pcs 44 (wdd ws p)).length≤100001:=by have:=pcs_few 44 (wdd ws p);have:=h.wsz hlt;omega
    have HSz:=Lib.hid (fun u (hu:u∈pcs 44 (wdd ws p))=>show u.size≤100000 by have:=pcs_size 44 hu;have:=h.wsz hlt;omega)
    have HLs:=Lib.hid (show lsT ws p=pcs 44 (wdd ws p) from rfl)
    have HF:=Lib.hid (show LsOk ws p↔∀ u∈pcs 44 (wdd ws p),(numV u).isSome from ⟨fun hh=>hh.2,fun hh=>⟨by rw [h.len];exact hlt,hh⟩⟩)
    generalize wdd ws p=s at *
    obtain ⟨us,hus⟩:∃ us,us=pcs 44 s:=⟨_,rfl⟩
    rw [← hus] at HS HSz HLs HF hpc
    obtain ⟨N,hN⟩:∃ N,N=us.length:=⟨_,rfl⟩
    rw [← hN] at HS hpc
    have HNl:=Lib.hid hN
    clear ha h hus hN
    go_enter Tryz.func25,Tryz.ntmps25
    go_wp2_with fail
    refine HN.out.mono ?_
    rintro e w1 ⟨rfl,ha,ho⟩
    have HA:=Lib.hid ha
    have HW2:=Lib.hid (ho.mor (mor_newB w1 (.cells (us.map Value.string).toArray 9)))
    have HWl:=Lib.hid hwl
    clear ha
    go_wp2_with fail
    refine (HS.out _ HA.out.mor).mono ?_
    rintro e w2 ⟨rfl,rfl⟩
    have hS1:=Bk.new w1 9 (us.map Value.string).toArray
    have hA1:=HA.out.to (w':=w1.alloc (.cells (us.map Value.string).toArray 9)) (Mor.refl _).alloc
    have hSW:wb.heap.size≤w1.heap.size:=HA.out.mor.below.size
    obtain ⟨bS,hbS⟩:∃ g,g=w1.heap.size:=⟨_,rfl⟩
    rw [← hbS] at hS1 hSW ⊢
    generalize w1.alloc (.cells (us.map Value.string).toArray 9)=w2 at *
    have HA2:=Lib.hid hA1
    have HS2:=Lib.hid hS1
    clear hA1 hS1 hbS HA
    go_wp2_with fail
    go_loopw [3,10] (fun v i wr=>∃ (j:Nat) (A':Option Addr) (c':Nat),j≤N∧i=.int .i64 j∧v=.slice A' j c'∧Hid ((∀ u∈us.take j,(numV u).isSome)∧wr.ownsRow w.heap.size 3 1 (.slice A' j c') j ((lsV (us.take j)).map (Value.int .i64))∧At wb wr W A n c (p+1)∧Bk wr bS 9 (us.map Value.string).toArray∧On W w wr)) (fun _ i _=>N - (intOf i).toNat)
    case atStart=>exact ⟨0,none,0,Nat.zero_le _,rfl,rfl,Lib.hid ⟨fun u hu=>by simp at hu,World.ownsRow_nil _ _ _ _,HA2.out,HS2.out,HW2.out⟩⟩
    case round =>
      obtain ⟨j,A',c',hj,rfl,rfl,HJ⟩:=hrel
      clear HA2 HS2
      by_cases hltj:j < N
      · have hji:(j:Int) < (N:Int):=by omega
        have hj0:(0:Int)≤(j:Int):=by omega
        obtain ⟨h1,hown,ha,hS,hon⟩:=HJ.out
        have hjl:j < us.length:=by rw [← HNl.out];exact hltj
        obtain ⟨u,hu⟩:∃ u,u=us[j]:=⟨_,rfl⟩
        have hsu:u.size≤100000:=HSz.out u (by rw [hu];exact List.getElem_mem hjl)
        have hwj:wr.cell? ⟨bS,j,none⟩=some (.string u):=by
          rw [hS.cell j,List.getElem?_toArray,List.getElem?_map,List.getElem?_eq_getElem hjl,hu];rfl
        have hSl:=hS.lt
        have HTk:=Lib.hid (show us.take (j+1)=us.take j++[u] by rw [List.take_succ_eq_append_getElem hjl,hu])
        cases hv:numV u with
        | none =>
          have HV:=Lib.hid (number_no u wr (HT.out _ ha.mor) hsu hv)
          have HM:=Lib.hid ha.mor
          have HX:=Lib.hid (show ¬ LsOk ws p from fun hh=>by
            have:=HF.out.1 hh u (by rw [hu];exact List.getElem_mem hjl)
            rw [hv] at this;cases this)
          have HW3:=Lib.hid (fun w' (h:Mor wr w')=>hon.mor h)
          clear h1 hown ha hS hon HJ hu hv
          go_wp2_with fail
          refine HV.out.mono ?_
          rintro e w3 ⟨he,hm⟩
          rw [bang] at he
          subst he
          go_wp2_with fail
          exact ⟨rfl,.inr ⟨HX.out,rfl,HM.out.trans' hm⟩⟩
        | some v =>
          have HV:=Lib.hid (number_ok u v wr (HT.out _ ha.mor) hv)
          have HO:=Lib.hid (fun w' (h:Mor wr w')=>own_mor hown h)
          have HA3:=Lib.hid (fun w' (h:Mor wr w')=>ha.to h)
          have HS3:=Lib.hid (fun w' (h:Mor wr w')=>hS.mor h)
          have HL:=Lib.hid (show lsV (us.take (j+1))=lsV (us.take j)++[v] by rw [HTk.out];simp [lsV,hv])
          have HI:=Lib.hid (show ∀ x∈us.take (j+1),(numV x).isSome from fun x hx=>by
            rw [HTk.out] at hx
            rcases List.mem_append.1 hx with hx | hx
            · exact h1 x hx
            · rw [List.mem_singleton.1 hx,hv];rfl)
          have HW3:=Lib.hid (fun w' (h:Mor wr w')=>hon.mor h)
          clear h1 hown ha hS hon HJ hu hv
          go_wp2_with fail
          refine HV.out.mono ?_
          rintro e w3 ⟨rfl,hm⟩
          have HA:=Lib.hid (HA3.out _ hm)
          have HO1:=Lib.hid (HO.out _ hm)
          have HS1:=Lib.hid (HS3.out _ hm)
          have HW1:=Lib.hid (HW3.out _ hm)
          clear hm hwj hSl
          have hbz:w.heap.size≤(w3.alloc (.cells #[.int .i64 v] 3)).heap.size:=by have:=HW1.out.size;simp;omega
          have HO1':=Lib.hid (own_mor HO1.out ((Mor.refl w3).alloc (o:=.cells #[.int .i64 v] 3)))
          go_wp2_with (at_builtin;refine wpList_append_own _ rfl _ _ 71 rfl w.heap.size 3 i0 (.int .i64 0) 1 8 Tryz.underlying71 hi0 hz0 hz1 hz2 rfl (by decide) _ j ((lsV (us.take j)).map (Value.int .i64)) rfl HO1'.out ⟨w3.heap.size,0,none⟩ 1 1 [.int .i64 v] rfl rfl (lit_at _ _ _ rfl rfl) (by intro x hx;simp at hx;subst hx;rfl) (by unfold maxLen;omega) (by omega) hbz ?_)
          intro u7 w7 hown7 hgrow7 _
          obtain ⟨A7,c7,rfl,_,_,_⟩:=own_shape hown7
          have HA7:=Lib.hid (show At wb w7 W A n c (p+1) from ⟨own_step (own_base HO1'.out HWl.out) HA.out.mor.alloc hgrow7,Bk.growT (HA.out.bk.alloc (.cells #[.int .i64 v] 3)) HO1'.out hgrow7 (by decide)⟩)
          have HS7:=Lib.hid (Bk.growT (HS1.out.alloc (.cells #[.int .i64 v] 3)) HO1'.out hgrow7 (by decide))
          have HO7:=Lib.hid (show w7.ownsRow w.heap.size 3 1 (.slice A7 (j+1) c7) (j+1) ((lsV (us.take (j+1))).map (Value.int .i64)) by rw [HL.out,List.map_append];exact hown7)
          have HW7:=Lib.hid (on_grow HO1'.out (Nat.le_refl _) (HW1.out.mor (mor_newB _ _)) hgrow7)
          clear hown7 hgrow7 HO1' hbz
          go_simp
          go_wp2_with fail
          go_roundw
          case rel=>exact ⟨j+1,A7,c7,by omega,by go_num,rfl,Lib.hid ⟨HI.out,HO7.out,HA7.out,HS7.out,HW7.out⟩⟩
          case measure=>simp [intOf] <;> omega
      · obtain rfl:j=N:=by omega
        have HAll:=Lib.hid (show us.take j=us by rw [HNl.out];exact List.take_length)
        go_wp2_with fail
        go_returns
        have hh:=HJ.out
        rw [HAll.out] at hh
        exact .inl ⟨_,HF.out.2 hh.1,rfl,by rw [HLs.out,← HNl.out];exact hh.2.1,hh.2.2.1,hh.2.2.2.2⟩
theorem cutC_any (s:ByteArray) (w:World) (hs:s.size < 4294967281) (ht:Tb w) :
    Calls Tryz.prog 16 #[.string s,.string { data:=#[58] }] w fun e w'=>e=.returned (.tuple #[.string ⟨(Lib.cut (ub s) [58]).1.toArray⟩,.string ⟨(Lib.cut (ub s) [58]).2.1.toArray⟩,.bool (Lib.cut (ub s) [58]).2.2])∧Mor w w':=by
  obtain ⟨m,hm⟩:=ht.len
  refine (Sh.strings_Cut s { data:=#[58] } m w hs hm).mono ?_
  rintro e w' ⟨rfl,k,rfl⟩
  exact ⟨rfl,(Mor.refl _).drewN⟩
def cdV (u:ByteArray):ByteArray:=⟨(Lib.cut (ub u) [58]).1.toArray⟩
def amV (u:ByteArray):ByteArray:=⟨(Lib.cut (ub u) [58]).2.1.toArray⟩
def lnR (u:ByteArray):Option Ln:=if (Lib.cut (ub u) [58]).2.2=true then (numV (amV u)).map fun v=>(cdV u,v) else none
theorem cdV_sz (u:ByteArray):(cdV u).size≤u.size:=by
  have:=(cut_len (ub u)).1
  rw [ub_len] at this
  unfold cdV;rw [sz_mk];exact this
theorem amV_sz (u:ByteArray):(amV u).size≤u.size:=by
  have:=(cut_len (ub u)).2
  rw [ub_len] at this
  unfold amV;rw [sz_mk];exact this
def ln0:Ln:=(ByteArray.empty,0)
def lnL (ws:List ByteArray) (p k:Nat):List Ln:=(List.range k).map fun i=>(lnR (wdd ws (p+i))).getD ln0
theorem lnL_snoc (ws:List ByteArray) (p k:Nat):lnL ws p (k+1)=lnL ws p k++[(lnR (wdd ws (p+k))).getD ln0]:=by simp [lnL,List.range_succ]
theorem lnL_len (ws:List ByteArray) (p k:Nat):(lnL ws p k).length=k:=by simp [lnL]
def LinesPost (wb w:World) (ws:List ByteArray) (W:Nat) (A:Option Addr) (n c p k:Nat) (e:Ending) (w':World):Prop :=
  (∃ v,(∀ i,i < k→(lnR (wdd ws (p+i))).isSome)∧e=.returned v∧w'.ownsRow w.heap.size 149 2 v k (flat pc (lnL ws p k))∧At wb w' W A n c n∧On W w w') ∨
    ((∃ i,i < k∧lnR (wdd ws (p+i))=none)∧e=bang 11∧Mor wb w')
def lenOfS:Value→Nat
  | .slice _ n _=>n
  | _=>0
set_option maxHeartbeats 3200000 in
theorem dlines_any (wb w:World) (W:Nat) (A:Option Addr) (n c:Nat) (ws:List ByteArray) (p k:Nat) (h:Wd wb W A n c ws) (ha:At wb w W A n c p) (hp:p+k=n) :
    Calls Tryz.prog 69 #[.pointer (some ⟨W,0,none⟩)] w (LinesPost wb w ws W A n c p k):=by
  obtain ⟨i0,hi0,hz0,hz1,hz2⟩:=info_parts info_line
  have HA0:=Lib.hid ha
  have HW:=Lib.hid h
  have hnn:=h.nn
  have hkk:k≤100000:=by omega
  clear ha h
  have HB:=Lib.hid (fun w=>bad_any 11 w)
  go_enter Tryz.func69,Tryz.ntmps69
  go_wp2_with fail
  go_loopw [3] (fun v wr=>∃ (j:Nat) (A':Option Addr) (c':Nat),j≤k∧v=.slice A' j c'∧Hid ((∀ i,i < j→(lnR (wdd ws (p+i))).isSome)∧wr.ownsRow w.heap.size 149 2 (.slice A' j c') j (flat pc (lnL ws p j))∧At wb wr W A n c (p+j)∧On W w wr)) (fun v _=>k - lenOfS v)
  case atStart=>exact ⟨0,none,0,Nat.zero_le _,rfl,Lib.hid ⟨fun i hi=>absurd hi (Nat.not_lt_zero _),World.ownsRow_nil _ _ _ _,HA0.out,On.refl _ _⟩⟩
  case round =>
    obtain ⟨j,A',c',hj,rfl,HJ⟩:=hrel
    obtain ⟨h1,hown,ha,hon⟩:=HJ.out
    have HW0:=Lib.hid (fun k'=>hon.drewN (n:=k'))
    obtain ⟨c0,c1,f1,hl⟩:=ha.cells
    by_cases hlt:j < k
    · obtain ⟨q,hq⟩:∃ q,q=p+j:=⟨_,rfl⟩
      rw [← hq] at c1 ha
      have hqn:(q:Int) < (n:Int):=by omega
      have hqn':q < n:=by omega
      have HN:=Lib.hid (fun k'=>next_ok wb (wr.drewN k') W A n c ws q HW.out ha.drewN hqn')
      have HT:=Lib.hid (fun w' (hm:Mor wb w')=>HW.out.tb.mor hm)
      have hsz:=HW.out.wsz hqn'
      have HC:=Lib.hid (fun w' (hm:Mor wb w')=>cutC_any (wdd ws q) w' (by omega) (HT.out _ hm))
      have HO:=Lib.hid (fun k' w' (h:On W (wr.drewN k') w')=>own_onT (own_mor hown (Mor.refl wr).drewN) (ha.drewN (k:=k')).bk (by decide) h)
      have s1:=cdV_sz (wdd ws q)
      have s2:=amV_sz (wdd ws q)
      have hqd:lnR (wdd ws q)=if (Lib.cut (ub (wdd ws q)) [58]).2.2=true then (numV (amV (wdd ws q))).map fun v=>(cdV (wdd ws q),v) else none:=rfl
      rw [show (⟨(Lib.cut (ub (wdd ws q)) [58]).1.toArray⟩:ByteArray)=cdV (wdd ws q) from rfl,show (⟨(Lib.cut (ub (wdd ws q)) [58]).2.1.toArray⟩:ByteArray)=amV (wdd ws q) from rfl] at HC
      have HNo:=Lib.hid (fun (hh:lnR (wdd ws q)=none)=>show ∃ i,i < k∧lnR (wdd ws (p+i))=none from ⟨j,hlt,by rw [← hq];exact hh⟩)
      have HSn:=Lib.hid (fun (y:Ln) (hh:lnR (wdd ws q)=some y)=>show lnL ws p (j+1)=lnL ws p j++[y] by rw [lnL_snoc,← hq,hh];rfl)
      have HI:=Lib.hid (fun (y:Ln) (hh:lnR (wdd ws q)=some y)=>show ∀ i,i < j+1→(lnR (wdd ws (p+i))).isSome from fun i hi=>by
        by_cases e:i=j
        · subst e;rw [← hq,hh];rfl
        · exact h1 i (by omega))
      have HQ:=Lib.hid (show q+1=p+(j+1) by omega)
      generalize lnR (wdd ws q)=R at *
      generalize amV (wdd ws q)=am' at *
      generalize cdV (wdd ws q)=cd' at *
      generalize (Lib.cut (ub (wdd ws q)) [58]).2.2=ok at *
      generalize wdd ws q=u at *
      have HRd:=Lib.hid hqd
      clear h1 hown ha hon HJ hq hqd
      cases ok with
      | false =>
        have HX:=Lib.hid (HNo.out (by rw [HRd.out];rfl))
        clear HNo HSn HI HRd
        go_wp2_with fail
        go_quiet (fail)
        go_wp2_with fail
        refine (HN.out _).mono ?_
        rintro e w1 ⟨rfl,ha,-⟩
        have HA:=Lib.hid ha
        clear ha
        go_wp2_with fail
        refine (HC.out _ HA.out.mor).mono ?_
        rintro e w2 ⟨rfl,hm⟩
        have HM:=Lib.hid (HA.out.mor.trans' hm)
        clear hm
        go_wp2_with (go_at_call 66;(with_reducible refine (HB.out _).mono ?_);rintro e w' ⟨he,rfl⟩;rw [bang] at he;subst he)
        exact ⟨rfl,.inr ⟨HX.out,rfl,HM.out⟩⟩
      | true =>
        cases hv:numV am' with
        | none =>
          have HX:=Lib.hid (HNo.out (by rw [HRd.out,hv];rfl))
          have HV:=Lib.hid (fun w' (hm:Mor wb w')=>number_no am' w' (HT.out _ hm) (by omega) hv)
          clear HNo HSn HI HRd hv
          go_wp2_with fail
          go_quiet (fail)
          go_wp2_with fail
          refine (HN.out _).mono ?_
          rintro e w1 ⟨rfl,ha,-⟩
          have HA:=Lib.hid ha
          clear ha
          go_wp2_with fail
          refine (HC.out _ HA.out.mor).mono ?_
          rintro e w2 ⟨rfl,hm⟩
          have HM:=Lib.hid (HA.out.mor.trans' hm)
          clear hm
          go_wp2_with fail
          refine (HV.out _ HM.out).mono ?_
          rintro e w3 ⟨he,hm⟩
          rw [bang] at he
          subst he
          go_wp2_with fail
          exact ⟨rfl,.inr ⟨HX.out,rfl,HM.out.trans' hm⟩⟩
        | some v =>
          have hR:R=some (cd',v):=by rw [HRd.out,hv];rfl
          have HV:=Lib.hid (fun w' (hm:Mor wb w')=>number_ok am' v w' (HT.out _ hm) hv)
          have HL:=Lib.hid (HSn.out _ hR)
          have HI':=Lib.hid (HI.out _ hR)
          clear HNo HSn HI HRd hv hR
          go_wp2_with fail
          go_quiet (fail)
          go_wp2_with fail
          rename Nat=>nq
          refine (HN.out _).mono ?_
          rintro e w1 ⟨rfl,ha,ho⟩
          have HA:=Lib.hid ha
          have HO1:=Lib.hid (HO.out _ _ ho)
          have HW1:=Lib.hid ((HW0.out _).trans ho)
          clear ha ho
          go_wp2_with fail
          refine (HC.out _ HA.out.mor).mono ?_
          rintro e w2 ⟨rfl,hm⟩
          have HA2:=Lib.hid (HA.out.to hm)
          have HO2:=Lib.hid (own_mor HO1.out hm)
          have HW2:=Lib.hid (HW1.out.mor hm)
          clear hm HA HO1 HW1
          go_wp2_with fail
          refine (HV.out _ HA2.out.mor).mono ?_
          rintro e w3 ⟨rfl,hm⟩
          have HA:=Lib.hid (HA2.out.to hm)
          have HO1:=Lib.hid (own_mor HO2.out hm)
          have HW1:=Lib.hid (HW2.out.mor hm)
          clear hm HA2 HO2 HW2 c0 c1 f1 hl
          have hbz:w.heap.size≤(w3.alloc (.cells #[.string cd',.int .i64 v] 149)).heap.size:=by have:=HW1.out.size;simp;omega
          have HO1':=Lib.hid (own_mor HO1.out ((Mor.refl w3).alloc (o:=.cells #[.string cd',.int .i64 v] 149)))
          go_wp2_with (at_builtin;refine wpList_append_own _ rfl _ _ 109 rfl w.heap.size 149 i0 (.agg #[.string { data:=#[] },.int .i64 0]) 2 24 Tryz.underlying109 hi0 hz0 hz1 hz2 rfl (by decide) _ j (flat pc (lnL ws p j)) rfl HO1'.out ⟨w3.heap.size,0,none⟩ 1 1 [.string cd',.int .i64 v] rfl rfl (lit_at _ _ _ rfl rfl) (by intro x hx;simp at hx;rcases hx with rfl | rfl <;> rfl) (by unfold maxLen;omega) (by omega) hbz ?_)
          intro u7 w7 hown7 hgrow7 _
          obtain ⟨A7,c7,rfl,_,_,_⟩:=own_shape hown7
          have HA7:=Lib.hid (show At wb w7 W A n c (p+(j+1)) from ⟨own_step (own_base HO1'.out (Nat.le_trans HA0.out.mor.below.size (Nat.le_refl _))) HA.out.mor.alloc hgrow7,by rw [← HQ.out];exact Bk.growT (HA.out.bk.alloc (.cells #[.string cd',.int .i64 v] 149)) HO1'.out hgrow7 (by decide)⟩)
          have HO7:=Lib.hid (show w7.ownsRow w.heap.size 149 2 (.slice A7 (j+1) c7) (j+1) (flat pc (lnL ws p (j+1))) by rw [HL.out,flat_snoc];exact hown7)
          have HW7:=Lib.hid (on_grow HO1'.out (Nat.le_refl _) (HW1.out.mor (mor_newB _ _)) hgrow7)
          clear hown7 hgrow7 HO1' hbz
          go_simp
          go_wp2_with fail
          go_roundw
          case rel=>exact ⟨j+1,A7,c7,by omega,rfl,Lib.hid ⟨HI'.out,HO7.out,HA7.out,HW7.out⟩⟩
          case measure=>simp [lenOfS] <;> omega
    · obtain rfl:j=k:=by omega
      have hnn2:¬ ((n:Int) < (n:Int)):=by omega
      rw [hp] at c1 ha
      have HJ2:=Lib.hid (And.intro h1 (And.intro hown (fun k'=>ha.drewN (k:=k'))))
      have HO:=Lib.hid (fun k'=>own_mor hown ((Mor.refl wr).drewN (k:=k')))
      clear h1 hown ha hon HJ
      go_wp2_with fail
      go_quiet (fail)
      go_wp2_with fail
      go_returns
      exact .inl ⟨_,HJ2.out.1,rfl,HO.out _,HJ2.out.2.2 _,HW0.out _⟩
end Go.Proofs.YtdhbkifpodekcaaGreatDoor
