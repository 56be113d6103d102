/- Texts of this claim. -/
import Derived.Test.YtdhbkifpodekcaaGreatDoorDeskZ14
import Derived.Test.YtdhbkifpodekcaaGreatDoorDeskZ20
namespace Go.Proofs.YtdhbkifpodekcaaGreatDoor
open Go.ChangeShapes Go.WideShapes Go.ChangeAt Go.RowKit
set_option linter.unusedVariables false
set_option maxRecDepth 100000
set_option maxHeartbeats 400000 in
theorem divisor_any (way s:Int) (w:World) (h1:0≤s) (h2:s≤2000) :
    Calls Tryz.prog 96 #[.int .i64 way,.int .i64 s] w fun e w'=>e=.returned (.int .i64 (dv way s))∧w=w':=by
  by_cases w0:way=0
  · subst w0
    rw [dv_0]
    go_enter Tryz.func96,Tryz.ntmps96
    go_wp2
    go_ret
    exact ⟨rfl,rfl⟩
  · by_cases w1:way=1
    · subst w1
      rw [dv_1]
      clear w0
      go_enter Tryz.func96,Tryz.ntmps96
      go_wp2
      go_ret
      exact ⟨rfl,rfl⟩
    · have e:dv way s=s:=by unfold dv;rw [if_neg w0,if_neg w1]
      rw [e]
      have n0:(way == 0)=false:=by simp;omega
      have n1:(way == 1)=false:=by simp;omega
      clear w0 w1 e
      go_enter Tryz.func96,Tryz.ntmps96
      go_wp2
      go_ret
      exact ⟨rfl,rfl⟩
def voteOk (v:Int):Prop:=0≤v∧v≤1000000
instance (v : Int) : Decidable (voteOk v) := by unfold voteOk; infer_instance
def lcode (n:Int) (vs:List Int):Int :=
  if 40 < vs.length then 2 else if ∀ v∈vs,voteOk v then (if n < 0∨1000 < n then 1 else if vs.sum=0 then 6 else 0) else 1
def lval (n:Int) (vs:List Int):Int:=if lcode n vs=0 then vs.sum else 0
theorem lcode_zero {n:Int} {vs:List Int} (h:lcode n vs=0):vs.length≤40∧(∀ v∈vs,voteOk v)∧0≤n∧n≤1000∧vs.sum≠0:=by
  unfold lcode at h
  split at h
  · omega
  · split at h
    · rename_i h1 h2
      split at h
      · omega
      · split at h
        · omega
        · exact ⟨by omega,h2,by omega,by omega,by assumption⟩
    · omega
theorem voteOk_get {vs:List Int} (h:∀ v∈vs,voteOk v) (i:Nat):0≤vs.getD i 0∧vs.getD i 0≤1000000:=by
  rw [List.getD_eq_getElem?_getD]
  by_cases hk:i < vs.length
  · rw [List.getElem?_eq_getElem hk];exact h _ (List.getElem_mem hk)
  · rw [List.getElem?_eq_none (by omega)];simp
set_option maxRecDepth 100000 in
set_option maxHeartbeats 1600000 in
theorem slook_any (n:Int) (A:Option Addr) (m cap:Nat) (vs:List Int) (w:World) (hr:Ri w A vs) (hm:vs.length=m) :
    Calls Tryz.prog 95 #[.int .i64 n,.slice A m cap] w fun e w'=>e=.returned (.tuple #[.int .i64 (lval n vs),.int .i64 (lcode n vs)])∧w=w':=by
  by_cases hl:40 < m
  · have e:lcode n vs=2:=by unfold lcode;rw [if_pos (by omega)]
    have e2:lval n vs=0:=by unfold lval;rw [if_neg (by omega)]
    rw [e2,e]
    clear hr hm e e2
    go_enter Tryz.func95,Tryz.ntmps95
    go_wp2
    go_returns
    exact ⟨rfl,rfl⟩
  · have h40:m≤40:=by omega
    have HR:=Lib.hid (fun i (hi:i < m)=>hr.at_ i (by omega))
    have HN:=Lib.hid hm
    clear hr hl hm
    obtain ⟨cd,hcd⟩:∃ c,lcode n vs=c:=⟨_,rfl⟩
    obtain ⟨lv,hlv⟩:∃ c,lval n vs=c:=⟨_,rfl⟩
    rw [hcd,hlv]
    have HC:=Lib.hid hcd
    have HV:=Lib.hid hlv
    clear hcd hlv
    go_enter Tryz.func95,Tryz.ntmps95
    go_wp2
    go_loop [6,14] (fun s i=>∃ k:Nat,k≤m∧i=.int .i64 k∧s=.int .i64 (vs.take k).sum∧Hid (∀ j,j < k→voteOk (vs.getD j 0))∧0≤(vs.take k).sum∧(vs.take k).sum≤k*1000000) (fun _ i=>m - (intOf i).toNat)
    case atStart=>exact ⟨0,Nat.zero_le _,rfl,by simp,Lib.hid (fun j hj=>absurd hj (Nat.not_lt_zero _)),by simp,by simp⟩
    case round =>
      obtain ⟨k,hk,rfl,rfl,hok,s1,s2⟩:=hrel
      by_cases hlt:k < m
      · obtain ⟨x,hA,hxb,c⟩:=HR.out k hlt
        subst hA
        have HS:=Lib.hid (sum_take_succ vs k (by rw [HN.out];exact hlt))
        have HY:Hid (∃ y,vs.getD k 0=y):=Lib.hid ⟨_,rfl⟩
        obtain ⟨y,hy⟩:=HY.out
        have HYK:=Lib.hid hy
        rw [hy] at c
        clear hy HY
        by_cases hv:voteOk y
        · obtain ⟨v1,v2⟩:=hv
          have HT:=Lib.hid (show (vs.take (k+1)).sum=(vs.take k).sum+y by have:=HS.out;rw [HYK.out] at this;exact this)
          obtain ⟨t,ht⟩:∃ t,(vs.take k).sum=t:=⟨_,rfl⟩
          have HTT:=Lib.hid ht
          rw [ht] at s1 s2
          rw [ht]
          clear ht
          go_wp2
          go_round
          case rel =>
            refine ⟨k+1,by omega,by go_num,by rw [HT.out,HTT.out],Lib.hid (fun j hj=>?_),by rw [HT.out,HTT.out];omega,by rw [HT.out,HTT.out];omega⟩
            by_cases e:j=k
            · subst e;rw [HYK.out];exact ⟨v1,v2⟩
            · exact hok.out j (by omega)
          case measure=>simp [intOf];omega
        · have e:cd=1:=by
            rw [← HC.out];unfold lcode
            rw [if_neg (by have:=HN.out;omega),if_neg]
            intro h
            have:=h (vs.getD k 0) (getD_mem vs k (by have:=HN.out;omega))
            rw [HYK.out] at this
            exact hv this
          have e2:lv=0:=by rw [← HV.out];unfold lval;rw [if_neg (by rw [HC.out];omega)]
          subst e e2
          have hv':y < 0∨(0≤y∧1000000 < y):=by unfold voteOk at hv;omega
          clear hv
          rcases hv' with h | ⟨h,h'⟩
          all_goals
            go_wp2
            go_returns
            exact ⟨rfl,rfl⟩
      · have e:k=m:=by omega
        subst e
        have hall:∀ v∈vs,voteOk v:=by
          intro v hv
          obtain ⟨i,hi,e⟩:=List.getElem_of_mem hv
          have:=hok.out i (by have:=HN.out;omega)
          rw [List.getD_eq_getElem?_getD,List.getElem?_eq_getElem hi] at this
          rw [← e];exact this
        have htk:vs.take k=vs:=List.take_of_length_le (by rw [HN.out];omega)
        have hc:cd=if n < 0∨1000 < n then 1 else if vs.sum=0 then 6 else 0:=by
          rw [← HC.out];unfold lcode;rw [if_neg (by have:=HN.out;omega),if_pos hall]
        have hv:lv=if cd=0 then vs.sum else 0:=by rw [← HV.out];unfold lval;rw [HC.out]
        rw [htk] at s1 s2 ⊢
        clear htk hall hok
        generalize vs.sum=S at *
        by_cases hn:n < 0∨1000 < n
        · rw [if_pos hn] at hc
          subst hc
          rw [if_neg (by omega)] at hv
          subst hv
          have hn':n < 0∨(0≤n∧1000 < n):=by omega
          clear hn hlt
          rcases hn' with h | ⟨h,h'⟩
          all_goals
            go_wp2
            go_returns
            exact ⟨rfl,rfl⟩
        · rw [if_neg hn] at hc
          have n1:0≤n:=by omega
          have n2:n≤1000:=by omega
          clear hn hlt
          by_cases hz:S=0
          · rw [if_pos hz] at hc
            subst hc
            rw [if_neg (by omega)] at hv
            subst hv hz
            go_wp2
            go_returns
            exact ⟨rfl,rfl⟩
          · rw [if_neg hz] at hc
            subst hc
            rw [if_pos rfl] at hv
            subst hv
            have hz':(lv == 0)=false:=by simp;omega
            clear hz
            go_wp2
            go_returns
            exact ⟨rfl,rfl⟩
theorem info_int:(Tryz.prog.info? 3).map (fun i=>(i.zero,i.size,i.bytes))=some (some (.int .i64 0),1,8):=by kernel_rfl
def at0 (xs:List Int) (i:Nat):Int:=xs.getD i 0
theorem at0_set (xs:List Int) (B i:Nat) (hB:B < xs.length) (v:Int):at0 (xs.set B v) i=if i=B then v else at0 xs i:=by
  unfold at0
  rw [List.getD_eq_getElem?_getD,List.getElem?_set]
  by_cases e:B=i
  · subst e;rw [if_pos rfl,if_pos hB,if_pos rfl];rfl
  · rw [if_neg e,if_neg (fun h=>e h.symm),List.getD_eq_getElem?_getD]
theorem sumTo_list (xs:List Int) (m:Nat) (hm:xs.length=m):sumTo (at0 xs) m=xs.sum:=by
  have key:∀ k,k≤m→sumTo (at0 xs) k=(xs.take k).sum:=by
    intro k
    induction k with
    | zero=>intro _;simp [sumTo]
    | succ k ih =>
      intro hk
      rw [sum_take_succ _ _ (by omega),← ih (by omega)];rfl
  rw [key m (Nat.le_refl _),List.take_of_length_le (by omega)]
def DealInv (way:Int) (vs xs:List Int) (r:Nat):Prop :=
  xs.length=vs.length∧Fair way vs.length (at0 vs) (at0 xs)∧sumTo (at0 xs) vs.length=r
theorem DealInv.bd {way:Int} {vs xs:List Int} {r:Nat} (h:DealInv way vs xs r) (i:Nat) (hi:i < vs.length):0≤xs.getD i 0∧xs.getD i 0≤r:=by
  obtain ⟨hl,hf,hs⟩:=h
  have a:=hf.1 i hi
  refine ⟨a,?_⟩
  have:=sumTo_le (fun j=>if j=i then at0 xs i else 0) (at0 xs) vs.length (fun j hj=>by
    by_cases e:j=i
    · subst e;simp
    · (try simp only);rw [if_neg e];exact hf.1 j hj)
  have e2:=sumTo_upd (fun _=>0) vs.length i hi (at0 xs i)
  rw [sumTo_const] at e2
  have e3:sumTo (fun j=>if j=i then at0 xs i else 0) vs.length=sumTo (fun j=>if j=i then (0:Int)+at0 xs i else 0) vs.length:=sumTo_congr _ _ _ (fun j hj=>by by_cases e:j=i <;> simp [e])
  show at0 xs i≤r
  omega
theorem DealInv.step {way:Int} {vs xs:List Int} {r B:Nat} (h:DealInv way vs xs r) (hv:∀ v∈vs,voteOk v) (hb:Best way (at0 vs) (at0 xs) vs.length B) :
    B < vs.length∧DealInv way vs (xs.set B (xs.getD B 0+1)) (r+1):=by
  obtain ⟨hl,hf,hs⟩:=h
  obtain ⟨hB,hn⟩:=hf.next (fun i hi=>(voteOk_get hv i).1) hb
  have e:at0 (xs.set B (xs.getD B 0+1))=fun i=>if i=B then at0 xs i+1 else at0 xs i:=by
    funext i
    rw [at0_set xs B i (by omega)]
    by_cases e:i=B
    · subst e;simp [at0]
    · simp [e]
  refine ⟨hB,by rw [List.length_set];exact hl,by rw [e];exact hn,?_⟩
  rw [e,sumTo_upd _ _ _ hB];omega
def DealPost2 (w:World) (way:Int) (n:Nat) (vs:List Int) (e:Ending) (w':World):Prop :=
  ∃ xs,e=.returned (.tuple #[.slice (some ⟨w.heap.size,0,none⟩) vs.length vs.length,.int .i64 0])∧Below w.heap.size w w'∧DealInv way vs xs n∧Blk w' w.heap.size 3 (ic xs)
set_option maxRecDepth 100000 in
set_option maxHeartbeats 6400000 in
theorem deal_ok2 (way:Int) (n:Nat) (A:Option Addr) (m cap:Nat) (vs:List Int) (w:World) (hw1:0≤way) (hw2:way≤2) (hr:Ri w A vs) (hm:vs.length=m) (hc:lcode n vs=0) :
    Calls Tryz.prog 42 #[.int .i64 way,.int .i64 n,.slice A m cap] w (DealPost2 w way n vs):=by
  obtain ⟨c1,c2,c3,c4,c5⟩:=lcode_zero hc
  have hmk:=fun w=>run_make_row' (P:=Tryz.prog) 71 3 (.int .i64 0) 8 Tryz.underlying71 info_int rfl .i64 .i64 m (by omega) (by omega) w
  have hlv:lval n vs=vs.sum:=by unfold lval;rw [if_pos hc]
  have HL:=Lib.hid (fun w (h:Ri w A vs)=>slook_any n A m cap vs w h hm)
  rw [hc,hlv] at HL
  have HV:=Lib.hid c2
  have HR:=Lib.hid hr
  have HN:=Lib.hid hm
  have HSV:=Lib.hid (show sumTo (at0 vs) vs.length≠0 by rw [sumTo_list vs _ rfl];exact c5)
  have HI0:=Lib.hid (show DealInv way vs (List.replicate m 0) 0 from by
    have e:at0 (List.replicate m 0)=fun _=>0:=by
      funext i;unfold at0;rw [List.getD_eq_getElem?_getD,List.getElem?_replicate];split <;> rfl
    refine ⟨by simp [hm],by rw [e];exact Fair.zero _ _ _,by rw [e,sumTo_const];simp⟩)
  have m40:m≤40:=by omega
  clear hc hlv hr hm c1 c2 c5
  generalize vs.sum=S at *
  go_enter Tryz.func42,Tryz.ntmps42
  go_wp2_with (first | (go_at_call 95;(with_reducible refine (HL.out _ HR.out).mono ?_);rintro e w1 ⟨rfl,rfl⟩))
  rw [ic_zero]
  clear hmk
  go_loopw [33] (fun c wr=>∃ (r:Nat) (xs:List Int),r≤n∧c=.int .i64 r∧Hid (DealInv way vs xs r)∧Hid (Below w.heap.size w wr)∧Hid (Blk wr w.heap.size 3 (ic xs))) (fun c _=>n - (intOf c).toNat)
  case atStart=>exact ⟨0,List.replicate m 0,Nat.zero_le _,rfl,HI0,Lib.hid ((Below.refl _ _).alloc (Nat.le_refl _) _),Lib.hid (Blk.new _ _ _)⟩
  case round =>
    obtain ⟨r,xs,hrn,rfl,hinv,hbel,hblk⟩:=hrel
    by_cases hlt:r < n
    · obtain ⟨wo,rfl⟩:∃ wo:World,wo=wr:=⟨_,rfl⟩
      have hri:((r:Nat):Int) < (n:Int):=by omega
      have HVR:=Lib.hid (fun i (hi:i < m) w2 (h2:∃ k,w2=wo.drewN k)=>show ∃ x,A=some x∧w2.cell? (x.add i)=some (.int .i64 (vs.getD i 0)) from by
        obtain ⟨k,rfl⟩:=h2
        obtain ⟨x,a,_,b⟩:=(HR.out.below hbel.out).at_ i (by rw [HN.out];exact hi)
        exact ⟨x,a,b⟩)
      have HXR:=Lib.hid (fun i (hi:i < m) w2 (h2:∃ k,w2=wo.drewN k)=>show w2.cell? ⟨w.heap.size,i,none⟩=some (.int .i64 (xs.getD i 0)) from by
        obtain ⟨k,rfl⟩:=h2
        rw [World.cell?_drewN,hblk.out.cell,ic_get _ _ (by rw [hinv.out.1,HN.out];exact hi)])
      have HXB:=Lib.hid (fun i (hi:i < m)=>hinv.out.bd i (by rw [HN.out];exact hi))
      have HVB:=Lib.hid (fun i=>voteOk_get HV.out i)
      go_wp2
      go_loopw [11,37] (fun b c w2=>∃ (i:Nat) (bb:Int),i≤m∧c=.int .i64 i∧b=.int .i64 bb∧Hid (Best way (at0 vs) (at0 xs) i bb)∧-1≤bb∧bb < i∧Hid (∃ q,w2=wo.drewN q)) (fun _ c _=>m - (intOf c).toNat)
      case atStart=>exact ⟨0,-1,Nat.zero_le _,rfl,rfl,Lib.hid (Best.zero _ _ _),by omega,by omega,Lib.hid ⟨0,rfl⟩⟩
      case round =>
        obtain ⟨i,bb,him,rfl,rfl,hbest,hb1,hb2,hq⟩:=hrel
        by_cases hil:i < m
        · obtain ⟨x,hA,cv⟩:=HVR.out i hil _ hq.out
          have hii:((i:Nat):Int) < (m:Int):=by omega
          obtain ⟨v1,v2⟩:=HVB.out i
          obtain ⟨vi,hvi⟩:∃ v,vs.getD i 0=v:=⟨_,rfl⟩
          have HVI:=Lib.hid hvi
          rw [hvi] at cv v1 v2
          clear hvi
          subst hA
          by_cases hz:vi=0
          · subst hz
            have HB2:=Lib.hid (hbest.out.skip (i:=i) HVI.out)
            go_wp2
            go_roundw
            case rel=>exact ⟨i+1,bb,by omega,by go_num,rfl,HB2,by omega,by omega,hq⟩
            case measure=>simp [intOf];omega
          · have vz:(vi == 0)=false:=by simp;omega
            have vp:0 < vi:=by omega
            clear hz
            by_cases hbn:bb < 0
            · have HB2:=Lib.hid (hbest.out.first hbn (by show 0 < vs.getD i 0;rw [HVI.out];exact vp))
              go_wp2
              go_quiet ((go_at_call 96;fail))
              go_wp2
              go_roundw
              case rel=>exact ⟨i+1,i,by omega,by go_num,rfl,HB2,by omega,by omega,Lib.hid (by obtain ⟨q,e⟩:=hq.out;rw [e,World.drewN_drewN];exact ⟨_,rfl⟩)⟩
              case measure=>simp [intOf];omega
            · obtain ⟨B,rfl⟩:=Int.eq_ofNat_of_zero_le (show 0≤bb by omega)
              obtain ⟨x2,hA2,cB⟩:=HVR.out B (by omega) _ hq.out
              injection hA2 with hA2
              subst hA2
              have cxB:=HXR.out B (by omega) _ hq.out
              have cxi:=HXR.out i hil _ hq.out
              obtain ⟨b1,b2⟩:=HXB.out B (by omega)
              obtain ⟨b3,b4⟩:=HXB.out i hil
              obtain ⟨b5,b6⟩:=HVB.out B
              have HTake:=Lib.hid (fun (h:at0 vs B*dv way (at0 xs i) < at0 vs i*dv way (at0 xs B))=>hbest.out.take (fun j hj=>(HXB.out j (by omega)).1) (by show 0 < vs.getD i 0;rw [HVI.out];exact vp) h)
              have HStay:=Lib.hid (fun (h:at0 vs i*dv way (at0 xs B)≤at0 vs B*dv way (at0 xs i))=>hbest.out.stay (by show 0 < vs.getD i 0;rw [HVI.out];exact vp) h)
              have HTake':=Lib.hid (show vs.getD B 0*dv way (xs.getD i 0) < vi*dv way (xs.getD B 0)→Best way (at0 vs) (at0 xs) (i+1) i by rw [← HVI.out];exact HTake.out)
              have HStay':=Lib.hid (show vi*dv way (xs.getD B 0)≤vs.getD B 0*dv way (xs.getD i 0)→Best way (at0 vs) (at0 xs) (i+1) B by rw [← HVI.out];exact HStay.out)
              clear HTake HStay
              generalize vs.getD B 0=vB at *
              generalize xs.getD B 0=xB at *
              generalize xs.getD i 0=xi at *
              have HDB:=Lib.hid (fun w=>divisor_any way xB w (by omega) (by omega))
              have HDI:=Lib.hid (fun w=>divisor_any way xi w (by omega) (by omega))
              obtain ⟨d1,d2⟩:=dv_bd way xB (by omega) (by omega)
              obtain ⟨d3,d4⟩:=dv_bd way xi (by omega) (by omega)
              generalize dv way xB=dB at *
              generalize dv way xi=dI at *
              obtain ⟨p1,p2⟩:=prod_bd vi dB 1000000 2001 (by omega) (by omega) d1 d2 (by omega)
              obtain ⟨p3,p4⟩:=prod_bd vB dI 1000000 2001 (by omega) (by omega) d3 d4 (by omega)
              have bz:(B:Int) < (m:Int):=by omega
              have by0:(0:Int)≤(B:Int):=by omega
              clear hbn hb1
              by_cases hgt:vB*dI < vi*dB
              · have HB2:=Lib.hid (HTake'.out hgt)
                have k1:IntKind.i64.wrap (vi*dB)=vi*dB:=IntWalk.i64_in _ (by omega)
                have k2:IntKind.i64.wrap (vB*dI)=vB*dI:=IntWalk.i64_in _ (by omega)
                go_wp2
                go_quiet ((first | (go_at_call 96;(with_reducible exact quiet_eq (HDB.out _))) | (go_at_call 96;(with_reducible exact quiet_eq (HDI.out _)))))
                clear k1 k2
                go_wp2
                go_roundw
                case rel=>exact ⟨i+1,i,by omega,by go_num,rfl,HB2,by omega,by omega,Lib.hid (by obtain ⟨q,e⟩:=hq.out;rw [e,World.drewN_drewN];exact ⟨_,rfl⟩)⟩
                case measure=>simp [intOf];omega
              · have HB2:=Lib.hid (HStay'.out (by omega))
                have hle:vi*dB≤vB*dI:=by omega
                clear hgt
                have k1:IntKind.i64.wrap (vi*dB)=vi*dB:=IntWalk.i64_in _ (by omega)
                have k2:IntKind.i64.wrap (vB*dI)=vB*dI:=IntWalk.i64_in _ (by omega)
                go_wp2
                go_quiet ((first | (go_at_call 96;(with_reducible exact quiet_eq (HDB.out _))) | (go_at_call 96;(with_reducible exact quiet_eq (HDI.out _)))))
                clear k1 k2
                go_wp2
                go_roundw
                case rel=>exact ⟨i+1,B,by omega,by go_num,rfl,HB2,by omega,by omega,Lib.hid (by obtain ⟨q,e⟩:=hq.out;rw [e,World.drewN_drewN];exact ⟨_,rfl⟩)⟩
                case measure=>simp [intOf];omega
        · have e:i=m:=by omega
          subst e
          have hbs:=hbest.out
          rw [show i=vs.length from HN.out.symm] at hbs
          obtain ⟨B,rfl,hBm⟩:=hbs.some HSV.out
          obtain ⟨hB,hnext⟩:=hinv.out.step HV.out hbs
          have hBi:B < i:=by rw [← HN.out];exact hB
          have cxB:=HXR.out B hBi wo ⟨0,rfl⟩
          obtain ⟨b1,b2⟩:=HXB.out B hBi
          obtain ⟨q,hq'⟩:=hq.out
          clear hq
          subst hq'
          have hfz:wo.frozen? ⟨w.heap.size,B,none⟩=false:=hblk.out.frozen B
          have HNext:=Lib.hid hnext
          have HBlk:=Lib.hid (fun q v=>show Blk ((wo.setCell ⟨w.heap.size,B,none⟩ (.int .i64 v)).drewN q) w.heap.size 3 (ic (xs.set B v)) from by
            rw [← ic_set];exact (hblk.out.set_ B _).drewN q)
          have HBel:=Lib.hid (fun q v=>show Below w.heap.size w ((wo.setCell ⟨w.heap.size,B,none⟩ v).drewN q) from bel_dN (hbel.out.setCell (Nat.le_refl _) v))
          clear hnext hbs hB
          generalize xs.getD B 0=xB at *
          go_wp2
          go_roundw
          case rel=>exact ⟨r+1,xs.set B (xB+1),by omega,by go_num,HNext,Lib.hid (HBel.out _ _),Lib.hid (HBlk.out _ _)⟩
          case measure=>simp [intOf];omega
    · have e:r=n:=by omega
      subst e
      go_wp2
      go_returns
      exact ⟨xs,by rw [HN.out];rfl,hbel.out,hinv.out,hblk.out⟩
def dcode (way n:Int) (vs:List Int):Int:=if way < 0∨2 < way then 1 else lcode n vs
set_option maxHeartbeats 1600000 in
theorem deal_no (way n:Int) (A:Option Addr) (m cap:Nat) (vs:List Int) (w:World) (hr:Ri w A vs) (hm:vs.length=m) (hc:dcode way n vs≠0) :
    Calls Tryz.prog 42 #[.int .i64 way,.int .i64 n,.slice A m cap] w fun e w'=>e=.returned (.tuple #[.slice none 0 0,.int .i64 (dcode way n vs)])∧w=w':=by
  by_cases hw:way < 0∨2 < way
  · have e:dcode way n vs=1:=by unfold dcode;rw [if_pos hw]
    rw [e]
    have hw':way < 0∨(0≤way∧2 < way):=by omega
    clear hr hm hc hw e
    rcases hw' with h | ⟨h,h'⟩
    all_goals
      go_enter Tryz.func42,Tryz.ntmps42
      go_wp2
      go_returns
      exact ⟨rfl,rfl⟩
  · have e:dcode way n vs=lcode n vs:=by unfold dcode;rw [if_neg hw]
    rw [e] at hc ⊢
    have HL:=Lib.hid (slook_any n A m cap vs w hr hm)
    have w1:0≤way:=by omega
    have w2:way≤2:=by omega
    clear hr hm hw e
    generalize lcode n vs=c at *
    generalize lval n vs=l at *
    have c0:(c == 0)=false:=by simp;omega
    go_enter Tryz.func42,Tryz.ntmps42
    go_wp2_with (first | (go_at_call 95;(with_reducible refine HL.out.mono ?_);rintro e w1 ⟨rfl,rfl⟩))
    go_returns
    exact ⟨rfl,rfl⟩
theorem deal_known {way:Int} {vs xs ys:List Int} {n:Nat} (hv:∀ v∈vs,voteOk v) (h:DealInv way vs xs n) (h':DealInv way vs ys n):xs=ys:=by
  apply List.ext_getElem
  · rw [h.1,h'.1]
  · intro i h1 h2
    have:=fair_unique (fun i hi=>(voteOk_get hv i).1) h.2.1 h'.2.1 (by rw [h.2.2,h'.2.2]) i (by rw [← h.1];exact h1)
    simpa [at0,List.getD_eq_getElem?_getD,h1,h2] using this
theorem dcode_zero {way n:Int} {vs:List Int} (h:dcode way n vs=0):0≤way∧way≤2∧lcode n vs=0:=by
  unfold dcode at h
  by_cases hw:way < 0∨2 < way
  · rw [if_pos hw] at h;omega
  · rw [if_neg hw] at h;exact ⟨by omega,by omega,h⟩
theorem own_drewNO {w:World} {B:Nat} {T:TypeId} {s:Nat} {v:Value} {n k:Nat} {xs:List Value} (h:w.ownsRow B T s v n xs):(w.drewN k).ownsRow B T s v n xs:=h
theorem own_stepO {w wr w1:World} {T:TypeId} {v:Value} {n m:Nat} {xs:List Value} {o:Obj} (hown:wr.ownsRow w.heap.size T 1 v n xs) (hnx:Below w.heap.size w wr)
    (hgrow:((wr.alloc o).drewN m).grownBy w1 v.ownBlock):Below w.heap.size w w1:=by
  have h1:Below w.heap.size w ((wr.alloc o).drewN m):=bel_dN (hnx.alloc hnx.size o)
  refine h1.grown hgrow h1.size ?_
  intro k hk
  obtain ⟨_,h | ⟨g,cap,cur,rfl,hg,_⟩⟩:=hown
  · rw [h.1] at hk;simp [Value.ownBlock] at hk
  · simp [Value.ownBlock] at hk;omega
theorem own_row {w wr:World} {T:TypeId} {v:Value} {n:Nat} {xs:List Int} (hown:wr.ownsRow w.heap.size T 1 v n (xs.map (Value.int .i64))) (hn:1≤n) :
    ∃ b c,v=.slice (some ⟨b,0,none⟩) n c∧w.heap.size≤b∧xs.length=n∧n≤c∧Row wr b 0 xs:=by
  obtain ⟨hl,h | ⟨g,cap,cur,rfl,hg,hb,h1,h2,h3,h4⟩⟩:=hown
  · omega
  · have hlen:xs.length=n:=by simpa using hl
    refine ⟨g,cap,rfl,hg,hlen,h1,?_,fun i hi=>?_⟩
    · by_cases hs:g < wr.heap.size
      · exact hs
      · rw [Array.getElem?_eq_none (by omega)] at hb;simp at hb
    · have e:cur[i]?=some (Value.int .i64 (xs.getD i 0)):=by
        have:=congrArg (fun l:List Value=>l[i]?) h4
        simp only [List.getElem?_take,List.getElem?_map] at this
        rw [if_pos (by omega)] at this
        rw [← Array.getElem?_toList,this,List.getD_eq_getElem?_getD,List.getElem?_eq_getElem hi]
        rfl
      rw [Nat.zero_add]
      simp [World.cell?,hb,e]
theorem info_intF:(Tryz.prog.info? 3).map (fun i=>(i.zero,i.size,i.bytes))=some (some (.int .i64 0),1,8):=by kernel_rfl
set_option maxHeartbeats 400000 in
theorem look_ok (cost rest n:Int) (w:World) (h1:0≤cost) (h2:cost≤1000000000000) (h3:0≤rest) (h4:rest≤cost) (h5:1≤n) (h6:n≤40) :
    Calls Tryz.prog 103 #[.int .i64 cost,.int .i64 rest,.int .i64 n] w fun e w'=>e=.returned (.int .i64 0)∧w=w':=by
  go_enter Tryz.func103,Tryz.ntmps103
  go_wp2
  all_goals go_ret
  all_goals exact ⟨rfl,rfl⟩
theorem viF {k:IntKind} {a b:Int} (h:a=b):Value.int k a=Value.int k b:=by rw [h]
def FallPost2 (w:World) (xs:List Int) (N:Nat) (e:Ending) (w':World):Prop :=
  ∃ v,e=.returned (.tuple #[v,.int .i64 0])∧w'.ownsRow w.heap.size 3 1 v N (xs.map (Value.int .i64))∧Below w.heap.size w w'
set_option maxHeartbeats 6400000 in
theorem falling_ok2 (cost rest rate:Int) (N:Nat) (w:World) (h1:0≤cost) (h2:cost≤1000000000000) (h3:0≤rest) (h4:rest≤cost) (h5:0≤rate) (h6:rate≤1000000) (h7:1≤N) (h8:N≤40) :
    Calls Tryz.prog 52 #[.int .i64 cost,.int .i64 rest,.int .i64 rate,.int .i64 (N:Int)] w (FallPost2 w (flist cost rest rate N N) N):=by
  obtain ⟨i0,hi,hz0,hz1,hz2⟩:=info_parts info_intF
  go_enter Tryz.func52,Tryz.ntmps52
  go_wp2_with (first | (go_at_call 103;refine (look_ok _ _ _ _ h1 h2 h3 h4 (by omega) (by omega)).mono ?_;rintro e w1 ⟨rfl,rfl⟩))
  go_loopw [3,11,12] (fun n l v wr=>∃ k:Nat,k≤N∧n=.int .i64 ((N:Int) - k)∧l=.int .i64 (fleft cost rest rate N k)∧wr.ownsRow w.heap.size 3 1 v k ((flist cost rest rate N k).map (Value.int .i64))∧Below w.heap.size w wr) (fun n _ _ _=>(intOf n).toNat)
  case atStart=>exact ⟨0,Nat.zero_le _,by simp,rfl,World.ownsRow_nil _ _ _ _,Below.refl _ _⟩
  case round =>
    obtain ⟨k,hk,rfl,rfl,hown,hnx⟩:=hrel
    by_cases hlt:k < N
    · obtain ⟨l1,l2⟩:=fleft_bd cost rest rate N h4 h3 h5 k (by omega)
      obtain ⟨d1,d2⟩:=dstep_bd (fleft cost rest rate N k) rest rate ((N:Int) - k) l1 h3 h5 (by omega)
      have E:=Lib.hid (show min (max (rnd (fleft cost rest rate N k*rate) 1000000 2) (rnd (fleft cost rest rate N k - rest) ((N:Int) - k) 1)) (fleft cost rest rate N k - rest)=fdd cost rest rate N k from rfl)
      have ES:=Lib.hid (flist_succ cost rest rate N k)
      have EL:=Lib.hid (fleft_succ cost rest rate N k)
      obtain ⟨p1,p2⟩:=prod_bd (fleft cost rest rate N k) rate 1000000000000 1000000 (by omega) (by omega) h5 h6 (by omega)
      obtain ⟨s1,s2⟩:=rnd_share (fleft cost rest rate N k) rate 2 (by omega) h5 h6
      have u1:=le_rnd (fleft cost rest rate N k - rest) ((N:Int) - k) 1 0 (by omega) (by omega)
      have u2:=rnd_le (fleft cost rest rate N k - rest) ((N:Int) - k) 1 1000000000000 (by omega) (by have:=Int.mul_le_mul_of_nonneg_right (show (1:Int)≤(N:Int) - k by omega) (show (0:Int)≤1000000000000 by omega);omega)
      have HA:=Lib.hid (fun w=>rounded_any (fleft cost rest rate N k*rate) 1000000 2 w (by omega) (by omega) (by omega) (by omega))
      have HB:=Lib.hid (fun w=>rounded_any (fleft cost rest rate N k - rest) ((N:Int) - k) 1 w (by omega) (by omega) (by omega) (by omega))
      have HO:=Lib.hid hown
      have HX:=Lib.hid hnx
      clear d1 d2 hown hnx
      generalize rnd (fleft cost rest rate N k*rate) 1000000 2=a at *
      generalize rnd (fleft cost rest rate N k - rest) ((N:Int) - k) 1=b at *
      generalize fdd cost rest rate N k=d at *
      generalize fleft cost rest rate N k=L at *
      rcases Int.lt_trichotomy a b with h | h | h
      · rcases Int.lt_trichotomy b (L - rest) with g | g | g
        · skip
          have e:d=b:=by have:=E.out;omega
          have HE:=Lib.hid e
          clear e
          go_wp2_with (first | (go_at_call 102;(with_reducible refine (HA.out _).mono ?_);rintro e w1 ⟨rfl,m,rfl⟩) | (go_at_call 102;(with_reducible refine (HB.out _).mono ?_);rintro e w1 ⟨rfl,m,rfl⟩) | (at_builtin;refine wpList_append_own _ rfl _ _ 71 rfl w.heap.size 3 i0 (.int .i64 0) 1 8 Tryz.underlying71 hi hz0 hz1 hz2 rfl (by decide) _ _ _ rfl (by exact own_drewNO (HO.out.alloc _)) ⟨wr.heap.size,0,none⟩ 1 1 [.int .i64 (b)] rfl rfl ?_ ?_ ?_ ?_ ?_ ?_))
          · intro j u hj
            match j,hj with
            | 0,hj=>simp at hj;subst hj;simp [Addr.add]
          · intro u hu;simp at hu;subst hu;rfl
          · unfold maxLen;omega
          · omega
          · have:=HX.out.size;simp;omega
          · intro v' w1 hown' hgrow _
            have HO':=Lib.hid hown'
            have HX':=Lib.hid (own_stepO HO.out HX.out hgrow)
            clear hown' hgrow
            go_wp2
            go_roundw
            case rel=>exact ⟨k+1,by omega,viF (by omega),viF (by rw [EL.out,HE.out]),by rw [ES.out,List.map_append,HE.out];exact HO'.out,HX'.out⟩
            case measure=>simp [intOf];omega
        · have g1:b≤L - rest:=by omega
          have g2:L - rest≤b:=by omega
          clear g
          have e:d=b:=by have:=E.out;omega
          have HE:=Lib.hid e
          clear e
          go_wp2_with (first | (go_at_call 102;(with_reducible refine (HA.out _).mono ?_);rintro e w1 ⟨rfl,m,rfl⟩) | (go_at_call 102;(with_reducible refine (HB.out _).mono ?_);rintro e w1 ⟨rfl,m,rfl⟩) | (at_builtin;refine wpList_append_own _ rfl _ _ 71 rfl w.heap.size 3 i0 (.int .i64 0) 1 8 Tryz.underlying71 hi hz0 hz1 hz2 rfl (by decide) _ _ _ rfl (by exact own_drewNO (HO.out.alloc _)) ⟨wr.heap.size,0,none⟩ 1 1 [.int .i64 (b)] rfl rfl ?_ ?_ ?_ ?_ ?_ ?_))
          · intro j u hj
            match j,hj with
            | 0,hj=>simp at hj;subst hj;simp [Addr.add]
          · intro u hu;simp at hu;subst hu;rfl
          · unfold maxLen;omega
          · omega
          · have:=HX.out.size;simp;omega
          · intro v' w1 hown' hgrow _
            have HO':=Lib.hid hown'
            have HX':=Lib.hid (own_stepO HO.out HX.out hgrow)
            clear hown' hgrow
            go_wp2
            go_roundw
            case rel=>exact ⟨k+1,by omega,viF (by omega),viF (by rw [EL.out,HE.out]),by rw [ES.out,List.map_append,HE.out];exact HO'.out,HX'.out⟩
            case measure=>simp [intOf];omega
        · skip
          have e:d=L - rest:=by have:=E.out;omega
          have HE:=Lib.hid e
          clear e
          go_wp2_with (first | (go_at_call 102;(with_reducible refine (HA.out _).mono ?_);rintro e w1 ⟨rfl,m,rfl⟩) | (go_at_call 102;(with_reducible refine (HB.out _).mono ?_);rintro e w1 ⟨rfl,m,rfl⟩) | (at_builtin;refine wpList_append_own _ rfl _ _ 71 rfl w.heap.size 3 i0 (.int .i64 0) 1 8 Tryz.underlying71 hi hz0 hz1 hz2 rfl (by decide) _ _ _ rfl (by exact own_drewNO (HO.out.alloc _)) ⟨wr.heap.size,0,none⟩ 1 1 [.int .i64 (L - rest)] rfl rfl ?_ ?_ ?_ ?_ ?_ ?_))
          · intro j u hj
            match j,hj with
            | 0,hj=>simp at hj;subst hj;simp [Addr.add]
          · intro u hu;simp at hu;subst hu;rfl
          · unfold maxLen;omega
          · omega
          · have:=HX.out.size;simp;omega
          · intro v' w1 hown' hgrow _
            have HO':=Lib.hid hown'
            have HX':=Lib.hid (own_stepO HO.out HX.out hgrow)
            clear hown' hgrow
            go_wp2
            go_roundw
            case rel=>exact ⟨k+1,by omega,viF (by omega),viF (by rw [EL.out,HE.out]),by rw [ES.out,List.map_append,HE.out];exact HO'.out,HX'.out⟩
            case measure=>simp [intOf];omega
      · subst h
        rcases Int.lt_trichotomy a (L - rest) with g | g | g
        · skip
          have e:d=a:=by have:=E.out;omega
          have HE:=Lib.hid e
          clear e
          go_wp2_with (first | (go_at_call 102;(with_reducible refine (HA.out _).mono ?_);rintro e w1 ⟨rfl,m,rfl⟩) | (go_at_call 102;(with_reducible refine (HB.out _).mono ?_);rintro e w1 ⟨rfl,m,rfl⟩) | (at_builtin;refine wpList_append_own _ rfl _ _ 71 rfl w.heap.size 3 i0 (.int .i64 0) 1 8 Tryz.underlying71 hi hz0 hz1 hz2 rfl (by decide) _ _ _ rfl (by exact own_drewNO (HO.out.alloc _)) ⟨wr.heap.size,0,none⟩ 1 1 [.int .i64 (a)] rfl rfl ?_ ?_ ?_ ?_ ?_ ?_))
          · intro j u hj
            match j,hj with
            | 0,hj=>simp at hj;subst hj;simp [Addr.add]
          · intro u hu;simp at hu;subst hu;rfl
          · unfold maxLen;omega
          · omega
          · have:=HX.out.size;simp;omega
          · intro v' w1 hown' hgrow _
            have HO':=Lib.hid hown'
            have HX':=Lib.hid (own_stepO HO.out HX.out hgrow)
            clear hown' hgrow
            go_wp2
            go_roundw
            case rel=>exact ⟨k+1,by omega,viF (by omega),viF (by rw [EL.out,HE.out]),by rw [ES.out,List.map_append,HE.out];exact HO'.out,HX'.out⟩
            case measure=>simp [intOf];omega
        · have g1:a≤L - rest:=by omega
          have g2:L - rest≤a:=by omega
          clear g
          have e:d=a:=by have:=E.out;omega
          have HE:=Lib.hid e
          clear e
          go_wp2_with (first | (go_at_call 102;(with_reducible refine (HA.out _).mono ?_);rintro e w1 ⟨rfl,m,rfl⟩) | (go_at_call 102;(with_reducible refine (HB.out _).mono ?_);rintro e w1 ⟨rfl,m,rfl⟩) | (at_builtin;refine wpList_append_own _ rfl _ _ 71 rfl w.heap.size 3 i0 (.int .i64 0) 1 8 Tryz.underlying71 hi hz0 hz1 hz2 rfl (by decide) _ _ _ rfl (by exact own_drewNO (HO.out.alloc _)) ⟨wr.heap.size,0,none⟩ 1 1 [.int .i64 (a)] rfl rfl ?_ ?_ ?_ ?_ ?_ ?_))
          · intro j u hj
            match j,hj with
            | 0,hj=>simp at hj;subst hj;simp [Addr.add]
          · intro u hu;simp at hu;subst hu;rfl
          · unfold maxLen;omega
          · omega
          · have:=HX.out.size;simp;omega
          · intro v' w1 hown' hgrow _
            have HO':=Lib.hid hown'
            have HX':=Lib.hid (own_stepO HO.out HX.out hgrow)
            clear hown' hgrow
            go_wp2
            go_roundw
            case rel=>exact ⟨k+1,by omega,viF (by omega),viF (by rw [EL.out,HE.out]),by rw [ES.out,List.map_append,HE.out];exact HO'.out,HX'.out⟩
            case measure=>simp [intOf];omega
        · skip
          have e:d=L - rest:=by have:=E.out;omega
          have HE:=Lib.hid e
          clear e
          go_wp2_with (first | (go_at_call 102;(with_reducible refine (HA.out _).mono ?_);rintro e w1 ⟨rfl,m,rfl⟩) | (go_at_call 102;(with_reducible refine (HB.out _).mono ?_);rintro e w1 ⟨rfl,m,rfl⟩) | (at_builtin;refine wpList_append_own _ rfl _ _ 71 rfl w.heap.size 3 i0 (.int .i64 0) 1 8 Tryz.underlying71 hi hz0 hz1 hz2 rfl (by decide) _ _ _ rfl (by exact own_drewNO (HO.out.alloc _)) ⟨wr.heap.size,0,none⟩ 1 1 [.int .i64 (L - rest)] rfl rfl ?_ ?_ ?_ ?_ ?_ ?_))
          · intro j u hj
            match j,hj with
            | 0,hj=>simp at hj;subst hj;simp [Addr.add]
          · intro u hu;simp at hu;subst hu;rfl
          · unfold maxLen;omega
          · omega
          · have:=HX.out.size;simp;omega
          · intro v' w1 hown' hgrow _
            have HO':=Lib.hid hown'
            have HX':=Lib.hid (own_stepO HO.out HX.out hgrow)
            clear hown' hgrow
            go_wp2
            go_roundw
            case rel=>exact ⟨k+1,by omega,viF (by omega),viF (by rw [EL.out,HE.out]),by rw [ES.out,List.map_append,HE.out];exact HO'.out,HX'.out⟩
            case measure=>simp [intOf];omega
      · rcases Int.lt_trichotomy a (L - rest) with g | g | g
        · skip
          have e:d=a:=by have:=E.out;omega
          have HE:=Lib.hid e
          clear e
          go_wp2_with (first | (go_at_call 102;(with_reducible refine (HA.out _).mono ?_);rintro e w1 ⟨rfl,m,rfl⟩) | (go_at_call 102;(with_reducible refine (HB.out _).mono ?_);rintro e w1 ⟨rfl,m,rfl⟩) | (at_builtin;refine wpList_append_own _ rfl _ _ 71 rfl w.heap.size 3 i0 (.int .i64 0) 1 8 Tryz.underlying71 hi hz0 hz1 hz2 rfl (by decide) _ _ _ rfl (by exact own_drewNO (HO.out.alloc _)) ⟨wr.heap.size,0,none⟩ 1 1 [.int .i64 (a)] rfl rfl ?_ ?_ ?_ ?_ ?_ ?_))
          · intro j u hj
            match j,hj with
            | 0,hj=>simp at hj;subst hj;simp [Addr.add]
          · intro u hu;simp at hu;subst hu;rfl
          · unfold maxLen;omega
          · omega
          · have:=HX.out.size;simp;omega
          · intro v' w1 hown' hgrow _
            have HO':=Lib.hid hown'
            have HX':=Lib.hid (own_stepO HO.out HX.out hgrow)
            clear hown' hgrow
            go_wp2
            go_roundw
            case rel=>exact ⟨k+1,by omega,viF (by omega),viF (by rw [EL.out,HE.out]),by rw [ES.out,List.map_append,HE.out];exact HO'.out,HX'.out⟩
            case measure=>simp [intOf];omega
        · have g1:a≤L - rest:=by omega
          have g2:L - rest≤a:=by omega
          clear g
          have e:d=a:=by have:=E.out;omega
          have HE:=Lib.hid e
          clear e
          go_wp2_with (first | (go_at_call 102;(with_reducible refine (HA.out _).mono ?_);rintro e w1 ⟨rfl,m,rfl⟩) | (go_at_call 102;(with_reducible refine (HB.out _).mono ?_);rintro e w1 ⟨rfl,m,rfl⟩) | (at_builtin;refine wpList_append_own _ rfl _ _ 71 rfl w.heap.size 3 i0 (.int .i64 0) 1 8 Tryz.underlying71 hi hz0 hz1 hz2 rfl (by decide) _ _ _ rfl (by exact own_drewNO (HO.out.alloc _)) ⟨wr.heap.size,0,none⟩ 1 1 [.int .i64 (a)] rfl rfl ?_ ?_ ?_ ?_ ?_ ?_))
          · intro j u hj
            match j,hj with
            | 0,hj=>simp at hj;subst hj;simp [Addr.add]
          · intro u hu;simp at hu;subst hu;rfl
          · unfold maxLen;omega
          · omega
          · have:=HX.out.size;simp;omega
          · intro v' w1 hown' hgrow _
            have HO':=Lib.hid hown'
            have HX':=Lib.hid (own_stepO HO.out HX.out hgrow)
            clear hown' hgrow
            go_wp2
            go_roundw
            case rel=>exact ⟨k+1,by omega,viF (by omega),viF (by rw [EL.out,HE.out]),by rw [ES.out,List.map_append,HE.out];exact HO'.out,HX'.out⟩
            case measure=>simp [intOf];omega
        · skip
          have e:d=L - rest:=by have:=E.out;omega
          have HE:=Lib.hid e
          clear e
          go_wp2_with (first | (go_at_call 102;(with_reducible refine (HA.out _).mono ?_);rintro e w1 ⟨rfl,m,rfl⟩) | (go_at_call 102;(with_reducible refine (HB.out _).mono ?_);rintro e w1 ⟨rfl,m,rfl⟩) | (at_builtin;refine wpList_append_own _ rfl _ _ 71 rfl w.heap.size 3 i0 (.int .i64 0) 1 8 Tryz.underlying71 hi hz0 hz1 hz2 rfl (by decide) _ _ _ rfl (by exact own_drewNO (HO.out.alloc _)) ⟨wr.heap.size,0,none⟩ 1 1 [.int .i64 (L - rest)] rfl rfl ?_ ?_ ?_ ?_ ?_ ?_))
          · intro j u hj
            match j,hj with
            | 0,hj=>simp at hj;subst hj;simp [Addr.add]
          · intro u hu;simp at hu;subst hu;rfl
          · unfold maxLen;omega
          · omega
          · have:=HX.out.size;simp;omega
          · intro v' w1 hown' hgrow _
            have HO':=Lib.hid hown'
            have HX':=Lib.hid (own_stepO HO.out HX.out hgrow)
            clear hown' hgrow
            go_wp2
            go_roundw
            case rel=>exact ⟨k+1,by omega,viF (by omega),viF (by rw [EL.out,HE.out]),by rw [ES.out,List.map_append,HE.out];exact HO'.out,HX'.out⟩
            case measure=>simp [intOf];omega
    · have e:k=N:=by omega
      subst e
      have HO:=Lib.hid hown
      have HX:=Lib.hid hnx
      clear hown hnx
      go_wp2
      go_returns
      exact ⟨_,rfl,HO.out,HX.out⟩
def lookF (cost rest n:Int):Prop:=0≤cost∧cost≤1000000000000∧0≤rest∧rest≤cost∧1≤n∧n≤40
set_option maxHeartbeats 400000 in
theorem look_no (cost rest n:Int) (w:World) (h:¬ lookF cost rest n) :
    Calls Tryz.prog 103 #[.int .i64 cost,.int .i64 rest,.int .i64 n] w fun e w'=>e=.returned (.int .i64 1)∧w=w':=by
  have H:=Lib.hid h
  clear h
  go_enter Tryz.func103,Tryz.ntmps103
  go_wp2
  all_goals go_ret
  all_goals first | exact ⟨rfl,rfl⟩ | (have h:=H.out;exfalso;unfold lookF at h;omega)
set_option maxHeartbeats 400000 in
theorem falling_no (cost rest rate n:Int) (w:World) (h:¬ (lookF cost rest n∧0≤rate∧rate≤1000000)) :
    Calls Tryz.prog 52 #[.int .i64 cost,.int .i64 rest,.int .i64 rate,.int .i64 n] w fun e w'=>e=.returned (.tuple #[.slice none 0 0,.int .i64 1])∧w=w':=by
  by_cases hl:lookF cost rest n
  · obtain ⟨h1,h2,h3,h4,h5,h6⟩:=hl
    have hr:rate < 0∨1000000 < rate:=by
      by_cases hr:0≤rate∧rate≤1000000
      · exact absurd ⟨⟨h1,h2,h3,h4,h5,h6⟩,hr.1,hr.2⟩ h
      · omega
    have HL:=Lib.hid (fun w=>look_ok cost rest n w h1 h2 h3 h4 h5 h6)
    clear h
    rcases hr with hr | hr
    all_goals
      go_enter Tryz.func52,Tryz.ntmps52
      go_wp2_with (first | (go_at_call 103;(with_reducible refine (HL.out _).mono ?_);rintro e w1 ⟨rfl,rfl⟩))
      go_returns
      exact ⟨rfl,rfl⟩
  · have HL:=Lib.hid (fun w=>look_no cost rest n w hl)
    clear h hl
    go_enter Tryz.func52,Tryz.ntmps52
    go_wp2_with (first | (go_at_call 103;(with_reducible refine (HL.out _).mono ?_);rintro e w1 ⟨rfl,rfl⟩))
    go_returns
    exact ⟨rfl,rfl⟩
end Go.Proofs.YtdhbkifpodekcaaGreatDoor
