/- Texts of this claim. -/
import Derived.Test.YtdhbkifpodekcaaGreatDoorDeskZ8
import Derived.Test.YtdhbkifpodekcaaGreatDoorDeskZ20
import Derived.Lib.LaidTab
namespace Go.Proofs.YtdhbkifpodekcaaGreatDoor
open Go.ChangeShapes Go.WideShapes Go.ChangeAt Go.RowKit
set_option linter.unusedVariables false
set_option maxRecDepth 100000
def Tab (w:World):Prop:=1 < w.heap.size∧∀ i:Nat,i < 13→w.cell? ⟨1,i,none⟩=some (.int .i64 (mtab.getD i 0))
theorem Tab.below {w w':World} (h:Tab w) (hb:Below w.heap.size w w'):Tab w':=by
  refine ⟨by have:=h.1;have:=hb.size;omega,fun i hi=>(hb.cell (p:=⟨_,i,none⟩) h.1).trans (h.2 i hi)⟩
theorem Tab.mor {w w':World} (h:Tab w) (hm:Mor w w'):Tab w':=h.below hm.below
theorem Tab.alloc {w:World} {o:Obj} (h:Tab w):Tab (w.alloc o):=h.mor (Mor.refl _).alloc
theorem Tab.drewN {w:World} {k:Nat} (h:Tab w):Tab (w.drewN k):=h
theorem Tab.drew {w:World} (h:Tab w):Tab w.drew:=h
theorem Tab.more {w:World} {bs:List Obj} {k:Nat} (h:Tab w):Tab (Go.Proofs.YtdhbkifpodekcaaGreatDoor.more w bs k):=h.mor (Mor.refl _).more
set_option maxHeartbeats 400000 in
theorem years_any (y:Int) (w:World) (h1:1600≤y) (h2:y≤2401) :
    Calls Tryz.prog 154 #[.int .i64 y] w fun e w'=>e=.returned (.int .i64 (yrs y))∧w=w':=by
  go_enter Tryz.func154,Tryz.ntmps154
  go_wp2
  go_ret
  exact ⟨ret_i (by unfold yrs;omega),rfl⟩
set_option maxHeartbeats 400000 in
theorem leap_any (y:Int) (w:World) (h1:1600≤y) (h2:y≤2401) :
    Calls Tryz.prog 153 #[.int .i64 y] w fun e w'=>e=.returned (.bool (lp y))∧w=w':=by
  have hl:lp y=(decide (y % 4=0) && (!decide (y % 100=0) || decide (y % 400=0))):=rfl
  have HL:=Lib.hid hl
  clear hl
  by_cases a:y % 4=0 <;> by_cases b:y % 100=0 <;> by_cases c:y % 400=0
  all_goals
    have H:=HL.out
    simp only [a,b,c] at H
    simp at H
    have H':=Lib.hid H
    clear H HL
    go_enter Tryz.func153,Tryz.ntmps153
    go_wp2
    go_ret
    refine ⟨?_,rfl⟩
    rw [H'.out]
    simp [a,b,c]
set_option maxHeartbeats 800000 in
theorem length_any (y:Int) (m:Nat) (w:World) (h1:1600≤y) (h2:y≤2401) (m1:1≤m) (m2:m≤12) (ht:Tab w) :
    Calls Tryz.prog 91 #[.int .i64 y,.int .i64 m] w fun e w'=>e=.returned (.int .i64 (mlen y m))∧w=w':=by
  have c:=ht.2 m (by omega)
  have HL:=Lib.hid (fun w=>leap_any y w h1 h2)
  have hz:(0:Int)≤(m:Int):=by omega
  have hz2:(m:Int) < 13:=by omega
  clear ht
  by_cases e:m=2
  · subst e
    cases hp:lp y
    · rw [hp] at HL
      have HE:=Lib.hid (show mlen y ((2:Nat):Int)=28 by unfold mlen;rw [hp];simp [mtab])
      clear hp
      go_enter Tryz.func91,Tryz.ntmps91
      go_wp2_with (go_at_call 153;(with_reducible refine (HL.out _).mono ?_);rintro e w1 ⟨rfl,rfl⟩)
      go_ret
      exact ⟨ret_i (by rw [HE.out];rfl),rfl⟩
    · rw [hp] at HL
      have HE:=Lib.hid (show mlen y ((2:Nat):Int)=29 by unfold mlen;rw [hp];simp)
      clear hp
      go_enter Tryz.func91,Tryz.ntmps91
      go_wp2_with (go_at_call 153;(with_reducible refine (HL.out _).mono ?_);rintro e w1 ⟨rfl,rfl⟩)
      go_ret
      exact ⟨ret_i (by rw [HE.out]),rfl⟩
  · have HE:=Lib.hid (show mlen y (m:Int)=mtab.getD m 0 by unfold mlen;rw [if_neg (by omega)];simp)
    have e2:((m:Int)=2)=False:=eq_false (by omega)
    generalize mtab.getD m 0=v at *
    go_enter Tryz.func91,Tryz.ntmps91
    go_wp2_with fail
    go_ret
    exact ⟨ret_i (by rw [HE.out]),rfl⟩
set_option maxHeartbeats 400000 in
theorem is_any (n:Int) (w:World) :
    Calls Tryz.prog 93 #[.int .i64 n] w fun e w'=>e=.returned (.bool (decide (0≤n∧n≤292193)))∧w=w':=by
  by_cases a:0≤n <;> by_cases b:n≤292193
  all_goals
    go_enter Tryz.func93,Tryz.ntmps93
    go_wp2
    go_ret
    exact ⟨by simp [*],rfl⟩
theorem yrs_bd {y:Int} (h1:1600≤y) (h2:y≤2401):0≤yrs y∧yrs y≤293166:=by
  have a:=yrs_ge y h1;have b:=yrs_le y h1;omega
theorem fst_bd {y m:Int} (h1:1600≤y) (h2:y≤2401) (m1:1≤m) (m2:m≤12):0≤fst y m∧fst y m≤293501:=by
  have ⟨a,b⟩:=yrs_bd h1 h2
  unfold fst
  have:0≤ctab.getD m.toNat 0∧ctab.getD m.toNat 0≤334:=by
    rcases m_cases m1 m2 with rfl | rfl | rfl | rfl | rfl | rfl | rfl | rfl | rfl | rfl | rfl | rfl <;> decide
  rcases lpn_cases y with ⟨e,_⟩ | ⟨e,_⟩ <;> rw [e] <;> split <;> omega
set_option maxHeartbeats 800000 in
theorem of_nat (y:Int) (M:Nat) (D:Int) (w:World) (h1:1600≤y) (h2:y≤2401) (m1:1≤M) (m2:M≤12) (d1:0≤D) (d2:D≤400) (ht:Tab w) :
    Calls Tryz.prog 92 #[.agg #[.int .i64 y,.int .i64 M,.int .i64 D]] w fun e w'=>e=.returned (.int .i64 (fst y M+D - 1))∧Mor w w':=by
  have HT:=Lib.hid ht
  have HY:=Lib.hid (fun w=>years_any y w h1 h2)
  have HLn:=Lib.hid (fun (k:Nat) w (k1:1≤k) (k2:k≤12) (h:Tab w)=>length_any y k w h1 h2 k1 k2 h)
  have HB:=Lib.hid (fun (k:Int) (k1:1≤k) (k2:k≤12)=>fst_bd h1 h2 k1 k2)
  have HB2:=Lib.hid (fun (k:Int) (k1:1≤k) (k2:k≤12)=>mlen_bd (y:=y) k1 k2)
  have HS:=Lib.hid (fun (k:Int) (k1:1≤k) (k2:k≤11)=>fst_succ (y:=y) k1 k2)
  have H1:=Lib.hid (fst_one y)
  have ⟨y1,y2⟩:=yrs_bd h1 h2
  clear ht
  go_enter Tryz.func92,Tryz.ntmps92
  go_wp2_with (go_at_call 154;(with_reducible refine (HY.out _).mono ?_);rintro e w1 ⟨rfl,rfl⟩)
  go_loop [3,4] (fun n m=>∃ k:Nat,1≤k∧k≤M∧m=.int .i64 k∧n=.int .i64 (fst y k)) (fun _ m=>M - (intOf m).toNat)
  case atStart=>exact ⟨1,by omega,m1,rfl,by rw [← H1.out];rfl⟩
  case round =>
    obtain ⟨k,hk1,hk,rfl,rfl⟩:=hrel
    obtain ⟨b1,b2⟩:=HB.out k (by omega) (by omega)
    by_cases hlt:k < M
    · obtain ⟨b3,b4⟩:=HB2.out k (by omega) (by omega)
      have HSk:=Lib.hid (HS.out k (by omega) (by omega))
      have HLk:=Lib.hid (fun w h=>HLn.out k w hk1 (by omega) h)
      have c0:(k:Int) < (M:Int):=by omega
      generalize fst y k=F at *
      generalize mlen y k=L at *
      go_wp2_with (go_at_call 91;(with_reducible refine (HLk.out _ (by exact HT.out.alloc)).mono ?_);rintro e w1 ⟨rfl,rfl⟩)
      go_round
      case rel=>exact ⟨k+1,by omega,by omega,by go_num,by rw [← HSk.out];rfl⟩
      case measure=>simp [intOf];omega
    · have e:k=M:=by omega
      subst e
      generalize hF:fst y k=F at *
      have HF:=Lib.hid hF
      clear hF
      go_wp2
      go_ret
      exact ⟨ret_i (by rw [HF.out]),(Mor.refl _).alloc⟩
theorem calof_any (y M D:Int) (w:World) (h1:1600≤y) (h2:y≤2401) (m1:1≤M) (m2:M≤12) (d1:0≤D) (d2:D≤400) (ht:Tab w) :
    Calls Tryz.prog 92 #[.agg #[.int .i64 y,.int .i64 M,.int .i64 D]] w fun e w'=>e=.returned (.int .i64 (fst y M+D - 1))∧Mor w w':=by
  obtain ⟨m,rfl⟩:=Int.eq_ofNat_of_zero_le (show 0≤M by omega)
  exact of_nat y m D w h1 h2 (by omega) (by omega) d1 d2 ht
theorem isD_ym {y m D:Int} (h1:1600≤y) (h2:y≤2399) (m1:1≤m) (m2:m≤12) (d1:1≤D) (d2:D≤mlen y m):IsD (fst y m+D - 1) (12*(y - 1600)+m - 1) D:=by
  have e1:1600+(12*(y - 1600)+m - 1) / 12=y:=by omega
  have e2:1+(12*(y - 1600)+m - 1) % 12=m:=by omega
  exact ⟨by omega,by omega,d1,by unfold lk;rw [e1,e2];exact d2,by unfold fk;rw [e1,e2]⟩
noncomputable def yr (n:Int):Int:=1600+dk n / 12
noncomputable def mo (n:Int):Int:=1+dk n % 12
theorem ym_of {n y m D:Int} (h1:1600≤y) (h2:y≤2399) (m1:1≤m) (m2:m≤12) (d1:1≤D) (d2:D≤mlen y m) (hn:n=fst y m+D - 1):yr n=y∧mo n=m∧dm n=D:=by
  have h:=isD_ym h1 h2 m1 m2 d1 d2
  rw [← hn] at h
  unfold yr mo
  rw [h.dk,h.dm]
  exact ⟨by omega,by omega,rfl⟩
set_option maxHeartbeats 1600000 in
theorem calpl_any (n:Int) (w:World) (h0:0≤n) (h9:n≤292193) (ht:Tab w) :
    Calls Tryz.prog 94 #[.int .i64 n] w fun e w'=>e=.returned (.agg #[.int .i64 (yr n),.int .i64 (mo n),.int .i64 (dm n)])∧Mor w w':=by
  have HT:=Lib.hid ht
  have HY:=Lib.hid (fun (y:Int) w (h1:1600≤y) (h2:y≤2401)=>years_any y w h1 h2)
  have HLn:=Lib.hid (fun (y:Int) (k:Nat) w (h1:1600≤y) (h2:y≤2401) (k1:1≤k) (k2:k≤12) (h:Tab w)=>length_any y k w h1 h2 k1 k2 h)
  have HM:=Lib.hid yrs_mono
  clear ht
  have q0:0≤n / 366:=by omega
  go_enter Tryz.func94,Tryz.ntmps94
  go_wp2
  go_loop [3] (fun y=>∃ z:Int,y=.int .i64 z∧1600≤z∧z≤2399∧Hid (yrs z≤n)) (fun y=>2400 - (intOf y).toNat)
  case atStart=>exact ⟨1600+n / 366,rfl,by omega,by omega,Lib.hid (by have:=yrs_le (1600+n / 366) (by omega);omega)⟩
  case round =>
    obtain ⟨z,rfl,hz1,hz2,hzn⟩:=hrel
    have HYz:=Lib.hid (fun w=>HY.out (z+1) w (by omega) (by omega))
    have HYy:=Lib.hid (fun w=>HY.out z w (by omega) (by omega))
    obtain ⟨b1,b2⟩:=yrs_bd (y:=z+1) (by omega) (by omega)
    obtain ⟨b3,b4⟩:=yrs_bd (y:=z) (by omega) (by omega)
    by_cases hlt:yrs (z+1)≤n
    · have HLT:=Lib.hid hlt
      have z9:z+1≤2399:=by
        rcases Int.lt_or_le z 2399 with h | h
        · omega
        · have:=HM.out 2400 (z+1) (by omega);rw [yrs_top] at this;omega
      generalize yrs (z+1)=Y1 at hlt HYz b1 b2
      clear HYy HY HLn HM
      go_wp2_with (go_at_call 154;(with_reducible refine (HYz.out _).mono ?_);rintro e w1 ⟨rfl,rfl⟩)
      go_round
      case rel=>exact ⟨z+1,by go_num,by omega,by omega,by first | exact HLT | exact Lib.hid (by omega)⟩
      case measure=>simp [intOf];omega
    · have HE:Hid (yrs (z+1)=fst z 12+mlen z 12):=Lib.hid (fst_year z)
      have HF1:=Lib.hid (fst_one z)
      have HNL:=Lib.hid hlt
      have hyn:=hzn.out
      have HFB:=Lib.hid (fun (k:Int) (k1:1≤k) (k2:k≤12)=>fst_bd (y:=z) (by omega) (by omega) k1 k2)
      have HFS:=Lib.hid (fun (k:Int) (k1:1≤k) (k2:k≤11)=>fst_succ (y:=z) k1 k2)
      have HLz:=Lib.hid (fun (k:Nat) w (k1:1≤k) (k2:k≤12) (h:Tab w)=>HLn.out z k w (by omega) (by omega) k1 k2 h)
      have HYM:=Lib.hid (fun (m D:Int) (m1:1≤m) (m2:m≤12) (d1:1≤D) (d2:D≤mlen z m) (hn:n=fst z m+D - 1)=>ym_of hz1 hz2 m1 m2 d1 d2 hn)
      have HR:Hid (∀ k:Int,yrs z≤n):=Lib.hid (fun _=>hyn)
      generalize hY1:yrs (z+1)=Y1 at *
      obtain ⟨Y0,hY0⟩:∃ Y0,yrs z=Y0:=⟨_,rfl⟩
      rw [hY0] at HYy HF1 hyn b3 b4
      have HY0:=Lib.hid hY0
      clear hY0 hY1 HY HLn HM hzn HR
      go_wp2_with (first | (go_at_call 154;(with_reducible refine (HYz.out _).mono ?_);rintro e w1 ⟨rfl,rfl⟩) | (go_at_call 154;(with_reducible refine (HYy.out _).mono ?_);rintro e w1 ⟨rfl,rfl⟩))
      go_loop [0,4] (fun r m=>∃ k:Nat,1≤k∧k≤12∧m=.int .i64 k∧r=.int .i64 (n - fst z k)∧0≤n - fst z k) (fun _ m=>13 - (intOf m).toNat)
      case atStart=>exact ⟨1,by omega,by omega,rfl,by rw [show fst z ((1:Nat):Int)=Y0 from HF1.out],by rw [show fst z ((1:Nat):Int)=Y0 from HF1.out];omega⟩
      case round =>
        obtain ⟨k,hk1,hk2,rfl,rfl,hk3⟩:=hrel
        obtain ⟨f1,f2⟩:=HFB.out k (by omega) (by omega)
        obtain ⟨l1,l2⟩:=mlen_bd (y:=z) (m:=k) (by omega) (by omega)
        have HLk:=Lib.hid (fun w h=>HLz.out k w hk1 hk2 h)
        by_cases hlt2:mlen z k≤n - fst z k
        · have k12:k≤11:=by
            rcases Nat.lt_or_ge k 12 with h | h
            · omega
            · have e:k=12:=by omega
              subst e
              have:=HE.out
              have h3:=HNL.out
              rw [show ((12:Nat):Int)=12 from rfl] at hlt2
              omega
          have HSk:=Lib.hid (HFS.out k (by omega) (by omega))
          generalize fst z k=F at *
          generalize mlen z k=L at *
          go_wp2_with (go_at_call 91;(with_reducible refine (HLk.out _ (by first | exact HT.out.alloc | exact HT.out.alloc.drewN)).mono ?_);rintro e w1 ⟨rfl,rfl⟩)
          go_round
          case rel=>exact ⟨k+1,by omega,by omega,by go_num,by rw [show fst z ((k+1:Nat):Int)=F+L from HSk.out,show n - (F+L)=n - F - L by omega],by rw [show fst z ((k+1:Nat):Int)=F+L from HSk.out];omega⟩
          case measure=>simp [intOf];omega
        · have HR:=Lib.hid (HYM.out k (n - fst z k+1) (by omega) (by omega) (by omega) (by omega) (by omega))
          generalize fst z k=F at *
          generalize mlen z k=L at *
          go_wp2_with (go_at_call 91;(with_reducible refine (HLk.out _ (by first | exact HT.out.alloc | exact HT.out.alloc.drewN)).mono ?_);rintro e w1 ⟨rfl,rfl⟩)
          go_returns
          obtain ⟨r1,r2,r3⟩:=HR.out
          exact ⟨by rw [r1,r2,r3],(Mor.refl _).alloc⟩
end Go.Proofs.YtdhbkifpodekcaaGreatDoor
