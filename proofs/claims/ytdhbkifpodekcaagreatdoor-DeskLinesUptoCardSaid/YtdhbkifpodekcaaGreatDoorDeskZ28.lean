/- Texts of this claim. -/
import Derived.Test.YtdhbkifpodekcaaGreatDoorDeskZ27
import Derived.Deep.LoopGhost
import Derived.Shelf.Abstract
namespace Go.Proofs.YtdhbkifpodekcaaGreatDoor
open Go.ChangeShapes Go.WideShapes Go.ChangeAt Go.RowKit
set_option linter.unusedVariables false
set_option maxRecDepth 100000
def SaysB (w:World) (g:Nat) (cb:Array Value) (n:Nat) (p:Nat→Bool):Prop :=
  ∀ (i:Nat) (w1:World),i < n→Mor w w1→Calls Tryz.prog g (#[.int .i64 i]++cb) w1 fun e w'=>e=.returned (.bool (p i))∧Mor w1 w'
def SearchPost (w:World) (n:Nat) (p:Nat→Bool) (e:Ending) (w':World):Prop :=
  ∃ j:Nat,e=.returned (.int .i64 j)∧j≤n∧(j=n∨p j=true)∧(j=0∨p (j - 1)=false)∧Mor w w'
set_option maxHeartbeats 1600000 in
theorem search_any (g:Nat) (cb:Array Value) (n:Nat) (p:Nat→Bool) (w:World) (eg:∀ args w,(callFunc g args).run Tryz.prog w=.ok (.enter g args) w) (hn:n < 4611686018427387904) (hf:SaysB w g cb n p) :
    Calls Tryz.prog 108 #[.int .i64 n,.func (.func g) #[] cb] w (SearchPost w n p):=by
  have HF:=Lib.hid hf
  clear hf
  go_enter Tryz.func108,Tryz.ntmps108
  go_wp2
  go_loopg [5,6] n (fun kx s5 s6 wr=>∃ (lo hi:Nat),s5=.int .i64 lo∧s6=.int .i64 hi∧lo≤hi∧hi≤n∧hi - lo≤kx∧Hid (Mor w wr)∧Hid ((lo=0∨p (lo - 1)=false)∧(hi=n∨p hi=true)))
  case atStart=>exact ⟨0,n,rfl,rfl,Nat.zero_le _,Nat.le_refl _,by omega,Lib.hid (Mor.refl _),Lib.hid ⟨.inl rfl,.inl rfl⟩⟩
  case round =>
    obtain ⟨lo,hi,rfl,rfl,hlh,hin,hg,hm,I⟩:=hrel
    by_cases hlt:lo < hi
    · have hc:=HF.out ((lo+hi) / 2) _ (by omega) hm.out
      rw [show (((lo+hi) / 2:Nat):Int)=((lo:Int)+(hi:Int)) / 2 by omega] at hc
      cases hp:p ((lo+hi) / 2) <;> rw [hp] at hc
      · have HP:=Lib.hid hp
        clear hp
        go_wp2_with (go_at_fn g;refine hc.mono ?_;rintro e w' ⟨rfl,hmw⟩)
        have HM:=Lib.hid (hm.out.trans hmw)
        clear hmw
        go_roundg (hi - ((lo+hi) / 2+1))
        case measure=>omega
        case rel =>
          exact ⟨(lo+hi) / 2+1,hi,by rw [show ((lo:Int)+(hi:Int)) / 2+1=(((lo+hi) / 2+1:Nat):Int) by omega],rfl,by omega,hin,Nat.le_refl _,HM,Lib.hid ⟨.inr HP.out,I.out.2⟩⟩
      · have HP:=Lib.hid hp
        clear hp
        go_wp2_with (go_at_fn g;refine hc.mono ?_;rintro e w' ⟨rfl,hmw⟩)
        have HM:=Lib.hid (hm.out.trans hmw)
        clear hmw
        go_roundg ((lo+hi) / 2 - lo)
        case measure=>omega
        case rel =>
          exact ⟨lo,(lo+hi) / 2,rfl,by rw [show ((lo:Int)+(hi:Int)) / 2=(((lo+hi) / 2:Nat):Int) by omega],by omega,by omega,Nat.le_refl _,HM,Lib.hid ⟨I.out.1,.inr HP.out⟩⟩
    · obtain rfl:hi=lo:=by omega
      go_wp2
      go_ret
      exact ⟨hi,rfl,hin,I.out.2,I.out.1,hm.out⟩
instance (o r : Int) (n : Nat) (p : Int) : Decidable (okp o r n p) := by unfold okp; infer_instance
set_option maxRecDepth 100000 in
set_option maxHeartbeats 1600000 in
theorem least_clo (ba bb bc:Nat) (o r:Int) (n:Nat) (i:Int) (W:World) (hl:loanP o r) (hn:n≤40) (hi1:0≤i) (hi2:i≤2000000000000)
    (ca:W.cell? ⟨ba,0,none⟩=some (.int .i64 o)) (cb:W.cell? ⟨bb,0,none⟩=some (.int .i64 r)) (cc:W.cell? ⟨bc,0,none⟩=some (.int .i64 (n:Int)))
    (la:ba < W.heap.size) (lb:bb < W.heap.size) (lc:bc < W.heap.size) :
    Calls Tryz.prog 109 #[.int .i64 i,.pointer (some ⟨ba,0,none⟩),.pointer (some ⟨bb,0,none⟩),.pointer (some ⟨bc,0,none⟩)] W fun e w'=>e=.returned (.bool (decide (okp o r n (i+1))))∧Mor W w':=by
  by_cases hz:o=0
  · subst hz
    have HC:=Lib.hid (fun w=>rows_none 0 r (i+1) w hl (.inl rfl))
    have hd:decide (okp 0 r n (i+1))=true:=by simp [okp]
    rw [hd]
    clear hl hd
    go_enter Tryz.func109,Tryz.ntmps109
    go_wp2_with (first | (go_at_call 110;(with_reducible refine (HC.out _).mono ?_);rintro e w1 ⟨rfl,k,rfl⟩))
    go_ret
    exact ⟨rfl,(Mor.refl _).drewN⟩
  · have ho1:1≤o:=by have:=hl.1;omega
    have o0:(o == 0)=false:=by simp;omega
    by_cases hp:i+1≤nint o r
    · have HC:=Lib.hid (fun w=>rows_none o r (i+1) w hl (.inr ⟨ho1,hp⟩))
      have hd:decide (okp o r n (i+1))=false:=decide_eq_false (by rintro (e | ⟨e,_⟩) <;> omega)
      rw [hd]
      clear hl hd hp hz
      go_enter Tryz.func109,Tryz.ntmps109
      go_wp2_with (first | (go_at_call 110;(with_reducible refine (HC.out _).mono ?_);rintro e w1 ⟨rfl,k,rfl⟩))
      go_ret
      exact ⟨rfl,(Mor.refl _).drewN⟩
    · have HC:=Lib.hid (fun w=>rows_some o r (i+1) w hl (by omega) ho1 (by omega))
      have hd:∀ T,NT o r (i+1) T→decide (okp o r n (i+1))=decide (T≤n):=by
        intro T hT
        have:=hT.end_ (by omega) hn
        refine decide_eq_decide.2 ⟨?_,?_⟩
        · rintro (e | ⟨_,e⟩)
          · omega
          · exact this.2 e
        · intro e;exact .inr ⟨by omega,this.1 e⟩
      have HD:=Lib.hid hd
      clear hl hd hp hz
      generalize decide (okp o r n (i+1))=d at *
      go_enter Tryz.func109,Tryz.ntmps109
      go_wp2_with fail
      refine (HC.out _).mono ?_
      rintro e w1 ⟨T,g,c,bs,k,rfl,rfl,hT,h1,h2,hr⟩
      have hdT:=HD.out T hT
      have t41:=hT.1
      clear hT hr HD
      have HE:=Lib.hid hdT
      clear hdT
      by_cases hle:T≤n
      · go_wp2_with fail
        go_ret
        exact ⟨by rw [HE.out,decide_eq_true hle];rfl,(Mor.refl _).more⟩
      · have hgt:n < T:=by omega
        clear hle
        go_wp2_with fail
        go_ret
        exact ⟨by rw [HE.out,decide_eq_false (by omega)];rfl,(Mor.refl _).more⟩
def LeastPost (w:World) (o r:Int) (n:Nat) (e:Ending) (w':World):Prop :=
  ∃ p,e=.returned (.tuple #[.int .i64 p,.int .i64 0])∧Mor w w'∧leastP o r n p
theorem search_int (N:Int) (g:Nat) (cb:Array Value) (n:Nat) (p:Nat→Bool) (w:World) (hN:N=n) (eg:∀ args w,(callFunc g args).run Tryz.prog w=.ok (.enter g args) w) (hn:n < 4611686018427387904) (hf:SaysB w g cb n p) :
    Calls Tryz.prog 108 #[.int .i64 N,.func (.func g) #[] cb] w (SearchPost w n p):=by
  subst hN;exact search_any g cb n p w eg hn hf
set_option maxRecDepth 100000 in
set_option maxHeartbeats 1600000 in
theorem Least_ok (o r:Int) (n:Nat) (w:World) (hl:loanP o r) (h1:1≤n) (h2:n≤40) :
    Calls Tryz.prog 54 #[.int .i64 o,.int .i64 r,.int .i64 (n:Int)] w (LeastPost w o r n):=by
  have HL:=Lib.hid (fun w=>nlook_ok o r w hl)
  have eg:∀ args w,(callFunc 109 args).run Tryz.prog w=.ok (.enter 109 args) w:=enters_of Tryz.func109 (by kernel_rfl) rfl
  obtain ⟨N,hN⟩:∃ N:Nat,N=2000000000000:=⟨_,rfl⟩
  have hNI:(2000000000000:Int)=(N:Int):=by omega
  have HS:=Lib.hid (fun (W:World) (ba bb bc:Nat) (ca:W.cell? ⟨ba,0,none⟩=some (.int .i64 o)) (cb:W.cell? ⟨bb,0,none⟩=some (.int .i64 r)) (cc:W.cell? ⟨bc,0,none⟩=some (.int .i64 (n:Int)))
    (la:ba < W.heap.size) (lb:bb < W.heap.size) (lc:bc < W.heap.size) =>
    search_int 2000000000000 109 #[.pointer (some ⟨ba,0,none⟩),.pointer (some ⟨bb,0,none⟩),.pointer (some ⟨bc,0,none⟩)] N (fun i=>decide (okp o r n ((i:Int)+1))) W hNI eg (by omega)
      (fun i w1 hi hm=>by
        obtain ⟨bs,k,rfl⟩:=hm
        exact least_clo ba bb bc o r n i _ hl h2 (by omega) (by omega) (by rw [cell?_more _ _ _ _ _ la];exact ca) (by rw [cell?_more _ _ _ _ _ lb];exact cb) (by rw [cell?_more _ _ _ _ _ lc];exact cc)
          (by rw [size_more];omega) (by rw [size_more];omega) (by rw [size_more];omega)))
  have hmost:=okp_most o r n hl.1 hl.2.1 hl.2.2.1 hl.2.2.2 h1
  have HP:=Lib.hid (fun j:Nat=>show j≤N→(j=N∨decide (okp o r n ((j:Int)+1))=true)→(j=0∨decide (okp o r n (((j - 1:Nat):Int)+1))=false)→leastP o r n (1+j) from by
    intro hj ha hb
    have hlt:j < N:=by
      rcases Nat.lt_or_ge j N with c | c
      · exact c
      · rcases hb with hb | hb
        · omega
        · rw [show (((j - 1:Nat):Int)+1)=2000000000000 by omega] at hb
          simp only [decide_eq_false_iff_not] at hb
          exact absurd hmost hb
    refine ⟨by omega,by omega,?_,?_⟩
    · rcases ha with ha | ha
      · omega
      · rw [Int.add_comm];exact of_decide_eq_true ha
    · rcases hb with hb | hb
      · exact .inl (by omega)
      · refine .inr ?_
        simp only [decide_eq_false_iff_not] at hb
        by_cases hj0:j=0
        · subst hj0
          exact fun _=>by
            have:(1:Int)+((0:Nat):Int) - 1=0:=by omega
            rename_i hx
            rw [this] at hx
            rcases hx with hx | ⟨hx,_⟩
            · exact hb (.inl hx)
            · have:=(nint_bd o r hl.1 hl.2.2.1 hl.2.2.2).1;omega
        · rw [show (1:Int)+(j:Int) - 1=((j - 1:Nat):Int)+1 by omega];exact hb)
  have HNN:=Lib.hid hN
  clear hN hNI hmost hl eg
  go_enter Tryz.func54,Tryz.ntmps54
  go_wp2_with (first | (go_at_call 107;(with_reducible refine (HL.out _).mono ?_);rintro e w1 ⟨rfl,rfl⟩))
  refine (HS.out _ _ _ _ ?_ ?_ ?_ ?_ ?_ ?_).mono ?_
  · go_simp
  · go_simp
  · go_simp
  · simp <;> omega
  · simp <;> omega
  · simp
  · rintro e w1 ⟨j,rfl,hj,ha,hb,bs,k,rfl⟩
    have hp:=HP.out j hj ha hb
    clear ha hb
    obtain ⟨q,hq⟩:∃ q,1+(j:Int)=q:=⟨_,rfl⟩
    rw [hq] at hp
    have HQ:=Lib.hid hq
    clear hq
    have hjN:(j:Int)≤2000000000000:=by have:=HNN.out;omega
    go_wp2_with fail
    go_returns
    exact ⟨1+j,rfl,(by repeat (first | exact Mor.refl _ | apply Mor.alloc | apply Mor.more | apply Mor.drewN | apply Mor.drew)),by rw [HQ.out];exact hp⟩
set_option maxHeartbeats 800000 in
theorem Least_no (o r n:Int) (w:World) (h:¬ (loanP o r∧1≤n∧n≤40)) :
    Calls Tryz.prog 54 #[.int .i64 o,.int .i64 r,.int .i64 n] w fun e w'=>e=.returned (.tuple #[.int .i64 0,.int .i64 1])∧Mor w w':=by
  by_cases hl:loanP o r
  · have HL:=Lib.hid (fun w=>nlook_ok o r w hl)
    have hc:n < 1∨(1≤n∧40 < n):=by
      by_cases h1:n < 1
      · exact .inl h1
      · by_cases h2:n≤40
        · exact absurd ⟨hl,by omega,h2⟩ h
        · exact .inr ⟨by omega,by omega⟩
    clear h hl
    rcases hc with h | ⟨h,h'⟩
    all_goals
      go_enter Tryz.func54,Tryz.ntmps54
      go_wp2_with (first | (go_at_call 107;(with_reducible refine (HL.out _).mono ?_);rintro e w1 ⟨rfl,rfl⟩))
      go_returns
      exact ⟨rfl,(by repeat (first | exact Mor.refl _ | apply Mor.alloc | apply Mor.more | apply Mor.drewN | apply Mor.drew))⟩
  · have HL:=Lib.hid (fun w=>nlook_no o r w hl)
    clear h hl
    go_enter Tryz.func54,Tryz.ntmps54
    go_wp2_with (first | (go_at_call 107;(with_reducible refine (HL.out _).mono ?_);rintro e w1 ⟨rfl,rfl⟩))
    go_returns
    exact ⟨rfl,(by repeat (first | exact Mor.refl _ | apply Mor.alloc | apply Mor.more | apply Mor.drewN | apply Mor.drew))⟩
end Go.Proofs.YtdhbkifpodekcaaGreatDoor
