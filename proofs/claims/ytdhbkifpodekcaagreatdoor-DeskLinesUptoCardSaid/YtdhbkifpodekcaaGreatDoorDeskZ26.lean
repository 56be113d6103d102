/- Texts of this claim. -/
import Derived.Test.YtdhbkifpodekcaaGreatDoorDeskZ12
import Derived.Test.YtdhbkifpodekcaaGreatDoorDeskZ21
import Derived.Test.YtdhbkifpodekcaaGreatDoorDeskZ22
import Derived.Test.YtdhbkifpodekcaaGreatDoorDeskZ23
import Derived.Test.YtdhbkifpodekcaaGreatDoorDeskZ25
namespace Go.Proofs.YtdhbkifpodekcaaGreatDoor
open Go.ChangeShapes Go.WideShapes Go.ChangeAt Go.RowKit
set_option linter.unusedVariables false
set_option maxRecDepth 100000
noncomputable def em (f:Int) (i:Nat):Int:=fk (dk f+i+1) - 1
noncomputable def ds (f:Int) (j:Nat):Int:=if j=0 then f else fk (dk f+j)
theorem fc_ic (f:Nat→Int) (m:Nat):fc f m m=ic ((List.range m).map f):=by
  apply Array.ext_getElem?
  intro i
  by_cases h:i < m
  · rw [fc_get _ _ _ _ h,if_pos h];simp [ic,h]
  · rw [Array.getElem?_eq_none (by rw [fc_size];omega),Array.getElem?_eq_none (by simp [ic];omega)]
theorem byl_len' (A:Int) (l:List Int):(byl A l).length=l.length:=by
  unfold byl prts;split <;> simp
set_option maxHeartbeats 1600000 in
theorem straight_b2 (cost rest:Int) (n:Nat) (w:World) (h1:0≤cost) (h2:cost≤1000000000000) (h3:0≤rest) (h4:rest≤cost) (h5:1≤n) (h6:n≤40) :
    Calls Tryz.prog 48 #[.int .i64 cost,.int .i64 rest,.int .i64 (n:Int)] w fun e w'=>∃ b,e=.returned (.tuple #[.slice (some ⟨b,0,none⟩) n n,.int .i64 0])∧w.heap.size≤b∧Blk w' b 3 (fc (stP (cost - rest) n) n n)∧Mor w w':=by
  have HL:=Lib.hid (fun w=>lineLook_ok cost rest n w h1 h2 h3 h4 (by omega) (by omega))
  go_enter Tryz.func48,Tryz.ntmps48
  go_wp2_with (first | (go_at_call 103;(with_reducible refine (HL.out _).mono ?_);rintro e w1 ⟨rfl,rfl⟩))
  refine (parts_straight cost rest n _ _ _ _ (by simp [go_sem]) (by simp [go_sem]) (by simp [go_sem]) (by simp [go_sem]) (by simp [go_sem]) (by simp [go_sem]) h1 h2 h3 h4 h5 h6).mono ?_
  rintro e w1 ⟨rfl,k,rfl⟩
  have R:=Lib.hid (fun (w:World) k=>(Blk.new w 3 (fc (stP (cost - rest) n) n n)).drewN k)
  go_wp2
  go_returns
  refine ⟨_,rfl,by first | exact Nat.le_refl _ | (simp;omega) | omega,?_,by repeat (first | exact Mor.refl _ | apply Mor.alloc | apply Mor.more | apply Mor.drewN | apply Mor.drew)⟩
  have r:=R.out (((w.alloc (.cells #[.int .i64 cost] 3)).alloc (.cells #[.int .i64 rest] 3)).alloc (.cells #[.int .i64 (n:Int)] 3)) k
  simp [go_sem] at r
  exact r
set_option maxHeartbeats 1600000 in
theorem digits_b2 (cost rest:Int) (n:Nat) (w:World) (h1:0≤cost) (h2:cost≤1000000000000) (h3:0≤rest) (h4:rest≤cost) (h5:1≤n) (h6:n≤40) :
    Calls Tryz.prog 50 #[.int .i64 cost,.int .i64 rest,.int .i64 (n:Int)] w fun e w'=>∃ b,e=.returned (.tuple #[.slice (some ⟨b,0,none⟩) n n,.int .i64 0])∧w.heap.size≤b∧Blk w' b 3 (fc (dgP (cost - rest) n) n n)∧Mor w w':=by
  obtain ⟨q1,q2⟩:=prod_bd (n:Int) ((n:Int)+1) 40 41 (by omega) (by omega) (by omega) (by omega) (by omega)
  have q3:0≤(n:Int)*((n:Int)+1):=Int.mul_nonneg (by omega) (by omega)
  have HL:=Lib.hid (fun w=>lineLook_ok cost rest n w h1 h2 h3 h4 (by omega) (by omega))
  go_enter Tryz.func50,Tryz.ntmps50
  go_wp2_with (first | (go_at_call 103;(with_reducible refine (HL.out _).mono ?_);rintro e w1 ⟨rfl,rfl⟩))
  refine (parts_digits cost rest n _ _ _ _ _ (by simp [go_sem]) (by simp [go_sem]) (by simp [go_sem]) (by simp [go_sem]) (by simp [go_sem]) (by simp [go_sem]) (by simp [go_sem]) (by simp [go_sem]) h1 h2 h3 h4 h5 h6).mono ?_
  rintro e w1 ⟨rfl,k,rfl⟩
  have R:=Lib.hid (fun (w:World) k=>(Blk.new w 3 (fc (dgP (cost - rest) n) n n)).drewN k)
  go_wp2
  go_returns
  refine ⟨_,rfl,by first | exact Nat.le_refl _ | (simp;omega) | omega,?_,by repeat (first | exact Mor.refl _ | apply Mor.alloc | apply Mor.more | apply Mor.drewN | apply Mor.drew)⟩
  have r:=R.out ((((w.alloc (.cells #[.int .i64 cost] 3)).alloc (.cells #[.int .i64 rest] 3)).alloc (.cells #[.int .i64 (n:Int)] 3)).alloc (.cells #[.int .i64 ((n:Int)*(n+1) / 2)] 3)) k
  simp [go_sem] at r
  exact r
end Go.Proofs.YtdhbkifpodekcaaGreatDoor
