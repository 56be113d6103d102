/- Texts of this claim. -/
import Derived.Test.YtdhbkifpodekcaaGreatDoorDeskZ1
import Derived.Test.YtdhbkifpodekcaaGreatDoorDeskZ19
import Derived.Test.YtdhbkifpodekcaaGreatDoorRows
namespace Go.Proofs.YtdhbkifpodekcaaGreatDoor
open Go.ChangeShapes Go.WideShapes Go.ChangeAt Go.RowKit
set_option maxRecDepth 100000
set_option maxHeartbeats 400000 in
theorem money_yes (a:Int) (w:World) (h1:-1000000000000≤a) (h2:a≤1000000000000) :
    Calls Tryz.prog 98 #[.int .i64 a] w fun e w'=>e=.returned (.bool true)∧w=w':=by
  have hd:decide (a≤1000000000000)=true:=by simpa using h2
  go_enter Tryz.func98,Tryz.ntmps98
  go_wp2
  go_ret
  exact ⟨rfl,rfl⟩
set_option maxHeartbeats 400000 in
theorem money_no (a:Int) (w:World) (h:a < -1000000000000∨1000000000000 < a) :
    Calls Tryz.prog 98 #[.int .i64 a] w fun e w'=>e=.returned (.bool false)∧w=w':=by
  rcases h with h | h
  · go_enter Tryz.func98,Tryz.ntmps98
    go_wp2
    go_ret
    exact ⟨rfl,rfl⟩
  · have hd:decide (a≤1000000000000)=false:=by simpa using h
    go_enter Tryz.func98,Tryz.ntmps98
    go_wp2
    all_goals go_ret
    all_goals exact ⟨rfl,rfl⟩
theorem wi_tmod (k n:Int) (h1:1≤n) (h2:n≤4000000000000):wrap64 ((IntKind.u64.wrap k).tmod n)=wi k n:=by
  have h0:=wi_lo k n h1
  have h3:=wi_hi k n h1
  rw [IntKind.wrap_u64,Int.tmod_eq_emod_of_nonneg (by omega)]
  exact IntWalk.wrap64_in _ ⟨by unfold wi at h0;omega,by unfold wi at h3;omega⟩
set_option maxHeartbeats 400000 in
theorem within_any (k n:Int) (w:World) (h1:1≤n) (h2:n≤4000000000000) :
    Calls Tryz.prog 9 #[.int .i64 k,.int .i64 n] w fun e w'=>e=.returned (.int .i64 (wi k n))∧w=w':=by
  go_enter Tryz.func9,Tryz.ntmps9
  go_wp2
  go_ret
  exact ⟨ret_i (wi_tmod k n h1 h2),rfl⟩
theorem tm2 (a:Int):a.tmod 2=0↔a % 2=0:=by rw [Int.tmod_eq_emod];split <;> omega
set_option maxHeartbeats 1000000 in
theorem rounded_any (n d way:Int) (w:World) (h1:1≤d) (h2:d≤4000000000000) (h3:-1000000000000000000≤n) (h4:n≤1000000000000000000) :
    Calls Tryz.prog 102 #[.int .i64 n,.int .i64 d,.int .i64 way] w fun e w'=>e=.returned (.int .i64 (rnd n d way))∧∃ k,w'=w.drewN k:=by
  have r0:0≤n % d:=Int.emod_nonneg _ (by omega)
  have r1:n % d < d:=Int.emod_lt_of_pos _ (by omega)
  have q0:-1000000000000000000≤n / d:=by
    rw [Int.le_ediv_iff_mul_le (by omega)];have:=Int.mul_le_mul_of_nonneg_left h1 (show (0:Int)≤1000000000000000000 by omega);omega
  have q1:n / d≤1000000000000000000:=by
    by_cases hn:0≤n
    · have:=Int.ediv_le_self d hn;omega
    · have:=Int.ediv_neg_of_neg_of_pos (show n < 0 by omega) (show 0 < d by omega);omega
  by_cases hn:0≤n
  · have q2:0≤n / d:=Int.ediv_nonneg hn (by omega)
    go_enter Tryz.func102,Tryz.ntmps102
    go_wp2
    go_quiet (fail)
    go_wp2_with fail
    all_goals go_ret
    all_goals refine ⟨ret_i ?_,nq,rfl⟩
    all_goals clear r0 r1 q0 q1 q2
    all_goals (simp only [rnd,rup];simp_all)
    all_goals omega
  · by_cases hz:n % d=0
    · have e1:n.tdiv d=n / d:=by rw [Int.tdiv_eq_ediv];simp [Int.dvd_of_emod_eq_zero hz]
      have e2:n.tmod d=0:=by rw [Int.tmod_eq_emod];simp [hz,Int.dvd_of_emod_eq_zero hz]
      go_enter Tryz.func102,Tryz.ntmps102
      go_wp2
      go_quiet (fail)
      go_wp2_with fail
      all_goals go_ret
      all_goals refine ⟨ret_i ?_,nq,rfl⟩
      all_goals clear r0 r1 q0 q1 e1 e2
      all_goals (simp only [rnd,rup];simp_all)
      all_goals omega
    · have hv:¬ d ∣ n:=fun h=>hz (Int.emod_eq_zero_of_dvd h)
      have e1:n.tdiv d=n / d+1:=by rw [Int.tdiv_eq_ediv,if_neg (by omega)];rw [Int.sign_eq_one_of_pos (by omega)]
      have e2:n.tmod d=n % d - d:=by rw [Int.tmod_eq_emod,if_neg (by omega)];omega
      have r2:0 < n % d:=by omega
      clear hz hv
      go_enter Tryz.func102,Tryz.ntmps102
      go_wp2
      go_quiet (fail)
      go_wp2_with fail
      all_goals go_ret
      all_goals refine ⟨ret_i ?_,nq,rfl⟩
      all_goals clear r0 r1 q0 q1 e1 e2
      all_goals (simp only [rnd,rup];simp_all [tm2])
      all_goals omega
end Go.Proofs.YtdhbkifpodekcaaGreatDoor
namespace Go.Proofs.YtdhbkifpodekcaaGreatDoor
open Go.ChangeShapes Go.WideShapes Go.ChangeAt Go.RowKit
set_option linter.unusedVariables false
set_option maxRecDepth 100000
def dy (n:Int):Int:=wi n 292194
end Go.Proofs.YtdhbkifpodekcaaGreatDoor
namespace Go.Proofs.YtdhbkifpodekcaaGreatDoor
open Go.ChangeShapes Go.WideShapes Go.ChangeAt Go.RowKit
set_option maxRecDepth 100000
set_option maxHeartbeats 400000 in
theorem look_okS (a rate way:Int) (w:World) (h1:-1000000000000≤a) (h2:a≤1000000000000) (h3:0≤rate) (h4:rate≤1000000) (h5:0≤way) (h6:way≤3) :
    Calls Tryz.prog 101 #[.int .i64 a,.int .i64 rate,.int .i64 way] w fun e w'=>e=.returned (.int .i64 0)∧w=w':=by
  go_enter Tryz.func101,Tryz.ntmps101
  go_wp2
  all_goals go_ret
  all_goals exact ⟨rfl,rfl⟩
set_option maxHeartbeats 400000 in
theorem share_ok (a rate way:Int) (w:World) (h1:-1000000000000≤a) (h2:a≤1000000000000) (h3:0≤rate) (h4:rate≤1000000) (h5:0≤way) (h6:way≤3) :
    Calls Tryz.prog 46 #[.int .i64 a,.int .i64 rate,.int .i64 way] w fun e w'=>e=.returned (.tuple #[.int .i64 (rnd (a*rate) 1000000 way),.int .i64 0])∧∃ k,w'=w.drewN k:=by
  obtain ⟨b1,b2⟩:=prod_bd a rate 1000000000000 1000000 h1 h2 h3 h4 (by omega)
  go_enter Tryz.func46,Tryz.ntmps46
  go_wp2_with (first | (go_at_call 101;refine (look_okS _ _ _ _ h1 h2 h3 h4 h5 h6).mono ?_;rintro e w' ⟨rfl,rfl⟩) | (go_at_call 102;refine (rounded_any _ _ _ _ (by omega) (by omega) (by omega) (by omega)).mono ?_;rintro e w' ⟨rfl,k,rfl⟩))
  go_ret2
  exact ⟨rfl,_,rfl⟩
end Go.Proofs.YtdhbkifpodekcaaGreatDoor
