/- Texts of this claim. -/
import Derived.Test.YtdhbkifpodekcaaGreatDoorDeskZ14
import Derived.Test.YtdhbkifpodekcaaGreatDoorDeskZ20
namespace Go.Proofs.YtdhbkifpodekcaaGreatDoor
open Go.ChangeShapes Go.WideShapes Go.ChangeAt Go.RowKit
set_option linter.unusedVariables false
set_option maxRecDepth 100000
theorem line_info:(Tryz.prog.info? 3).map (fun i=>(i.zero,i.size,i.bytes))=some (some (.int .i64 0),1,8):=by kernel_rfl
def stB (D n:Int) (k:Int):Int:=rnd (D*k) n 2
set_option maxHeartbeats 400000 in
theorem straight1 (cost rest n k:Int) (b0 b1 b2:Nat) (w:World) (c0:w.cell? ⟨b0,0,none⟩=some (.int .i64 cost)) (c1:w.cell? ⟨b1,0,none⟩=some (.int .i64 rest)) (c2:w.cell? ⟨b2,0,none⟩=some (.int .i64 n))
    (h1:0≤cost) (h2:cost≤1000000000000) (h3:0≤rest) (h4:rest≤cost) (h5:1≤n) (h6:n≤40) (h7:0≤k) (h8:k≤41) :
    Calls Tryz.prog 105 #[.int .i64 k,.pointer (some ⟨b0,0,none⟩),.pointer (some ⟨b1,0,none⟩),.pointer (some ⟨b2,0,none⟩)] w fun e w'=>e=.returned (.int .i64 (stB (cost - rest) n k))∧∃ m,w'=w.drewN m:=by
  obtain ⟨p1,p2⟩:=prod_bd (cost - rest) k 1000000000000 41 (by omega) (by omega) h7 h8 (by omega)
  have E:=Lib.hid (show rnd ((cost - rest)*k) n 2=stB (cost - rest) n k from rfl)
  go_enter Tryz.func105,Tryz.ntmps105
  go_wp2_with (first | (go_at_call 102;refine (rounded_any _ _ _ _ (by omega) (by omega) (by omega) (by omega)).mono ?_;rintro e w1 ⟨rfl,m,rfl⟩))
  go_ret
  exact ⟨ret_i (by rw [E.out]),_,rfl⟩
theorem kept {w:World} {b:Nat} {v:Value} (h:w.cell? ⟨b,0,none⟩=some v) (hb:b < w.heap.size) (o:Obj) (m:Nat):((w.alloc o).drewN m).cell? ⟨b,0,none⟩=some v:=by
  rw [World.cell?_drewN,World.cell?_alloc_past _ _ _ hb];exact h
def stP (D n:Int) (k:Nat):Int:=stB D n (k+1) - stB D n k
theorem stB_bd (D n k:Int) (h1:0≤D) (h2:D≤1000000000000) (h5:1≤n) (h7:0≤k) (h8:k≤41):0≤stB D n k∧stB D n k≤41000000000000:=by
  obtain ⟨p1,p2⟩:=prod_bd D k 1000000000000 41 (by omega) h2 h7 h8 (by omega)
  have p0:0≤D*k:=Int.mul_nonneg h1 h7
  have:=Int.mul_le_mul_of_nonneg_right h5 (show (0:Int)≤41000000000000 by omega)
  exact ⟨le_rnd _ _ _ _ h5 (by omega),rnd_le _ _ _ _ h5 (by omega)⟩
set_option maxHeartbeats 1600000 in
theorem parts_straight (cost rest:Int) (n:Nat) (b0 b1 b2:Nat) (w:World) (c0:w.cell? ⟨b0,0,none⟩=some (.int .i64 cost)) (c1:w.cell? ⟨b1,0,none⟩=some (.int .i64 rest)) (c2:w.cell? ⟨b2,0,none⟩=some (.int .i64 (n:Int)))
    (l0:b0 < w.heap.size) (l1:b1 < w.heap.size) (l2:b2 < w.heap.size)
    (h1:0≤cost) (h2:cost≤1000000000000) (h3:0≤rest) (h4:rest≤cost) (h5:1≤n) (h6:n≤40) :
    Calls Tryz.prog 104 #[.int .i64 (n:Int),.func (.func 105) #[] #[.pointer (some ⟨b0,0,none⟩),.pointer (some ⟨b1,0,none⟩),.pointer (some ⟨b2,0,none⟩)]] w fun e w' =>
      e=.returned (.slice (some ⟨w.heap.size,0,none⟩) n n)∧∃ k,w'=(w.alloc (.cells (fc (stP (cost - rest) n) n n) 3)).drewN k:=by
  have C0:=Lib.hid (kept c0 l0)
  have C1:=Lib.hid (kept c1 l1)
  have C2:=Lib.hid (kept c2 l2)
  have hmk:=fun w=>run_make_row' (P:=Tryz.prog) 71 3 (.int .i64 0) 8 Tryz.underlying71 line_info rfl .i64 .i64 n (by omega) (by omega) w
  go_enter Tryz.func104,Tryz.ntmps104
  go_wp2_with fail
  rw [fc_zero (stP (cost - rest) n) n]
  go_loopw [11] (fun i wr=>∃ k m:Nat,k≤n∧i=.int .i64 k∧wr=(w.alloc (.cells (fc (stP (cost - rest) n) n k) 3)).drewN m) (fun i _=>n - (intOf i).toNat)
  case atStart=>exact ⟨0,0,Nat.zero_le _,rfl,rfl⟩
  case round =>
    obtain ⟨k,m,hk,rfl,rfl⟩:=hrel
    clear hmk
    by_cases hlt:k < n
    · have E:=Lib.hid (show stB (cost - rest) n ((k:Int)+1) - stB (cost - rest) n k=stP (cost - rest) n k from rfl)
      obtain ⟨s1,s2⟩:=stB_bd (cost - rest) n ((k:Int)+1) (by omega) (by omega) (by omega) (by omega) (by omega)
      obtain ⟨s3,s4⟩:=stB_bd (cost - rest) n (k:Int) (by omega) (by omega) (by omega) (by omega) (by omega)
      have f0:(fc (stP (cost - rest) n) n k)[k]?=some (.int .i64 0):=by rw [fc_get _ _ _ _ hlt,if_neg (by omega)]
      have hi:((k:Nat):Int) < (n:Int):=by omega
      go_wp2_with (first | (go_at_call 105;refine (straight1 cost rest n _ b0 b1 b2 _ (by exact C0.out _ _) (by exact C1.out _ _) (by exact C2.out _ _) h1 h2 h3 h4 (by omega) (by omega) (by omega) (by omega)).mono ?_;rintro e w1 ⟨rfl,m2,rfl⟩))
      go_roundw
      case rel=>exact ⟨k+1,_,by omega,by go_num,by rw [E.out,fc_step _ _ _ hlt]⟩
      case measure=>simp [intOf];omega
    · have e:k=n:=by omega
      subst e
      go_wp2
      go_ret
      exact ⟨rfl,_,rfl⟩
set_option maxHeartbeats 400000 in
theorem lineLook_ok (cost rest n:Int) (w:World) (h1:0≤cost) (h2:cost≤1000000000000) (h3:0≤rest) (h4:rest≤cost) (h5:1≤n) (h6:n≤40) :
    Calls Tryz.prog 103 #[.int .i64 cost,.int .i64 rest,.int .i64 n] w fun e w'=>e=.returned (.int .i64 0)∧w=w':=by
  go_enter Tryz.func103,Tryz.ntmps103
  go_wp2
  all_goals go_ret
  all_goals exact ⟨rfl,rfl⟩
def dgB (D n:Int) (k:Int):Int:=rnd (D*(k*n - k*(k - 1) / 2)) (n*(n+1) / 2) 2
def dgP (D n:Int) (k:Nat):Int:=dgB D n (k+1) - dgB D n k
theorem tri_bd (n k:Int) (h5:1≤n) (h6:n≤40) (h7:0≤k) (h8:k≤n) :
    0≤k*(k - 1)∧k*(k - 1)≤1600∧0≤k*n∧k*n≤1600∧0≤k*n - k*(k - 1) / 2∧k*n - k*(k - 1) / 2≤1600∧1≤n*(n+1) / 2∧n*(n+1) / 2≤820:=by
  have a1:0≤k*(k - 1):=by
    by_cases h:k=0
    · subst h;simp
    · exact Int.mul_nonneg h7 (by omega)
  have a2:k*n≤40*n:=Int.mul_le_mul_of_nonneg_right (by omega) (by omega)
  have a3:0≤k*n:=Int.mul_nonneg h7 (by omega)
  have a4:k*(k - 1)≤k*n:=Int.mul_le_mul_of_nonneg_left (by omega) h7
  have a5:n*(n+1)≤40*(n+1):=Int.mul_le_mul_of_nonneg_right (by omega) (by omega)
  have a6:1*(n+1)≤n*(n+1):=Int.mul_le_mul_of_nonneg_right (by omega) (by omega)
  omega
theorem dgB_bd (D n k:Int) (h1:0≤D) (h2:D≤1000000000000) (h5:1≤n) (h6:n≤40) (h7:0≤k) (h8:k≤n):0≤dgB D n k∧dgB D n k≤1600000000000000:=by
  obtain ⟨t1,t2,t3,t4,t5,t6,t7,t8⟩:=tri_bd n k h5 h6 h7 h8
  obtain ⟨p1,p2⟩:=prod_bd D (k*n - k*(k - 1) / 2) 1000000000000 1600 (by omega) h2 t5 t6 (by omega)
  have p0:0≤D*(k*n - k*(k - 1) / 2):=Int.mul_nonneg h1 t5
  have:=Int.mul_le_mul_of_nonneg_right t7 (show (0:Int)≤1600000000000000 by omega)
  exact ⟨le_rnd _ _ _ _ t7 (by omega),rnd_le _ _ _ _ t7 (by omega)⟩
set_option maxHeartbeats 400000 in
theorem digits1 (cost rest n k:Int) (b0 b1 b2 b3:Nat) (w:World) (c0:w.cell? ⟨b0,0,none⟩=some (.int .i64 cost)) (c1:w.cell? ⟨b1,0,none⟩=some (.int .i64 rest)) (c2:w.cell? ⟨b2,0,none⟩=some (.int .i64 n)) (c3:w.cell? ⟨b3,0,none⟩=some (.int .i64 (n*(n+1) / 2)))
    (h1:0≤cost) (h2:cost≤1000000000000) (h3:0≤rest) (h4:rest≤cost) (h5:1≤n) (h6:n≤40) (h7:0≤k) (h8:k≤n) :
    Calls Tryz.prog 106 #[.int .i64 k,.pointer (some ⟨b0,0,none⟩),.pointer (some ⟨b1,0,none⟩),.pointer (some ⟨b2,0,none⟩),.pointer (some ⟨b3,0,none⟩)] w fun e w'=>e=.returned (.int .i64 (dgB (cost - rest) n k))∧∃ m,w'=w.drewN m:=by
  obtain ⟨t1,t2,t3,t4,t5,t6,t7,t8⟩:=tri_bd n k h5 h6 h7 h8
  obtain ⟨p1,p2⟩:=prod_bd (cost - rest) (k*n - k*(k - 1) / 2) 1000000000000 1600 (by omega) (by omega) t5 t6 (by omega)
  have E:=Lib.hid (show rnd ((cost - rest)*(k*n - k*(k - 1) / 2)) (n*(n+1) / 2) 2=dgB (cost - rest) n k from rfl)
  go_enter Tryz.func106,Tryz.ntmps106
  go_wp2_with (first | (go_at_call 102;refine (rounded_any _ _ _ _ (by omega) (by omega) (by omega) (by omega)).mono ?_;rintro e w1 ⟨rfl,m,rfl⟩))
  go_ret
  exact ⟨ret_i (by rw [E.out]),_,rfl⟩
set_option maxHeartbeats 1600000 in
theorem parts_digits (cost rest:Int) (n:Nat) (b0 b1 b2 b3:Nat) (w:World) (c0:w.cell? ⟨b0,0,none⟩=some (.int .i64 cost)) (c1:w.cell? ⟨b1,0,none⟩=some (.int .i64 rest)) (c2:w.cell? ⟨b2,0,none⟩=some (.int .i64 (n:Int))) (c3:w.cell? ⟨b3,0,none⟩=some (.int .i64 ((n:Int)*(n+1) / 2)))
    (l0:b0 < w.heap.size) (l1:b1 < w.heap.size) (l2:b2 < w.heap.size) (l3:b3 < w.heap.size)
    (h1:0≤cost) (h2:cost≤1000000000000) (h3:0≤rest) (h4:rest≤cost) (h5:1≤n) (h6:n≤40) :
    Calls Tryz.prog 104 #[.int .i64 (n:Int),.func (.func 106) #[] #[.pointer (some ⟨b0,0,none⟩),.pointer (some ⟨b1,0,none⟩),.pointer (some ⟨b2,0,none⟩),.pointer (some ⟨b3,0,none⟩)]] w fun e w' =>
      e=.returned (.slice (some ⟨w.heap.size,0,none⟩) n n)∧∃ k,w'=(w.alloc (.cells (fc (dgP (cost - rest) n) n n) 3)).drewN k:=by
  have C0:=Lib.hid (kept c0 l0)
  have C1:=Lib.hid (kept c1 l1)
  have C2:=Lib.hid (kept c2 l2)
  have C3:=Lib.hid (kept c3 l3)
  have hmk:=fun w=>run_make_row' (P:=Tryz.prog) 71 3 (.int .i64 0) 8 Tryz.underlying71 line_info rfl .i64 .i64 n (by omega) (by omega) w
  go_enter Tryz.func104,Tryz.ntmps104
  go_wp2_with fail
  rw [fc_zero (dgP (cost - rest) n) n]
  go_loopw [11] (fun i wr=>∃ k m:Nat,k≤n∧i=.int .i64 k∧wr=(w.alloc (.cells (fc (dgP (cost - rest) n) n k) 3)).drewN m) (fun i _=>n - (intOf i).toNat)
  case atStart=>exact ⟨0,0,Nat.zero_le _,rfl,rfl⟩
  case round =>
    obtain ⟨k,m,hk,rfl,rfl⟩:=hrel
    clear hmk
    by_cases hlt:k < n
    · have E:=Lib.hid (show dgB (cost - rest) n ((k:Int)+1) - dgB (cost - rest) n k=dgP (cost - rest) n k from rfl)
      obtain ⟨s1,s2⟩:=dgB_bd (cost - rest) n ((k:Int)+1) (by omega) (by omega) (by omega) (by omega) (by omega) (by omega)
      obtain ⟨s3,s4⟩:=dgB_bd (cost - rest) n (k:Int) (by omega) (by omega) (by omega) (by omega) (by omega) (by omega)
      have f0:(fc (dgP (cost - rest) n) n k)[k]?=some (.int .i64 0):=by rw [fc_get _ _ _ _ hlt,if_neg (by omega)]
      have hi:((k:Nat):Int) < (n:Int):=by omega
      go_wp2_with (first | (go_at_call 106;refine (digits1 cost rest n _ b0 b1 b2 b3 _ (by exact C0.out _ _) (by exact C1.out _ _) (by exact C2.out _ _) (by exact C3.out _ _) h1 h2 h3 h4 (by omega) (by omega) (by omega) (by omega)).mono ?_;rintro e w1 ⟨rfl,m2,rfl⟩))
      go_roundw
      case rel=>exact ⟨k+1,_,by omega,by go_num,by rw [E.out,fc_step _ _ _ hlt]⟩
      case measure=>simp [intOf];omega
    · have e:k=n:=by omega
      subst e
      go_wp2
      go_ret
      exact ⟨rfl,_,rfl⟩
def lineP (cost rest n:Int):Prop:=0≤cost∧cost≤1000000000000∧0≤rest∧rest≤cost∧1≤n∧n≤40
set_option maxHeartbeats 400000 in
theorem lineLook_no (cost rest n:Int) (w:World) (h:¬ lineP cost rest n) :
    Calls Tryz.prog 103 #[.int .i64 cost,.int .i64 rest,.int .i64 n] w fun e w'=>e=.returned (.int .i64 1)∧w=w':=by
  have H:=Lib.hid h
  clear h
  go_enter Tryz.func103,Tryz.ntmps103
  go_wp2
  all_goals go_ret
  all_goals first | exact ⟨rfl,rfl⟩ | (have h:=H.out;exfalso;unfold lineP at h;omega)
set_option maxHeartbeats 400000 in
theorem straight_no (cost rest n:Int) (w:World) (h:¬ lineP cost rest n) :
    Calls Tryz.prog 48 #[.int .i64 cost,.int .i64 rest,.int .i64 n] w fun e w'=>e=.returned (.tuple #[.slice none 0 0,.int .i64 1])∧Mor w w':=by
  have HL:=Lib.hid (fun w=>lineLook_no cost rest n w h)
  clear h
  go_enter Tryz.func48,Tryz.ntmps48
  go_wp2_with (first | (go_at_call 103;(with_reducible refine (HL.out _).mono ?_);rintro e w1 ⟨rfl,rfl⟩))
  go_returns
  exact ⟨rfl,by repeat (first | exact Mor.refl _ | apply Mor.alloc | apply Mor.more | apply Mor.drewN | apply Mor.drew)⟩
set_option maxHeartbeats 400000 in
theorem digits_no (cost rest n:Int) (w:World) (h:¬ lineP cost rest n) :
    Calls Tryz.prog 50 #[.int .i64 cost,.int .i64 rest,.int .i64 n] w fun e w'=>e=.returned (.tuple #[.slice none 0 0,.int .i64 1])∧Mor w w':=by
  have HL:=Lib.hid (fun w=>lineLook_no cost rest n w h)
  clear h
  go_enter Tryz.func50,Tryz.ntmps50
  go_wp2_with (first | (go_at_call 103;(with_reducible refine (HL.out _).mono ?_);rintro e w1 ⟨rfl,rfl⟩))
  go_returns
  exact ⟨rfl,by repeat (first | exact Mor.refl _ | apply Mor.alloc | apply Mor.more | apply Mor.drewN | apply Mor.drew)⟩
end Go.Proofs.YtdhbkifpodekcaaGreatDoor
