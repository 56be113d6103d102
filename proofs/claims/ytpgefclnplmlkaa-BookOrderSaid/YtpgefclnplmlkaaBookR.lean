/- ContainsFunc at entries; what balances say, plainly. -/
import Derived.Test.YtpgefclnplmlkaaBookQ
namespace Go.Proofs.Ytpgefclnplmlkaa
open Go.ChangeShapes Go.WideShapes Go.ChangeAt Go.RowKit Go.PlainAid
set_option linter.unusedVariables false

theorem fidx_any (p : Nat → Bool) (n : Nat) : decide (0 ≤ fidx p 0 n) = (List.range n).any p := by
  rcases fidx_spec p n 0 with ⟨e, hn⟩ | ⟨k, e, _, h2, h3, _⟩
  · rw [e]
    have : (List.range n).any p = false := List.any_eq_false.2 fun j hj => by simp [hn j (by omega) (by have := List.mem_range.1 hj; omega)]
    rw [this]; rfl
  · rw [e]
    have : (List.range n).any p = true := List.any_eq_true.2 ⟨k, List.mem_range.2 (by omega), h3⟩
    rw [this]; simp
set_option maxHeartbeats 800000 in
theorem contains_en (g : Nat) (cb : Array Value) (X : Option Addr) (n cap : Nat) (es : List En) (p : Nat → Bool) (w : World) (eg : ∀ args w, (callFunc g args).run Try.prog w = .ok (.enter g args) w) (hr : Es w X es) (hn : n ≤ es.length) (hl : n ≤ 1000) (hf : SaysE w g cb es p) :
    Calls Try.prog 24 #[.slice X n cap, .func (.func g) #[] cb] w fun e w' => e = .returned (.bool ((List.range n).any p)) ∧ Mor w w' := by
  have HI := Lib.hid (index_en g cb X n cap es p w eg hr hn hl hf)
  have HA := Lib.hid (fidx_any p n)
  clear hr hn hf
  generalize (List.range n).any p = r at *
  generalize fidx p 0 n = f at *
  by_cases h : 0 ≤ f
  · rw [decide_eq_true h] at HA
    go_enter Try.func24, Try.ntmps24
    go_wp2_with fail
    refine HI.out.mono ?_
    rintro e w1 ⟨rfl, hm⟩
    have HM := Lib.hid hm
    clear hm
    go_wp2_with fail
    go_ret
    exact ⟨by rw [← HA.out] <;> simp, HM.out⟩
  · rw [decide_eq_false h] at HA
    go_enter Try.func24, Try.ntmps24
    go_wp2_with fail
    refine HI.out.mono ?_
    rintro e w1 ⟨rfl, hm⟩
    have HM := Lib.hid hm
    clear hm
    go_wp2_with fail
    go_ret
    exact ⟨by rw [← HA.out] <;> simp [h], HM.out⟩

/-- a balance of a day on which nothing is posted -/
theorem of_step {es : List En} {s : ByteArray} {t : Int} (h : ∀ e ∈ es, e.day ≠ t + 1) : ofS es s 0 (t + 1) = ofS es s 0 t := by
  unfold ofS
  refine sm_congr fun e he => ?_
  have := h e he
  unfold enOf
  by_cases h1 : e.day < 0 ∨ t < e.day
  · rw [if_pos h1, if_pos (by omega)]
  · rw [if_neg h1, if_neg (by omega)]
/-- Balance's error does not hang on the day -/
theorem balc_days (b : Bok) (s : ByteArray) {d d' : Int} (h1 : 0 ≤ d) (h2 : d ≤ 292193) (h3 : 0 ≤ d') (h4 : d' ≤ 292193) : balc b s d = balc b s d' := by
  unfold balc
  rw [if_neg (show ¬ (d < 0 ∨ 292193 < d) by omega), if_neg (show ¬ (d' < 0 ∨ 292193 < d') by omega)]
theorem balc_zero {b : Bok} {s : ByteArray} {d : Int} (h : balc b s d = 0) : BOk b ∧ hasB b.ac s = true ∧ 0 ≤ d ∧ d ≤ 292193 ∧ balv b s d = ofS b.en s 0 d := by
  have h0 := h
  unfold balc at h
  by_cases h1 : bookc b = 0
  · rw [if_neg (by simp [h1])] at h
    by_cases h2 : hasB b.ac s = false
    · rw [if_pos h2] at h; omega
    · rw [if_neg h2] at h
      by_cases h3 : d < 0 ∨ 292193 < d
      · rw [if_pos h3] at h; omega
      · exact ⟨(bookc_iff b).1 h1, by simpa using h2, by omega, by omega, by unfold balv; rw [h0]; rfl⟩
  · rw [if_pos h1] at h; exact absurd h h1
theorem balc_of {b : Bok} {s : ByteArray} {d : Int} (h1 : BOk b) (h2 : hasB b.ac s = true) (h3 : 0 ≤ d) (h4 : d ≤ 292193) : balc b s d = 0 := by
  unfold balc
  rw [if_neg (by simp [(bookc_iff b).2 h1]), if_neg (by simp [h2]), if_neg (by omega)]
theorem balv_bad {b : Bok} {s : ByteArray} {d : Int} (h : balc b s d ≠ 0) : balv b s d = 0 := by unfold balv; rw [if_pos h]
theorem post_ac (b : Bok) (x : En) : (postb b x).ac = b.ac ∧ (postb b x).shut = b.shut := by
  unfold postb; split <;> exact ⟨rfl, rfl⟩
/-- what an entry adds -/
theorem post_of {b : Bok} {x : En} (h : postc b x = 0) (s : ByteArray) (f t : Int) : ofS (postb b x).en s f t = ofS b.en s f t + if 0 ≤ findE b.en x.key then 0 else enOf s f t x := by
  by_cases hf : 0 ≤ findE b.en x.key
  · rw [if_pos hf, (post_old h hf).2.2.2, Int.add_zero]
  · rw [if_neg hf, (post_new h hf).2.2.2.2.2.2]
    exact ofS_ins x b.en s f t
theorem post_len {b : Bok} {x : En} (h : postc b x = 0) : (postb b x).en.length = b.en.length + if 0 ≤ findE b.en x.key then 0 else 1 := by
  by_cases hf : 0 ≤ findE b.en x.key
  · rw [if_pos hf, (post_old h hf).2.2.2]; rfl
  · rw [if_neg hf, (post_new h hf).2.2.2.2.2.2]
    exact ins_len x b.en

end Go.Proofs.Ytpgefclnplmlkaa
