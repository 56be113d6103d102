/- The walk of rotateCmpFunc at int. -/
import Derived.Test.YtphkckonnogjmaaSuA
namespace Go.Proofs.Ytphkckonnogjmaa
open Go.ChangeShapes Go.WideShapes Go.ChangeAt Go.RowKit Stb
set_option linter.unusedVariables false

theorem rotl_ex {xs : List Pr} {a m b : Nat} (h1 : a ≤ m) (h2 : m ≤ b) (h3 : b ≤ xs.length) : ∃ ts, Todo xs ts a m b := by
  refine ⟨(List.range xs.length).map fun i => ge xs (rix a m b i), by simp, fun i => ?_⟩
  rw [List.getElem?_map]
  by_cases h : i < xs.length
  · rw [List.getElem?_range h, ge_some (by unfold rix; split <;> (try split) <;> omega)]; rfl
  · rw [List.getElem?_eq_none (by simpa using h), rix, if_pos (by omega), List.getElem?_eq_none (by omega)]; rfl

set_option maxRecDepth 100000 in
set_option maxHeartbeats 3200000 in
theorem rot_any (g N cap a m b : Nat) (cv : Value) (xs : List Pr) (w : World) (hd : Dat w g xs) (hN : xs.length = N) (hl : N ≤ 1000) (h1 : a < m) (h2 : m < b) (h3 : b ≤ N) :
    Calls Try.prog 57 #[.slice (some ⟨g, 0, none⟩) N cap, .int .i64 a, .int .i64 m, .int .i64 b, cv] w (ModPost w g (fun ys => Rot xs ys a m b)) := by
  have HD := Lib.hid hd
  have HN := Lib.hid hN
  obtain ⟨ts, hts⟩ := rotl_ex (xs := xs) (a := a) (m := m) (b := b) (by omega) (by omega) (by omega)
  have HT := Lib.hid hts
  have HSw := Lib.hid (fun a b n ys w (h : Dat w g ys) (h2 : ys.length = N) => swr_any g N cap a b n cv ys w h h2 hl)
  clear hts
  clear hd hN
  go_enter Try.func57, Try.ntmps57
  go_wp2
  go_loopw [10, 11] (fun vi vj wr => ∃ (i j : Nat) (ys : List Pr), 1 ≤ i ∧ a + i ≤ m ∧ 1 ≤ j ∧ m + j ≤ b ∧ vi = .int .i64 i ∧ vj = .int .i64 j ∧ Hid (ys.length = N) ∧ Hid (Todo ys ts (m - i) m (m + j)) ∧ Hid (Dat wr g ys) ∧ Hid (On g w wr)) (fun vi vj _ => (intOf vi).toNat + (intOf vj).toNat)
  case atStart => exact ⟨m - a, b - m, xs, by omega, by omega, by omega, by omega, by congr 1; omega, by congr 1; omega, HN, Lib.hid (by have := HT.out; rw [show m - (m - a) = a by omega, show m + (b - m) = b by omega]; exact this), HD, Lib.hid (On.refl _ _)⟩
  case round =>
    obtain ⟨i, j, ys, i1, i2, j1, j2, rfl, rfl, HL, HTo, HY, HO⟩ := hrel
    obtain ⟨p, hp⟩ : ∃ p, p = m - i := ⟨_, rfl⟩
    have e1 : (m : Int) - (i : Int) = (p : Int) := by omega
    have HP := Lib.hid hp
    clear hp
    by_cases hij : i = j
    · subst hij
      have HC := Lib.hid (HSw.out p m i ys wr HY.out HL.out (by rw [HP.out]; omega) (by omega))
      go_wp2_with (first | (go_at_call 59; (with_reducible refine HC.out.mono ?_); rintro e w1 ⟨rfl, zs, hz, hdz, hon⟩))
      go_end0
      rw [HP.out] at hz
      obtain rfl := HTo.out.last hz (by omega)
      exact ⟨rfl, ts, ⟨by rw [hz.len, HL.out, HN.out], HT.out.at_⟩, hdz, HO.out.trans hon⟩
    · by_cases hlt : j < i
      · have hji : (j : Int) < (i : Int) := by omega
        have hne : ((i : Int) == (j : Int)) = false := by simp; omega
        have HC := Lib.hid (HSw.out p m j ys wr HY.out HL.out (by rw [HP.out]; omega) (by omega))
        clear hij
        go_wp2_with (first | (go_at_call 59; (with_reducible refine HC.out.mono ?_); rintro e w1 ⟨rfl, zs, hz, hdz, hon⟩))
        have HZ := Lib.hid hz
        have HDz := Lib.hid hdz
        have HOn := Lib.hid (HO.out.trans hon)
        clear hz hdz hon
        go_roundw
        case rel => exact ⟨i - j, j, zs, by omega, by omega, j1, j2, by congr 1; omega, rfl, Lib.hid (by rw [HZ.out.len, HL.out]), Lib.hid (by have h := HZ.out; rw [HP.out] at h; exact HTo.out.left h (by omega) hlt), HDz, HOn⟩
        case measure => simp [intOf]; omega
      · have hji : ¬ ((j : Int) < (i : Int)) := by omega
        have hne : ((i : Int) == (j : Int)) = false := by simp; omega
        obtain ⟨q, hq⟩ : ∃ q, q = m + j := ⟨_, rfl⟩
        obtain ⟨r, hr⟩ : ∃ r, r = q - i := ⟨_, rfl⟩
        have e2 : (m : Int) + (j : Int) = (q : Int) := by omega
        have e3 : (q : Int) - (i : Int) = (r : Int) := by omega
        have HC := Lib.hid (HSw.out p r i ys wr HY.out HL.out (by rw [HP.out]; omega) (by omega))
        have HQ := Lib.hid (show r = m + j - i by omega)
        have hil : i < j := by omega
        clear hij hq hr
        go_wp2_with (first | (go_at_call 59; (with_reducible refine HC.out.mono ?_); rintro e w1 ⟨rfl, zs, hz, hdz, hon⟩))
        have HZ := Lib.hid hz
        have HDz := Lib.hid hdz
        have HOn := Lib.hid (HO.out.trans hon)
        clear hz hdz hon
        go_roundw
        case rel => exact ⟨i, j - i, zs, i1, i2, by omega, by omega, rfl, by congr 1; omega, Lib.hid (by rw [HZ.out.len, HL.out]), Lib.hid (by have h := HZ.out; rw [HP.out, HQ.out] at h; exact HTo.out.right h (by omega) hil), HDz, HOn⟩
        case measure => simp [intOf]; omega

end Go.Proofs.Ytphkckonnogjmaa
