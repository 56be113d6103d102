/- The walk of symMergeCmpFunc at int: more than one on either side; the recursion. -/
import Derived.Test.YtphkckonnogjmaaSuE
namespace Go.Proofs.Ytphkckonnogjmaa
open Go.ChangeShapes Go.WideShapes Go.ChangeAt Go.RowKit Stb
set_option linter.unusedVariables false
set_option linter.unusedSectionVars false

section
variable (key : Pr → Int) (xs : List Pr) (g a m b s e mid : Nat) (w w' : World)
def SymA : Prop := ∃ zs, Rot xs zs s m e ∧ Dat w' g zs ∧ On g w w'
def SymB : Prop := ∃ zs us, Rot xs zs s m e ∧ Mg key zs us a mid ∧ Dat w' g us ∧ On g w w'
def SymC : Prop := ∃ zs us vs, Rot xs zs s m e ∧ Mg key zs us a mid ∧ Mg key us vs mid b ∧ Dat w' g vs ∧ On g w w'
end
/-- what symMerge does with pieces of less than K -/
def SymIH (g N cap c : Nat) (cb : Array Value) (pe : Pr → Prop) (key : Pr → Int) (C : Pr → Pr → Int) (K : Nat) : Prop :=
  ∀ (a m b : Nat) (xs : List Pr) (w : World), b - a < K → a < m → m < b → b ≤ N → SaysC w g c cb pe key C → AllP pe xs → Dat w g xs → xs.length = N → Srt key (seg xs a m) → Srt key (seg xs m b) →
    Calls Try.prog 52 #[.slice (some ⟨g, 0, none⟩) N cap, .int .i64 a, .int .i64 m, .int .i64 b, .func (.func c) #[] cb] w (ModPost w g (fun ys => Mg key xs ys a b))

theorem symA_none {xs : List Pr} {g m s e : Nat} {w w' : World} (hs : s ≤ m) (he : m ≤ e) (h : ¬ (s < m ∧ m < e)) (hd : Dat w' g xs) (ho : On g w w') : SymA xs g m s e w w' := by
  by_cases h1 : s < m
  · obtain rfl : m = e := by omega
    exact ⟨xs, Rot.none_r _ _ _ hs, hd, ho⟩
  · obtain rfl : s = m := by omega
    exact ⟨xs, Rot.none_l _ _ _ he, hd, ho⟩
section
variable {key : Pr → Int} {xs : List Pr} {g a m b s e mid : Nat} {w w' : World}
variable (hab : a ≤ s) (hsm : s ≤ m) (hsd : s ≤ mid) (hme : m ≤ e) (hde : mid ≤ e) (heb : e ≤ b) (hb : b ≤ xs.length) (hmid : mid + m = s + e) (h1 : Srt key (seg xs a m)) (h2 : Srt key (seg xs m b))
include hab hsm hsd hme hde heb hb hmid h1 h2
theorem pieces {zs : List Pr} (hr : Rot xs zs s m e) : seg zs a s = seg xs a s ∧ seg zs s mid = seg xs m e ∧ seg zs mid e = seg xs s m ∧ seg zs e b = seg xs e b ∧
    Srt key (seg zs a s) ∧ Srt key (seg zs s mid) ∧ Srt key (seg zs mid e) ∧ Srt key (seg zs e b) := by
  have I1 := (srt_seg (key := key) (show m ≤ xs.length by omega)).1 h1
  have I2 := (srt_seg (key := key) hb).1 h2
  have hd : s + (e - m) = mid := by omega
  have r1 := hr.lo hsm hme
  have r2 := hr.hi hsm hme
  rw [hd] at r1 r2
  have r0 := hr.chg.seg (c := a) (d := s) (.inl (Nat.le_refl _))
  have r3 := hr.chg.seg (c := e) (d := b) (.inr (Nat.le_refl _))
  refine ⟨r0, r1, r2, r3, ?_, ?_, ?_, ?_⟩
  · rw [r0]; exact (srt_seg (by omega)).2 fun i j a1 a2 a3 => I1 i j a1 a2 (by omega)
  · rw [r1]; exact (srt_seg (by omega)).2 fun i j a1 a2 a3 => I2 i j a1 a2 (by omega)
  · rw [r2]; exact (srt_seg (by omega)).2 fun i j a1 a2 a3 => I1 i j (by omega) a2 (by omega)
  · rw [r3]; exact (srt_seg (by omega)).2 fun i j a1 a2 a3 => I2 i j (by omega) a2 (by omega)
theorem symB_none (h : ¬ (a < s ∧ s < mid)) (hA : SymA xs g m s e w w') : SymB key xs g a m s e mid w w' := by
  obtain ⟨zs, hr, hd, ho⟩ := hA
  obtain ⟨p1, p2, p3, p4, q1, q2, q3, q4⟩ := pieces hab hsm hsd hme hde heb hb hmid h1 h2 hr
  refine ⟨zs, zs, hr, Mg.id ?_, hd, ho⟩
  by_cases c : a < s
  · obtain rfl : s = mid := by omega
    exact q1
  · obtain rfl : a = s := by omega
    exact q2
theorem symC_none (h : ¬ (mid < e ∧ e < b)) (hB : SymB key xs g a m s e mid w w') : SymC key xs g a m b s e mid w w' := by
  obtain ⟨zs, us, hr, hu, hd, ho⟩ := hB
  obtain ⟨p1, p2, p3, p4, q1, q2, q3, q4⟩ := pieces hab hsm hsd hme hde heb hb hmid h1 h2 hr
  refine ⟨zs, us, us, hr, hu, Mg.id ?_, hd, ho⟩
  rw [hu.chg.seg (.inr (Nat.le_refl _))]
  by_cases c : mid < e
  · obtain rfl : e = b := by omega
    exact q3
  · obtain rfl : mid = e := by omega
    exact q4
variable {N cap c : Nat} {cb : Array Value} {pe : Pr → Prop} {C : Pr → Pr → Int} (hs : SaysC w g c cb pe key C) (hp : AllP pe xs) (hN : xs.length = N)
include hs hp hN
theorem symB_call (IH : SymIH g N cap c cb pe key C (b - a)) (l1 : a < s) (l2 : s < mid) (hmb : mid < b) (hA : SymA xs g m s e w w') :
    Calls Try.prog 52 #[.slice (some ⟨g, 0, none⟩) N cap, .int .i64 a, .int .i64 s, .int .i64 mid, .func (.func c) #[] cb] w' (fun r w'' => r = .returned (.tuple #[]) ∧ SymB key xs g a m s e mid w w'') := by
  obtain ⟨zs, hr, hd, ho⟩ := hA
  obtain ⟨p1, p2, p3, p4, q1, q2, q3, q4⟩ := pieces hab hsm hsd hme hde heb hb hmid h1 h2 hr
  refine (IH a s mid zs w' (by omega) l1 l2 (by omega) (hs.on ho) (hp.rot hr (by omega) hsm hme) hd (by rw [hr.len, hN]) q1 q2).mono ?_
  rintro r w'' ⟨rfl, us, hu, hd', ho'⟩
  exact ⟨rfl, zs, us, hr, hu, hd', ho.trans ho'⟩
theorem symC_call (IH : SymIH g N cap c cb pe key C (b - a)) (l1 : mid < e) (l2 : e < b) (ham : a < mid) (hB : SymB key xs g a m s e mid w w') :
    Calls Try.prog 52 #[.slice (some ⟨g, 0, none⟩) N cap, .int .i64 mid, .int .i64 e, .int .i64 b, .func (.func c) #[] cb] w' (fun r w'' => r = .returned (.tuple #[]) ∧ SymC key xs g a m b s e mid w w'') := by
  obtain ⟨zs, us, hr, hu, hd, ho⟩ := hB
  obtain ⟨p1, p2, p3, p4, q1, q2, q3, q4⟩ := pieces hab hsm hsd hme hde heb hb hmid h1 h2 hr
  have hz := hp.rot hr (by omega) hsm hme
  refine (IH mid e b us w' (by omega) l1 l2 (by omega) (hs.on ho) (hz.mg hu (by rw [hr.len]; omega)) hd (by rw [hu.chg.len, hr.len, hN]) ?_ ?_).mono ?_
  · rw [hu.chg.seg (.inr (Nat.le_refl _))]; exact q3
  · rw [hu.chg.seg (.inr (by omega))]; exact q4
  rintro r w'' ⟨rfl, vs, hv, hd', ho'⟩
  exact ⟨rfl, zs, us, vs, hr, hu, hv, hd', ho.trans ho'⟩
end

end Go.Proofs.Ytphkckonnogjmaa
