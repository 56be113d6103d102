/- Plain laws: a log is texts of entries and what is left of one. -/
import Derived.Test.YtnlbhaajpkpemaaGreatDoorPTopCrashZ1
import Derived.Test.YtnlbhaajpkpemaaGreatDoorPTopCrashZ2
import Derived.Test.YtnlbhaajpkpemaaGreatDoorPTopCrashZ3
import Derived.Test.YtnlbhaajpkpemaaGreatDoorPTopCrashZ4
import Derived.Test.YtnlbhaajpkpemaaGreatDoorPTopCrashZ5
import Derived.Test.YtnlbhaajpkpemaaGreatDoorPTopCrashZ6
import Derived.Test.YtnlbhaajpkpemaaGreatDoorPTopCrashZ7
import Derived.Test.YtnlbhaajpkpemaaGreatDoorPTopCrashZ8
import Derived.Test.YtnlbhaajpkpemaaGreatDoorPTopCrashZ9
import Derived.Test.YtnlbhaajpkpemaaGreatDoorPTopCrashZ10
import Derived.Test.YtnlbhaajpkpemaaGreatDoorPTopCrashZ11
import Derived.Test.YtnlbhaajpkpemaaGreatDoorPTopCrashZ20
import Derived.Test.YtnlbhaajpkpemaaGreatDoorPTopCrashZ31
import Derived.Test.YtnlbhaajpkpemaaGreatDoorRows
import Derived.BigQuiet
import Derived.DataElems
import Derived.Deep.LoopGhost
import Derived.Deep.QuietTactic
import Derived.Deep.RegionLaw
import Derived.Deep.SlicePairs
import Derived.Deep.Slices
import Derived.Deep.Strs
import Derived.Handy
import Derived.Laws.AppendOwn
import Derived.Laws.Cover1
import Derived.Lib.AtoiAll
import Derived.Lib.AtoiTie
import Derived.Lib.Bytealg
import Derived.Lib.CutLaws
import Derived.Lib.Hide
import Derived.Lib.ItoaLen
import Derived.Lib.ItoaNum
import Derived.Lib.LastIndexLaws
import Derived.Lib.SliceRun
import Derived.Lib.SplitLaws
import Derived.Lib.Walk
import Derived.OpenShut
import Derived.Outline
import Derived.OwnWalk
import Derived.PlainAid
import Derived.ProofKit
import Derived.RegionTactic
import Derived.Shelf.Abstract
import Derived.Sort.Walk0
import Derived.WalkKit
import Derived.WalkSpells
namespace Go.Proofs.YtnlbhaajpkpemaaGreatDoor
open Go Go.Lib
set_option linter.unusedVariables false
set_option maxRecDepth 100000

def texts (d : List En) : List UInt8 := d.flatMap textT
theorem texts_cons (x : En) (d : List En) : texts (x :: d) = textT x ++ texts d := rfl
theorem texts_snoc (d : List En) (x : En) : texts (d ++ [x]) = texts d ++ textT x := by simp [texts]
theorem texts_drop (d : List En) (i : Nat) (h : i < d.length) : texts (d.drop i) = textT (ne d i) ++ texts (d.drop (i + 1)) := by
  rw [List.drop_eq_getElem_cons h, texts_cons, ne_eq _ _ h]
theorem texts_take (d : List En) (i : Nat) (h : i < d.length) : texts (d.take (i + 1)) = texts (d.take i) ++ textT (ne d i) := by
  rw [List.take_succ_eq_append_getElem h, texts_snoc, ne_eq _ _ h]
/-- one entry more is read -/
theorem rp_step {d : List En} {i : Nat} (hi : i < d.length) (he : enc (ne d i) = 0) {s : ByteArray} {r : List UInt8} (hs : ub s = texts (d.drop i) ++ r) :
    rdc s = 0 ∧ rdE s = ne d i ∧ rdAt s + 1 = (textT (ne d i)).length ∧ ub (s.extract (textT (ne d i)).length s.size) = texts (d.drop (i + 1)) ++ r ∧ (textT (ne d i)).length ≤ s.size ∧ 0 < s.size := by
  rw [texts_drop d i hi, List.append_assoc] at hs
  obtain ⟨a, b, c⟩ := read_text he hs
  have hz : s.size = (textT (ne d i)).length + (texts (d.drop (i + 1)) ++ r).length := by rw [← ub_len, hs, List.length_append]
  have h1 : 1 ≤ (textT (ne d i)).length := by unfold textT; simp
  refine ⟨a, b, c, ?_, by omega, by omega⟩
  rw [ub_ext, hs, List.drop_left, hz]
  exact List.take_of_length_le (by omega)
/-- a log that is cut off: whole texts, and a part that holds no end -/
theorem texts_cut : ∀ (d : List En) (k : Nat), (∀ x ∈ d, enc x = 0) → k ≤ (texts d).length → ∃ j r, j ≤ d.length ∧ (texts d).take k = texts (d.take j) ++ r ∧ (∀ b ∈ r, b ≠ 10) ∧ (texts (d.take j)).length ≤ k
  | [], k, _, hk => ⟨0, [], Nat.le_refl _, by simp [texts], fun b hb => by simp at hb, by simp [texts]⟩
  | x :: d, k, he, hk => by
    have hx := enOk_of (he x (List.mem_cons_self ..))
    by_cases h : (textT x).length ≤ k
    · rw [texts_cons, List.length_append] at hk
      obtain ⟨j, r, h1, h2, h3, h4⟩ := texts_cut d (k - (textT x).length) (fun y hy => he y (List.mem_cons_of_mem _ hy)) (by omega)
      refine ⟨j + 1, r, by simpa using h1, ?_, h3, ?_⟩
      · rw [texts_cons, List.take_append, List.take_of_length_le h, h2, List.take_succ_cons, texts_cons, List.append_assoc]
      · rw [List.take_succ_cons, texts_cons, List.length_append]; omega
    · refine ⟨0, (textT x).take k, Nat.zero_le _, ?_, fun b hb => ?_, by simp [texts]⟩
      · rw [texts_cons, List.take_append, show k - (textT x).length = 0 by omega]
        simp [texts]
      · have e : (textT x).take k = (sumT (plainT x)).take k := by
          unfold textT at h ⊢
          rw [List.length_append] at h
          simp only [List.length_cons, List.length_nil] at h
          rw [List.take_append, show k - (sumT (plainT x)).length = 0 by omega]
          simp
        rw [e] at hb
        exact sumT_fine hx b (List.mem_of_mem_take hb)
theorem texts_le {d : List En} (h : ∀ x ∈ d, (textT x).length ≤ 340) : (texts d).length ≤ 340 * d.length := by
  induction d with
  | nil => simp [texts]
  | cons x d ih =>
    rw [texts_cons, List.length_append, List.length_cons]
    have := h x (List.mem_cons_self ..)
    have := ih fun y hy => h y (List.mem_cons_of_mem _ hy)
    omega

end Go.Proofs.YtnlbhaajpkpemaaGreatDoor
