/- What turning an entry does, in plain Lean. -/
import Derived.Test.YtdfacejepmolbaaUndoB
import Derived.Test.YtdfacejepmolbaaTriD
namespace Go.Proofs.Ytdfacejepmolbaa
open Go.ChangeShapes Go.WideShapes Go.ChangeAt Go.RowKit Go.PlainAid
set_option linter.unusedVariables false

abbrev kb : ByteArray := { data := #[98] }
def twoB : Bok := postb oneB (undoE oneB ka kb 9)
theorem two_undo : undoc oneB ka kb 9 = 0 ∧ balv twoB s10 9 = 0 ∧ balc twoB s10 9 = 0 ∧ twoB.en.length = 2 ∧ twoB.shut = -1 := by decide +kernel
theorem posted_in {b : Bok} {x : En} (h : postc b x = 0) : x ∈ (postb b x).en := by
  by_cases hf : 0 ≤ findE b.en x.key
  · obtain ⟨_, _, h1, h2⟩ := post_old h hf
    rw [h2]; exact h1
  · obtain ⟨_, _, _, _, _, _, h2⟩ := post_new h hf
    rw [h2]; exact mem_ins.2 (.inl rfl)
theorem posted_at {b : Bok} {x : En} (h : postc b x = 0) : ∃ j : Nat, j < (postb b x).en.length ∧ findE (postb b x).en x.key = j ∧ ne (postb b x).en j = x :=
  find_mem (post_ok h).keys (posted_in h)
/-- a code's balance can be asked for ahead as behind -/
theorem posted_balc {b : Bok} {x : En} (h : postc b x = 0) (s : ByteArray) (d : Int) : balc (postb b x) s d = balc b s d := by
  unfold balc
  rw [(bookc_iff _).2 (post_pre h).1, (bookc_iff _).2 (post_ok h), (post_ac b x).1]
theorem undo_does {b : Bok} {key by' : ByteArray} {day : Int} (h : undoc b key by' day = 0) {i : Nat} (hi : undoE b key by' day = ⟨by', day, turn (ne b.en i).ls⟩) :
    (postb b (undoE b key by' day)).en.length = b.en.length ∨ ((postb b (undoE b key by' day)).en.length = b.en.length + 1 ∧ ∀ s t, day ≤ t → ofS (postb b (undoE b key by' day)).en s 0 t = ofS b.en s 0 t - lnOf (ne b.en i).ls s) := by
  obtain ⟨hbo, _, h3, d0, d9, hp⟩ := undoc_zero h
  rw [post_len hp]
  by_cases hf : 0 ≤ findE b.en (undoE b key by' day).key
  · left; rw [if_pos hf]; rfl
  · right
    rw [if_neg hf]
    refine ⟨rfl, fun s t ht => ?_⟩
    rw [post_of hp, if_neg hf, hi]
    unfold enOf
    rw [if_neg (show ¬ (day < 0 ∨ t < day) by omega), lnOf_turn]
    omega
/-- the last of the lines under a code: there is but one -/
theorem last_ln {ls : List Ln} (hn : (ls.map (·.1)).Nodup) (s : ByteArray) (q : Nat) (hq : q < ls.length) : lnOf (ls.take (q + 1)) s = if cd ls q = s then am ls q else lnOf (ls.take q) s := by
  unfold lnOf
  rw [sm_take _ _ _ hq]
  obtain ⟨e1, e2⟩ := cd_at ls q hq
  by_cases hc : cd ls q = s
  · rw [if_pos hc, ← e1, if_pos hc, ← e2]
    have z : sm (fun l : Ln => if l.1 = s then l.2 else 0) (ls.take q) = 0 := sm_zero fun l hl => by
      rw [if_neg]
      intro e
      obtain ⟨j, hj, rfl⟩ := List.mem_iff_getElem.1 hl
      rw [List.length_take] at hj
      rw [List.getElem_take] at e
      have hjq : j < q := by omega
      have hpw := (List.pairwise_iff_getElem.1 hn) j q (by rw [List.length_map]; omega) (by rw [List.length_map]; exact hq) hjq
      rw [List.getElem_map, List.getElem_map] at hpw
      exact hpw (e.trans (hc.symm.trans e1))
    rw [z, Int.zero_add]
  · rw [if_neg hc, ← e1, if_neg hc, Int.add_zero]

end Go.Proofs.Ytdfacejepmolbaa
