/- A slice that came in is no longer than what a program can reach. -/
import Derived.Test.YtohpibjjlfpaaaaGreatDoorPBookOwnZ1
import Derived.BigQuiet
import Derived.ChangeArms
import Derived.Deep.QuietTactic
import Derived.Handy
import Derived.Lib.Hide
import Derived.OpenShut
import Derived.Outline
import Derived.ProofKit
import Derived.RegionTactic
import Derived.SizedLaws
import Derived.WalkKit
namespace Go.Proofs.YtohpibjjlfpaaaaGreatDoor
set_option linter.unusedVariables false

theorem gen_size {H : Type} {enc : TypeId × Value → H} {P : Program} {T E : TypeId} {w : World} {base : Nat} {spare : Nat → Bool} {held : Bool} {fuel : Nat} {a : Option Addr} {len cap : Nat} {d : DataW H} {p : List MemPlace}
    (ht : P.underlying T = some (.slice E)) (h : DataW.trod enc P w base spare held fuel T [.slice a len cap] = some (d, p)) : len = 0 ∨ ∃ elems sp, d = .slice elems sp ∧ elems.length = len := by
  rcases DataW.trod_slice ht h with ⟨hc, _⟩ | ⟨a', len', cap', elems, rest, n, _, hc, hx, _, _, _, hl, _⟩
  · left
    simp at hc
    exact hc.2.1
  · right
    simp at hc
    obtain ⟨_, rfl, _⟩ := hc
    injection hx with hx _
    exact ⟨_, _, hx, by simp [hl]⟩
theorem len_reach {H : Type} {enc : TypeId × Value → H} {P : Program} {T E : TypeId} {w : World} {base : Nat} {spare : Nat → Bool} {held : Bool} {a : Option Addr} {len cap : Nat} {d : DataW H} {p : List MemPlace} {ts : List TypeId} {ds : List (DataW H)}
    (hs : (DataW.weightsEach P ts ds).all (· ≤ reachBytes) = true) (j : Nat) (hj : ts[j]? = some T) (hd : ds[j]? = some d) (ht : P.underlying T = some (.slice E)) (bs : Nat) (hb : P.bytesOf E = bs)
    (h : ∃ fuel, DataW.trod enc P w base spare held fuel T [.slice a len cap] = some (d, p)) : len * bs ≤ 140737488351232 := by
  obtain ⟨fuel, hf⟩ := h
  rcases gen_size ht hf with h0 | ⟨elems, sp, rfl, hl⟩
  · rw [h0]; omega
  · have := sized_slice hs hj hd ht
    rw [hb, hl, Nat.add_mul] at this
    unfold reachBytes at this
    omega

end Go.Proofs.YtohpibjjlfpaaaaGreatDoor
