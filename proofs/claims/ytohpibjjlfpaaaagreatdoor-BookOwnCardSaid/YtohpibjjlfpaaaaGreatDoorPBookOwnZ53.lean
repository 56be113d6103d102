/- Slices nested in a struct or in a slice's elements are no longer than what a program can reach. -/
import Derived.Test.YtohpibjjlfpaaaaGreatDoorPBookOwnZ1
import Derived.Test.YtohpibjjlfpaaaaGreatDoorPBookOwnZ2
import Derived.Test.YtohpibjjlfpaaaaGreatDoorPBookOwnZ3
import Derived.Test.YtohpibjjlfpaaaaGreatDoorPBookOwnZ4
import Derived.Test.YtohpibjjlfpaaaaGreatDoorPBookOwnZ5
import Derived.Test.YtohpibjjlfpaaaaGreatDoorPBookOwnZ6
import Derived.Test.YtohpibjjlfpaaaaGreatDoorPBookOwnZ9
import Derived.Test.YtohpibjjlfpaaaaGreatDoorPBookOwnZ10
import Derived.Test.YtohpibjjlfpaaaaGreatDoorPBookOwnZ52
import Derived.Test.YtohpibjjlfpaaaaGreatDoorRows
import Derived.BigQuiet
import Derived.ChangeArms
import Derived.DataElems
import Derived.Deep.LoopGhost
import Derived.Deep.QuietTactic
import Derived.Deep.SlicePairs
import Derived.Deep.Slices
import Derived.Deep.Strs
import Derived.Handy
import Derived.Laws.Cover1
import Derived.Lib.Bytealg
import Derived.Lib.Hide
import Derived.OpenShut
import Derived.Outline
import Derived.PlainAid
import Derived.ProofKit
import Derived.RegionTactic
import Derived.Shelf.Abstract
import Derived.SizedLaws
import Derived.Sort.Walk0
import Derived.WalkKit
namespace Go.Proofs.YtohpibjjlfpaaaaGreatDoor
open Go.ChangeShapes Go.WideShapes Go.ChangeAt Go.RowKit
set_option linter.unusedVariables false
set_option maxRecDepth 100000

/-- no weight of the datum is beyond the reach -/
def Light {H : Type} (P : Program) (T : TypeId) (d : DataW H) : Prop := ∀ n ∈ DataW.weights P T d, n ≤ reachBytes
theorem light_param {H : Type} {P : Program} {ts : List TypeId} {ds : List (DataW H)} (hs : (DataW.weightsEach P ts ds).all (· ≤ reachBytes) = true) (j : Nat) {T : TypeId} {d : DataW H} (hj : ts[j]? = some T) (hd : ds[j]? = some d) : Light P T d := fun n hn => by
  simpa using List.all_eq_true.1 hs _ (DataW.weights_mem_each hj hd n hn)
theorem light_part {H : Type} {P : Program} {t : TypeId} {fs : Array Field} {parts : List (DataW H)} (ht : P.underlying t = some (.struct fs)) (hw : Light P t (.agg parts)) (j : Nat) {tj : TypeId} {dj : DataW H} (hf : (fs.toList.map (·.type))[j]? = some tj) (hp : parts[j]? = some dj) : Light P tj dj := fun n hn =>
  hw n (by simp only [DataW.weights, ht]; exact DataW.weights_mem_each hf hp n hn)
theorem weights_all {H : Type} {P : Program} {t : TypeId} {d : DataW H} : ∀ {ds : List (DataW H)}, d ∈ ds → ∀ n ∈ DataW.weights P t d, n ∈ DataW.weightsAll P t ds
  | d0 :: ds, h, n, hn => by
    simp only [DataW.weightsAll, List.mem_append]
    rcases List.mem_cons.1 h with rfl | h
    · exact Or.inl hn
    · exact Or.inr (weights_all h n hn)
theorem light_elem {H : Type} {P : Program} {t e : TypeId} {elems sp : List (DataW H)} {d : DataW H} (ht : P.underlying t = some (.slice e)) (hw : Light P t (.slice elems sp)) (hd : d ∈ elems) : Light P e d := fun n hn =>
  hw n (by simp only [DataW.weights, ht]; exact List.mem_cons_of_mem _ (List.mem_append_left _ (weights_all hd n hn)))
theorem light_len {H : Type} {enc : TypeId × Value → H} {P : Program} {T E : TypeId} {w : World} {base : Nat} {spare : Nat → Bool} {held : Bool} {fuel : Nat} {a : Option Addr} {len cap : Nat} {d : DataW H} {p : List MemPlace}
    (hw : Light P T d) (ht : P.underlying T = some (.slice E)) (bs : Nat) (hb : P.bytesOf E = bs) (h : DataW.trod enc P w base spare held fuel T [.slice a len cap] = some (d, p)) : len * bs ≤ 140737488351232 := by
  rcases gen_size ht h with h0 | ⟨elems, sp, rfl, hl⟩
  · rw [h0]; omega
  · have := hw ((elems.length + sp.length) * P.bytesOf E) (by simp [DataW.weights, ht])
    rw [hb, hl, Nat.add_mul] at this
    unfold reachBytes at this
    omega
/-- the lines of entries that came in -/
theorem ent_reach {H : Type} {enc : TypeId × Value → H} {w : World} {base : Nat} {spare : Nat → Bool} {held : Bool} {fuel : Nat} {X : Option Addr} {m k : Nat} {d : DataW H} {p : List MemPlace} {es : List En}
    (hw : Light Tryz.prog 23 d) (h : DataW.trod enc Tryz.prog w base spare held fuel 23 [.slice X m k] = some (d, p)) (hes : Es w X es) (hl : es.length = m) : ∀ x ∈ es, x.ls.length * 24 ≤ 140737488351232 := by
  intro x hx
  obtain ⟨i, hi, rfl⟩ := List.getElem_of_mem hx
  rw [← ne_eq es i hi]
  rcases DataW.trod_slice Tryz.underlying23 h with ⟨hc, _⟩ | ⟨a, len, cap, elems, rest, n, _, hc, hxx, hb, _, _, hel, hread, _, _⟩
  · simp at hc; omega
  · simp at hc
    obtain ⟨rfl, rfl, rfl⟩ := hc
    injection hxx with hd _
    subst hd
    have hil : i < elems.length := by omega
    have hr := hread i (by omega)
    rw [List.getElem?_eq_getElem hil, Option.bind_eq_some_iff] at hr
    obtain ⟨cs', h1, h2⟩ := hr
    rw [cells_entry] at h1
    obtain ⟨_, hlen, hcell⟩ := World.cells?_some h1
    have hwe := light_elem Tryz.underlying23 hw (List.mem_map_of_mem (f := Prod.fst) (List.getElem_mem hil))
    generalize elems[i] = el at *
    obtain ⟨y0, y1, y2, n2, rfl, _, t0, t1, t2⟩ := Deep.trod_struct3 Tryz.underlying28 h2
    have hw2 := light_part Tryz.underlying28 hwe 2 rfl rfl
    obtain ⟨x', A, q, c, e, hxb, _, c0, c1, c2, hq⟩ := hes.at_ i hi
    injection e with e
    subst e
    match cs', hlen with
    | [v0, v1, v2], _ =>
      simp [cells_lines] at t2
      have g2 := hcell 2 (by omega)
      rw [Addr.add_succ' (a.add (i * 3)) 1] at g2
      have e2 : v2 = .slice A q c := by
        have g3 := g2.symm.trans c2
        simpa using g3
      subst e2
      obtain ⟨dl, pl⟩ := y2
      have := light_len hw2 Tryz.underlying26 24 (by kernel_rfl) t2
      rw [hq.length]; exact this

end Go.Proofs.YtohpibjjlfpaaaaGreatDoor
