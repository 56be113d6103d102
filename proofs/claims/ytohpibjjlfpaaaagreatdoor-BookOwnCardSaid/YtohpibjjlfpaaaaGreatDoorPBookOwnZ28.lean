/- The walk of trial.kinds: what the accounts of each kind come to. -/
import Derived.Test.YtohpibjjlfpaaaaGreatDoorPBookOwnZ1
import Derived.Test.YtohpibjjlfpaaaaGreatDoorPBookOwnZ2
import Derived.Test.YtohpibjjlfpaaaaGreatDoorPBookOwnZ3
import Derived.Test.YtohpibjjlfpaaaaGreatDoorPBookOwnZ4
import Derived.Test.YtohpibjjlfpaaaaGreatDoorPBookOwnZ5
import Derived.Test.YtohpibjjlfpaaaaGreatDoorPBookOwnZ6
import Derived.Test.YtohpibjjlfpaaaaGreatDoorPBookOwnZ9
import Derived.Test.YtohpibjjlfpaaaaGreatDoorPBookOwnZ10
import Derived.Test.YtohpibjjlfpaaaaGreatDoorPBookOwnZ11
import Derived.Test.YtohpibjjlfpaaaaGreatDoorPBookOwnZ12
import Derived.Test.YtohpibjjlfpaaaaGreatDoorPBookOwnZ13
import Derived.Test.YtohpibjjlfpaaaaGreatDoorPBookOwnZ15
import Derived.Test.YtohpibjjlfpaaaaGreatDoorPBookOwnZ19
import Derived.Test.YtohpibjjlfpaaaaGreatDoorPBookOwnZ20
import Derived.Test.YtohpibjjlfpaaaaGreatDoorPBookOwnZ21
import Derived.Test.YtohpibjjlfpaaaaGreatDoorPBookOwnZ22
import Derived.Test.YtohpibjjlfpaaaaGreatDoorPBookOwnZ23
import Derived.Test.YtohpibjjlfpaaaaGreatDoorPBookOwnZ24
import Derived.Test.YtohpibjjlfpaaaaGreatDoorPBookOwnZ25
import Derived.Test.YtohpibjjlfpaaaaGreatDoorPBookOwnZ26
import Derived.Test.YtohpibjjlfpaaaaGreatDoorPBookOwnZ27
import Derived.Test.YtohpibjjlfpaaaaGreatDoorRows
import Derived.BigQuiet
import Derived.BigRegion
import Derived.Carry
import Derived.DataElems
import Derived.Deep.DeepCutAuto
import Derived.Deep.LoopGhost
import Derived.Deep.QuietTactic
import Derived.Deep.RegionHeld3
import Derived.Deep.RegionLaw
import Derived.Deep.RegionWith
import Derived.Deep.SlicePairs
import Derived.Deep.Slices
import Derived.Deep.Strs
import Derived.Handy
import Derived.IntWalk
import Derived.Laws.AppendOwn
import Derived.Laws.CopyOwn
import Derived.Laws.CopyRow
import Derived.Laws.Cover1
import Derived.Laws.Externs
import Derived.Laws.NewBlocks
import Derived.Lib.AppendZerosOnto
import Derived.Lib.Bytealg
import Derived.Lib.Hide
import Derived.Lib.Overlaps
import Derived.Lib.SliceRun
import Derived.Lib.Walk
import Derived.Maps.Own
import Derived.Maps.OwnSet
import Derived.Maps.Views
import Derived.OpenShut
import Derived.Outline
import Derived.OwnWalk
import Derived.PlainAid
import Derived.ProofKit
import Derived.RegionTactic
import Derived.Shelf.Abstract
import Derived.Shelf.RegionOpenPlain
import Derived.Sort.Walk0
import Derived.StringKeys
import Derived.WalkKit
import Derived.WalkSpells
namespace Go.Proofs.YtohpibjjlfpaaaaGreatDoor
open Go.ChangeShapes Go.WideShapes Go.ChangeAt Go.RowKit Go.PlainAid
set_option linter.unusedVariables false
set_option maxRecDepth 100000

theorem Mor.setC {w w' : World} {g i : Nat} {u : Value} (h : Mor w w') (hg : w.heap.size ≤ g) : Mor w (w'.setCell ⟨g, i, none⟩ u) := Mor.of_below (h.below.setCell hg u)
end Go.Proofs.YtohpibjjlfpaaaaGreatDoor

/- Where a book that Post hands back lies when its variable was made ahead of it, or behind it. -/
namespace Go.Proofs.YtohpibjjlfpaaaaGreatDoor
open Go.ChangeShapes Go.WideShapes Go.ChangeAt Go.RowKit Go.PlainAid
set_option linter.unusedVariables false
set_option maxRecDepth 100000

theorem newAt {w : World} {T : TypeId} {cs : Array Value} {g : Nat} (h : w.heap.size = g) : Bk (w.alloc (.cells cs T)) g T cs := by
  subst h; exact Bk.new w T cs
theorem own3 {W : World} {base g n m : Nat} {vA vX a a' a'' z z' z'' : Value} {b : Bok} (h : OwnB W base vA vX n m b) (hb : Bk W g 25 #[z, z', z'']) :
    OwnB (((W.setCell ⟨g, 0, none⟩ a).setCell ⟨g, 1, none⟩ a').setCell ⟨g, 2, none⟩ a'') base vA vX n m b :=
  ((h.setT hb).setT (hb.set_ 0 a)).setT ((hb.set_ 0 a).set_ 1 a')
end Go.Proofs.YtohpibjjlfpaaaaGreatDoor

/- A book that entries are posted to, one after another; the walk of talkeep.made. -/
namespace Go.Proofs.YtohpibjjlfpaaaaGreatDoor
open Go.ChangeShapes Go.WideShapes Go.ChangeAt Go.RowKit Go.PlainAid
set_option linter.unusedVariables false
set_option maxRecDepth 100000

/-- the book behind an entry, be it refused or not -/
def stepb (b : Bok) (x : En) : Bok := if postc b x = 0 then postb b x else b
/-- the book behind entries -/
def madeb (b : Bok) (es : List En) : Bok := es.foldl stepb b
theorem stepb_yes {b : Bok} {x : En} (h : postc b x = 0) : stepb b x = postb b x := by unfold stepb; rw [if_pos h]
theorem stepb_no {b : Bok} {x : En} (h : postc b x ≠ 0) : stepb b x = b := by unfold stepb; rw [if_neg h]
theorem madeb_take (b : Bok) (es : List En) (j : Nat) (hj : j < es.length) : madeb b (es.take (j + 1)) = stepb (madeb b (es.take j)) (ne es j) := by
  unfold madeb
  rw [List.take_succ_eq_append_getElem hj, List.foldl_append, ne_eq _ _ hj]
  rfl
theorem stepb_ac (b : Bok) (x : En) : (stepb b x).ac = b.ac ∧ (stepb b x).shut = b.shut := by
  unfold stepb
  split
  · exact post_ac b x
  · exact ⟨rfl, rfl⟩
theorem madeb_ac (b : Bok) (es : List En) : (madeb b es).ac = b.ac ∧ (madeb b es).shut = b.shut := by
  induction es generalizing b with
  | nil => exact ⟨rfl, rfl⟩
  | cons x xs ih => exact ⟨(ih (stepb b x)).1.trans (stepb_ac b x).1, (ih (stepb b x)).2.trans (stepb_ac b x).2⟩
/-- the book is the one that came in, or one's own -/
def Hld (w : World) (A0 : Option Addr) (n c0 : Nat) (X0 : Option Addr) (m0 k0 : Nat) (b0 : Bok) (A : Option Addr) (c : Nat) (X : Option Addr) (m k : Nat) (b : Bok) : Prop :=
  (A = A0 ∧ c = c0 ∧ X = X0 ∧ m = m0 ∧ k = k0 ∧ b = b0) ∨ ∃ B, OwnB w B (.slice A n c) (.slice X m k) n m b
section
variable {w w' : World} {A0 : Option Addr} {n c0 : Nat} {X0 : Option Addr} {m0 k0 : Nat} {b0 : Bok} {A : Option Addr} {c : Nat} {X : Option Addr} {m k : Nat} {b : Bok}
theorem Hld.start : Hld w A0 n c0 X0 m0 k0 b0 A0 c0 X0 m0 k0 b0 := .inl ⟨rfl, rfl, rfl, rfl, rfl, rfl⟩
theorem Hld.mor (h : Hld w A0 n c0 X0 m0 k0 b0 A c X m k b) (hm : Mor w w') : Hld w' A0 n c0 X0 m0 k0 b0 A c X m k b := by
  rcases h with h | ⟨B, h⟩
  · exact .inl h
  · exact .inr ⟨B, h.mor hm⟩
theorem own_bq {B : Nat} (h : OwnB w B (.slice A n c) (.slice X m k) n m b) : Bq w A n c X m k b := by
  obtain ⟨A', c', X', k', e1, e2, hb⟩ := h.bq
  injection e1 with e1 _ e3
  injection e2 with e4 _ e6
  subst e1 e3 e4 e6
  exact hb
theorem Hld.bq (h : Hld w' A0 n c0 X0 m0 k0 b0 A c X m k b) (hb : Bq w A0 n c0 X0 m0 k0 b0) (hm : Mor w w') : Bq w' A n c X m k b := by
  rcases h with ⟨rfl, rfl, rfl, rfl, rfl, rfl⟩ | ⟨B, h⟩
  · exact hb.mor hm
  · exact own_bq h
theorem Hld.store {g : Nat} {z z' z'' a a' a'' : Value} (h : Hld w A0 n c0 X0 m0 k0 b0 A c X m k b) (hg : Bk w g 25 #[z, z', z'']) :
    Hld (((w.setCell ⟨g, 0, none⟩ a).setCell ⟨g, 1, none⟩ a').setCell ⟨g, 2, none⟩ a'') A0 n c0 X0 m0 k0 b0 A c X m k b := by
  rcases h with h | ⟨B, h⟩
  · exact .inl h
  · exact .inr ⟨B, own3 h hg⟩
theorem Hld.own {B : Nat} (h : OwnB w B (.slice A n c) (.slice X m k) n m b) : Hld w A0 n c0 X0 m0 k0 b0 A c X m k b := .inr ⟨B, h⟩
end
theorem postYes_own {w w' : World} {b : Bok} {e : Ending} {n : Nat} (h : PostYes w b e w') (hn : b.ac.length = n) : ∃ A c X m k, e = .returned (.tuple #[bv A n c X m k b.shut, .int .i64 0]) ∧ OwnB w' w.heap.size (.slice A n c) (.slice X m k) n m b ∧ Mor w w' := by
  obtain ⟨A, n', c, X, m, k, he, hq, ho, hm⟩ := postYes_bq h
  have e : n' = n := by rw [← hq.ac.length, hn]
  subst e
  exact ⟨A, c, X, m, k, he, ho, hm⟩

end Go.Proofs.YtohpibjjlfpaaaaGreatDoor

/- Books that are shut: what posting may still change. -/
namespace Go.Proofs.YtohpibjjlfpaaaaGreatDoor
open Go.ChangeShapes Go.WideShapes Go.ChangeAt Go.RowKit Go.PlainAid
set_option linter.unusedVariables false
set_option maxRecDepth 100000

theorem shut_ok {b : Bok} {d : Int} (h : BOk b) (h1 : 0 ≤ d) (h2 : d ≤ 292193) : BOk (shutb b d) :=
  ⟨h.ac, by show -1 ≤ d; omega, h2, h.len, h.enc, h.known, h.keys, h.sorted⟩
theorem shutc_zero {b : Bok} {d : Int} (h : shutc b d = 0) : bookc b = 0 ∧ 0 ≤ d ∧ d ≤ 292193 ∧ ¬ d < b.shut := by
  unfold shutc at h
  by_cases h1 : bookc b = 0
  · rw [if_neg (by simp [h1])] at h
    by_cases h2 : d < 0 ∨ 292193 < d
    · rw [if_pos h2] at h; omega
    · rw [if_neg h2] at h
      by_cases h3 : d < b.shut
      · rw [if_pos h3] at h; omega
      · exact ⟨h1, by omega, by omega, h3⟩
  · rw [if_pos h1] at h; exact absurd h h1
/-- Shut, where it is refused -/
theorem shut_no (A : Option Addr) (n c : Nat) (X : Option Addr) (m k : Nat) (b : Bok) (day : Int) (w : World) (hb : Bq w A n c X m k b) (hc : shutc b day ≠ 0) :
    Calls Tryz.prog 13 #[bv A n c X m k b.shut, .int .i64 day] w (PostNo w (shutc b day)) := by
  unfold shutc at hc ⊢
  by_cases h1 : bookc b = 0
  · rw [if_neg (by simp [h1])] at hc ⊢
    by_cases h2 : day < 0 ∨ 292193 < day
    · rw [if_pos h2]; exact shut_bad2 A n c X m k b day w hb h1 h2
    · rw [if_neg h2] at hc ⊢
      by_cases h3 : day < b.shut
      · rw [if_pos h3]; exact shut_bad9 A n c X m k b day w hb h1 (by omega) (by omega) h3
      · rw [if_neg h3] at hc; exact absurd rfl hc
  · rw [if_pos h1]; exact shut_bad1 A n c X m k b day w hb h1
theorem stepb_ok {b : Bok} (h : BOk b) (x : En) : BOk (stepb b x) := by
  by_cases hc : postc b x = 0
  · rw [stepb_yes hc]; exact post_ok hc
  · rw [stepb_no hc]; exact h
theorem madeb_ok {b : Bok} (h : BOk b) (es : List En) : BOk (madeb b es) := by
  induction es generalizing b with
  | nil => exact h
  | cons x xs ih => exact ih (stepb_ok h x)
end Go.Proofs.YtohpibjjlfpaaaaGreatDoor

/- Entries posted in whatever order: the same book. -/
namespace Go.Proofs.YtohpibjjlfpaaaaGreatDoor
open Go.ChangeShapes Go.WideShapes Go.ChangeAt Go.RowKit Go.PlainAid
set_option linter.unusedVariables false
set_option maxRecDepth 100000

theorem nodup_le {α : Type} [DecidableEq α] {xs ys : List α} (h : xs.Nodup) (hs : ∀ a ∈ xs, a ∈ ys) : xs.length ≤ ys.length := by
  induction xs generalizing ys with
  | nil => exact Nat.zero_le _
  | cons a xs ih =>
    rw [List.nodup_cons] at h
    have ha := hs a (List.mem_cons_self ..)
    have h2 : ∀ b ∈ xs, b ∈ ys.erase a := fun b hb => (List.mem_erase_of_ne (show b ≠ a from fun e => h.1 (e ▸ hb))).2 (hs b (List.mem_cons_of_mem _ hb))
    have h3 := ih h.2 h2
    rw [List.length_erase_of_mem ha] at h3
    have := List.length_pos_of_mem ha
    simp only [List.length_cons]
    omega
theorem key_inj {es : List En} (h : es.Pairwise fun x y => x.key ≠ y.key) {x y : En} (hx : x ∈ es) (hy : y ∈ es) (hk : x.key = y.key) : x = y := by
  obtain ⟨i, _, h1, h2⟩ := find_mem h hx
  obtain ⟨j, _, h3, h4⟩ := find_mem h hy
  rw [hk, h3] at h1
  have : j = i := by omega
  subst this
  rw [← h2, ← h4]
theorem en_nodup {b : Bok} (h : BOk b) : b.en.Nodup := h.keys.imp fun {a b} hk e => hk (by rw [e])
/-- the entries that were posted -/
def donel (b : Bok) : List En → List En
  | [] => []
  | x :: xs => if postc b x = 0 then x :: donel (postb b x) xs else donel b xs
theorem donel_snoc (b : Bok) (xs : List En) (x : En) : donel b (xs ++ [x]) = donel b xs ++ if postc (madeb b xs) x = 0 then [x] else [] := by
  induction xs generalizing b with
  | nil =>
    show (if postc b x = 0 then x :: [] else []) = [] ++ if postc b x = 0 then [x] else []
    rfl
  | cons y ys ih =>
    show (if postc b y = 0 then y :: donel (postb b y) (ys ++ [x]) else donel b (ys ++ [x])) = (if postc b y = 0 then y :: donel (postb b y) ys else donel b ys) ++ if postc (madeb (stepb b y) ys) x = 0 then [x] else []
    by_cases h : postc b y = 0
    · rw [if_pos h, if_pos h, stepb_yes h, ih]; rfl
    · rw [if_neg h, if_neg h, stepb_no h, ih]
theorem donel_take (b : Bok) (es : List En) (j : Nat) (hj : j < es.length) : donel b (es.take (j + 1)) = donel b (es.take j) ++ if postc (madeb b (es.take j)) (ne es j) = 0 then [ne es j] else [] := by
  rw [List.take_succ_eq_append_getElem hj, donel_snoc, ne_eq _ _ hj]
/-- the book behind the entries that were posted -/
structure OInv (b x : Bok) (d : List En) : Prop where
  ok : BOk x
  ac : x.ac = b.ac
  sh : x.shut = b.shut
  sub : ∀ e ∈ b.en, e ∈ x.en
  din : ∀ e ∈ d, e ∈ x.en ∧ enc e = 0
  new : ∀ e ∈ x.en, e ∈ b.en ∨ (e ∈ d ∧ knownB b.ac e = true ∧ b.shut < e.day)
theorem OInv.start {b : Bok} (h : BOk b) : OInv b b [] := ⟨h, rfl, rfl, fun _ h => h, fun _ h => absurd h (by simp), fun _ h => .inl h⟩
theorem OInv.step {b x : Bok} {d : List En} (h : OInv b x d) {e : En} (hc : postc x e = 0) : OInv b (postb x e) (d ++ [e]) := by
  have hok := post_ok hc
  have hac := post_ac x e
  have he : enc e = 0 := (post_pre hc).2.1
  by_cases hf : 0 ≤ findE x.en e.key
  · obtain ⟨_, _, hin, hp⟩ := post_old hc hf
    rw [hp] at hok ⊢
    refine ⟨hok, h.ac, h.sh, h.sub, fun a ha => ?_, fun a ha => ?_⟩
    · rcases List.mem_append.1 ha with ha | ha
      · exact h.din a ha
      · rw [List.mem_singleton.1 ha]; exact ⟨hin, he⟩
    · rcases h.new a ha with h1 | ⟨h1, h2⟩
      · exact .inl h1
      · exact .inr ⟨List.mem_append.2 (.inl h1), h2⟩
  · obtain ⟨_, _, _, hkn, hd, _, hp⟩ := post_new hc hf
    refine ⟨hok, hac.1.trans h.ac, hac.2.trans h.sh, fun a ha => ?_, fun a ha => ?_, fun a ha => ?_⟩
    · rw [hp]; exact mem_ins.2 (.inr (h.sub a ha))
    · rw [hp]
      rcases List.mem_append.1 ha with ha | ha
      · exact ⟨mem_ins.2 (.inr (h.din a ha).1), (h.din a ha).2⟩
      · rw [List.mem_singleton.1 ha]; exact ⟨mem_ins.2 (.inl rfl), he⟩
    · rw [hp] at ha
      rcases mem_ins.1 ha with ha | ha
      · subst ha; exact .inr ⟨List.mem_append.2 (.inr (List.mem_singleton.2 rfl)), by rw [← h.ac]; exact hkn, by rw [← h.sh]; exact hd⟩
      · rcases h.new a ha with h1 | ⟨h1, h2⟩
        · exact .inl h1
        · exact .inr ⟨List.mem_append.2 (.inl h1), h2⟩
theorem OInv.made {b : Bok} (hb : BOk b) (es : List En) (j : Nat) (hj : j ≤ es.length) : OInv b (madeb b (es.take j)) (donel b (es.take j)) := by
  induction j with
  | zero => rw [List.take_zero]; exact OInv.start hb
  | succ j ih =>
    have h := ih (by omega)
    rw [madeb_take b es j (by omega), donel_take b es j (by omega)]
    by_cases hc : postc (madeb b (es.take j)) (ne es j) = 0
    · rw [stepb_yes hc, if_pos hc]; exact h.step hc
    · rw [stepb_no hc, if_neg hc, List.append_nil]; exact h
/-- a book on its way from b to x -/
structure Way (b x y : Bok) : Prop where
  ok : BOk y
  ac : y.ac = b.ac
  sh : y.shut = b.shut
  sub : ∀ e ∈ b.en, e ∈ y.en
  up : ∀ e ∈ y.en, e ∈ x.en
theorem Way.start {b x : Bok} {d : List En} (hb : BOk b) (h : OInv b x d) : Way b x b := ⟨hb, rfl, rfl, fun _ h => h, h.sub⟩
theorem Way.step {b x y : Bok} {d : List En} (h : OInv b x d) (hw : Way b x y) {e : En} (he : e ∈ d) :
    postc y e = 0 ∧ Way b x (postb y e) ∧ (∀ a ∈ y.en, a ∈ (postb y e).en) ∧ e ∈ (postb y e).en := by
  obtain ⟨hex, hec⟩ := h.din e he
  by_cases hin : e ∈ y.en
  · obtain ⟨h1, h2⟩ := post_again hw.ok hec hin
    rw [h2]; exact ⟨h1, hw, fun _ h => h, hin⟩
  · have hkey : ∀ z ∈ y.en, z.key ≠ e.key := fun z hz hk => hin (key_inj h.ok.keys (hw.up z hz) hex hk ▸ hz)
    have hf : ¬ 0 ≤ findE y.en e.key := by
      rcases findE_cases y.en e.key with ⟨e', _⟩ | ⟨i, hi, _, hk⟩
      · rw [e']; omega
      · exact absurd hk (hkey _ (List.getElem_mem hi))
    have hnew : knownB b.ac e = true ∧ b.shut < e.day := by
      rcases h.new e hex with h1 | ⟨_, h2⟩
      · exact absurd (hw.sub e h1) hin
      · exact h2
    have hlen : y.en.length < 60 := by
      have h1 : (e :: y.en).length ≤ x.en.length := nodup_le (List.nodup_cons.2 ⟨hin, en_nodup hw.ok⟩) (fun a ha => by
        rcases List.mem_cons.1 ha with rfl | ha
        · exact hex
        · exact hw.up a ha)
      have := h.ok.len
      simp only [List.length_cons] at h1
      omega
    have hc : postc y e = 0 := by
      unfold postc
      rw [if_neg (by simp [(bookc_iff y).2 hw.ok]), if_neg (by simp [hec]), if_neg hf, if_neg (by rw [hw.ac, hnew.1]; simp), if_neg (by rw [hw.sh]; omega), if_neg (by omega)]
    have hp : postb y e = { y with en := ins e y.en } := by unfold postb; rw [if_neg hf]
    refine ⟨hc, ⟨post_ok hc, (post_ac y e).1.trans hw.ac, (post_ac y e).2.trans hw.sh, fun a ha => ?_, fun a ha => ?_⟩, fun a ha => ?_, ?_⟩
    · rw [hp]; exact mem_ins.2 (.inr (hw.sub a ha))
    · rw [hp] at ha
      rcases mem_ins.1 ha with rfl | ha
      · exact hex
      · exact hw.up a ha
    · rw [hp]; exact mem_ins.2 (.inr ha)
    · rw [hp]; exact mem_ins.2 (.inl rfl)
end Go.Proofs.YtohpibjjlfpaaaaGreatDoor

/- Entries kept in a slice of the call's own; a book that stays where that slice grows. -/
namespace Go.Proofs.YtohpibjjlfpaaaaGreatDoor
open Go.ChangeShapes Go.WideShapes Go.ChangeAt Go.RowKit Go.PlainAid
set_option linter.unusedVariables false
set_option maxRecDepth 100000

/-- entries kept in a slice of one's own: each one's lines lie where they came from -/
def Dn (w0 w : World) (v : Value) (cnt : Nat) (d : List En) : Prop :=
  ∃ qs, w.ownsRow w0.heap.size 28 3 v cnt (flat ec qs) ∧ qs.length = cnt ∧ d.length = cnt ∧
    ∀ i, i < cnt → (qe qs i).key = (ne d i).key ∧ (qe qs i).day = (ne d i).day ∧ (ne d i).key.size ≤ maxLen ∧ Lq w0 (qe qs i).A (qe qs i).n (qe qs i).c (ne d i).ls
theorem Dn.start (w0 w : World) : Dn w0 w (.slice none 0 0) 0 [] := ⟨[], World.ownsRow_nil _ _ _ _, rfl, rfl, fun i hi => absurd hi (Nat.not_lt_zero _)⟩
theorem Dn.mor {w0 w w' : World} {v : Value} {cnt : Nat} {d : List En} (h : Dn w0 w v cnt d) (hm : Mor w w') : Dn w0 w' v cnt d := by
  obtain ⟨qs, h1, h2⟩ := h
  exact ⟨qs, own_mor h1 hm, h2⟩
theorem Dn.setT {w0 w : World} {v u : Value} {cnt g i : Nat} {d : List En} {cs : Array Value} (h : Dn w0 w v cnt d) (hb : Bk w g 25 cs) : Dn w0 (w.setCell ⟨g, i, none⟩ u) v cnt d := by
  obtain ⟨qs, h1, h2⟩ := h
  exact ⟨qs, own_setT h1 hb (by decide), h2⟩
theorem Dn.es {w0 w : World} {v : Value} {cnt : Nat} {d : List En} (h : Dn w0 w v cnt d) (hm : Mor w0 w) :
    ∃ X k, v = .slice X cnt k ∧ cnt ≤ k ∧ k ≤ maxLen ∧ (X = none → cnt = 0) ∧ Es w X d := by
  obtain ⟨qs, hr, hql, hdl, hen⟩ := h
  have hr2 := hr
  obtain ⟨hlen, hh | ⟨g, cap, cur, rfl, hg, hb, h1, h2, h3, h4⟩⟩ := hr2
  · obtain ⟨rfl, rfl⟩ := hh
    exact ⟨none, 0, rfl, Nat.le_refl _, by unfold maxLen; omega, fun _ => rfl, .inl (List.eq_nil_of_length_eq_zero hdl)⟩
  · refine ⟨_, cap, rfl, h1, h2, (fun h => by cases h), ?_⟩
    by_cases h0 : d = []
    · exact .inl h0
    refine .inr ⟨_, rfl, (Array.getElem?_eq_some_iff.1 hb).1, fun i hi => ?_⟩
    have hi' : i < qs.length := by rw [hql, ← hdl]; exact hi
    obtain ⟨hk, hd, hs, hl⟩ := hen i (by rw [← hdl]; exact hi)
    obtain ⟨b', o', hA', _, hc⟩ := Rd.field 3 ec_len (Rd.own hr) i hi' (by omega)
    injection hA' with hA'
    injection hA' with e1 e2
    subst e1 e2
    have c0 := hc 0 (by omega)
    have c1 := hc 1 (by omega)
    have c2 := hc 2 (by omega)
    have eq1 : qs[i] = qe qs i := (qe_eq qs i hi').symm
    rw [adds]
    refine ⟨hs, (qe qs i).A, (qe qs i).n, (qe qs i).c, ?_, ?_, ?_, hl.mor hm⟩
    · rw [← hk, ← eq1]; simpa [ec] using c0
    · rw [← hd, ← eq1]; simpa [ec] using c1
    · rw [← eq1]; simpa [ec] using c2
theorem Dn.snoc {w0 w' : World} {v' : Value} {cnt : Nat} {d : List En} {qs : List Ev} {ky : ByteArray} {dy : Int} {A : Option Addr} {n c : Nat} {ls : List Ln} (hql : qs.length = cnt) (hdl : d.length = cnt)
    (hen : ∀ i, i < cnt → (qe qs i).key = (ne d i).key ∧ (qe qs i).day = (ne d i).day ∧ (ne d i).key.size ≤ maxLen ∧ Lq w0 (qe qs i).A (qe qs i).n (qe qs i).c (ne d i).ls)
    (hr : w'.ownsRow w0.heap.size 28 3 v' (cnt + 1) (flat ec qs ++ [.string ky, .int .i64 dy, .slice A n c])) (hks : ky.size ≤ maxLen) (hl : Lq w0 A n c ls) : Dn w0 w' v' (cnt + 1) (d ++ [⟨ky, dy, ls⟩]) := by
  refine ⟨qs ++ [⟨ky, dy, A, n, c⟩], by rw [flat_snoc]; exact hr, by rw [List.length_append, hql]; rfl, by rw [List.length_append, hdl]; rfl, fun i hi => ?_⟩
  by_cases e : i < cnt
  · rw [qe_old _ _ _ (by omega), ne_old _ _ _ (by omega)]
    exact hen i e
  · have e : i = cnt := by omega
    subst e
    have h1 : qe (qs ++ [⟨ky, dy, A, n, c⟩]) i = ⟨ky, dy, A, n, c⟩ := by rw [← hql]; exact qe_last _ _
    have h2 : ne (d ++ [⟨ky, dy, ls⟩]) i = ⟨ky, dy, ls⟩ := by rw [← hdl]; exact ne_last _ _
    rw [h1, h2]
    exact ⟨rfl, rfl, hks, hl⟩
end Go.Proofs.YtohpibjjlfpaaaaGreatDoor

/- What closing.Undo hands back. -/
namespace Go.Proofs.YtohpibjjlfpaaaaGreatDoor
open Go.ChangeShapes Go.WideShapes Go.ChangeAt Go.RowKit Go.PlainAid
set_option linter.unusedVariables false
set_option maxRecDepth 100000

/-- the entry that turns another -/
def undoE (b : Bok) (key by' : ByteArray) (day : Int) : En := ⟨by', day, turn (ne b.en (findE b.en key).toNat).ls⟩
/-- what Undo says -/
def undoc (b : Bok) (key by' : ByteArray) (day : Int) : Int :=
  if bookc b ≠ 0 then bookc b else if findE b.en key < 0 then 4 else if keyB by' = false then 3 else if day < 0 ∨ 292193 < day then 1 else postc b (undoE b key by' day)
theorem undoc_zero {b : Bok} {key by' : ByteArray} {day : Int} (h : undoc b key by' day = 0) :
    BOk b ∧ (∃ i : Nat, i < b.en.length ∧ findE b.en key = i ∧ (ne b.en i).key = key ∧ undoE b key by' day = ⟨by', day, turn (ne b.en i).ls⟩) ∧ keyB by' = true ∧ 0 ≤ day ∧ day ≤ 292193 ∧ postc b (undoE b key by' day) = 0 := by
  unfold undoc at h
  by_cases h1 : bookc b = 0
  · rw [if_neg (by simp [h1])] at h
    by_cases h2 : findE b.en key < 0
    · rw [if_pos h2] at h; omega
    · rw [if_neg h2] at h
      cases h3 : keyB by'
      · rw [h3, if_pos rfl] at h; omega
      · rw [h3, if_neg (by simp)] at h
        by_cases h4 : day < 0 ∨ 292193 < day
        · rw [if_pos h4] at h; omega
        · rw [if_neg h4] at h
          refine ⟨(bookc_iff b).1 h1, ?_, rfl, by omega, by omega, h⟩
          rcases findE_cases b.en key with ⟨e, _⟩ | ⟨i, hi, e, hk⟩
          · rw [e] at h2; omega
          · refine ⟨i, hi, e, by rw [ne_eq _ _ hi]; exact hk, ?_⟩
            unfold undoE
            rw [e, show ((i : Int)).toNat = i by omega]
  · rw [if_pos h1] at h; exact absurd h h1

set_option maxRecDepth 100000 in
set_option maxHeartbeats 1600000 in
theorem undo_g (A : Option Addr) (n c : Nat) (X : Option Addr) (m k : Nat) (sh : Int) (key by' : ByteArray) (day : Int) (w : World) (r : Int) (hr : r ≠ 0)
    (hG : ∀ w', Mor w w' → Calls Tryz.prog 11 #[bv A n c X m k sh, .string key] w' (GetNo w' r)) :
    Calls Tryz.prog 15 #[bv A n c X m k sh, .string key, .string by', .int .i64 day] w (PostNo w r) := by
  have HG := Lib.hid hG
  have hrb : (r != 0) = true := by simpa using hr
  clear hG hr
  go_enter Tryz.func15, Tryz.ntmps15
  go_wp2_with fail
  have hM0 := ((Mor.refl w).alloc (o := .cells #[.slice A n c, .slice X m k, .int .i64 sh] 25)).alloc (o := .cells #[.slice none 0 0, .slice none 0 0, .int .i64 0] 25)
  have hP0 := (Bk.new w 25 #[.slice A n c, .slice X m k, .int .i64 sh]).alloc (.cells #[.slice none 0 0, .slice none 0 0, .int .i64 0] 25)
  have hR0 := Bk.new (w.alloc (.cells #[.slice A n c, .slice X m k, .int .i64 sh] 25)) 25 #[.slice none 0 0, .slice none 0 0, .int .i64 0]
  rw [← sz1] at hR0
  obtain ⟨bP, hgP⟩ : ∃ g, g = w.heap.size := ⟨_, rfl⟩
  rw [← hgP] at hP0 hR0 ⊢
  obtain ⟨bR, hgR⟩ : ∃ g, g = bP + 1 := ⟨_, rfl⟩
  rw [← hgR] at hR0 ⊢
  have hwR : w.heap.size ≤ bR := by omega
  clear hgP hgR
  generalize (w.alloc (.cells #[.slice A n c, .slice X m k, .int .i64 sh] 25)).alloc (.cells #[.slice none 0 0, .slice none 0 0, .int .i64 0] 25) = w0 at *
  have HP := Lib.hid (fun w' (h : Mor w0 w') => hP0.mor h)
  have HR := Lib.hid (fun w' (h : Mor w0 w') => hR0.mor h)
  have HM0 := Lib.hid hM0
  clear hP0 hR0 hM0
  have hp := HP.out _ (Mor.refl _)
  have c0 := hp.cell 0
  have c1 := hp.cell 1
  have c2 := hp.cell 2
  have cl := hp.lt
  simp at c0 c1 c2
  clear hp
  refine (HG.out _ HM0.out).mono ?_
  rintro e w1 ⟨rfl, hm⟩
  have HMw := Lib.hid (HM0.out.trans' hm)
  have hr := HR.out _ hm
  have z0 := hr.cell 0
  have z1 := hr.cell 1
  have z2 := hr.cell 2
  have f0 := hr.frozen 0
  have f1 := hr.frozen 1
  have f2 := hr.frozen 2
  have rl := hr.lt
  simp at z0 z1 z2
  have HRb := Lib.hid hr
  clear hr
  clear hm c0 c1 c2 cl
  go_wp2_with fail
  have hb9 := ((HRb.out.set_ 0 (.slice none 0 0)).set_ 1 (.slice none 0 0)).set_ 2 (.int .i64 0)
  simp only [List.setIfInBounds_toArray, List.set_cons_zero, List.set_cons_succ] at hb9
  have hm9 := ((HMw.out.setC (i := 0) (u := .slice none 0 0) hwR).setC (i := 1) (u := .slice none 0 0) hwR).setC (i := 2) (u := .int .i64 0) hwR
  have hb9 := hb9.alloc (.cells #[.string { data := #[] }, .int .i64 0, .slice none 0 0] 28)
  have hm9 := hm9.alloc (o := .cells #[.string { data := #[] }, .int .i64 0, .slice none 0 0] 28)
  generalize (((w1.setCell ⟨bR, 0, none⟩ (.slice none 0 0)).setCell ⟨bR, 1, none⟩ (.slice none 0 0)).setCell ⟨bR, 2, none⟩ (.int .i64 0)).alloc (.cells #[.string { data := #[] }, .int .i64 0, .slice none 0 0] 28) = w9 at *
  have q0 := hb9.cell 0
  have q1 := hb9.cell 1
  have q2 := hb9.cell 2
  simp at q0 q1 q2
  refine bodyPost_ret (by simp [results, Tryz.results15, go_sem, q0, q1, q2]; try rfl) rfl ?_
  exact ⟨rfl, hm9⟩

set_option maxRecDepth 100000 in
set_option maxHeartbeats 1600000 in
theorem undo_t (A : Option Addr) (n c : Nat) (X : Option Addr) (m k : Nat) (sh : Int) (key by' : ByteArray) (day : Int) (w : World) (x : En) (r : Int) (hr : r ≠ 0)
    (hG : ∀ w', Mor w w' → Calls Tryz.prog 11 #[bv A n c X m k sh, .string key] w' (GetYes w' x))
    (hT : ∀ w' A n c, Lq w' A n c x.ls → Calls Tryz.prog 10 #[.agg #[.string x.key, .int .i64 x.day, .slice A n c], .string by', .int .i64 day] w' fun e w'' => e = .returned (.tuple #[.agg #[.string { data := #[] }, .int .i64 0, .slice none 0 0], .int .i64 r]) ∧ Mor w' w'') :
    Calls Tryz.prog 15 #[bv A n c X m k sh, .string key, .string by', .int .i64 day] w (PostNo w r) := by
  have HG := Lib.hid hG
  have HT := Lib.hid hT
  have hrb : (r != 0) = true := by simpa using hr
  clear hG hr hT
  go_enter Tryz.func15, Tryz.ntmps15
  go_wp2_with fail
  have hM0 := ((Mor.refl w).alloc (o := .cells #[.slice A n c, .slice X m k, .int .i64 sh] 25)).alloc (o := .cells #[.slice none 0 0, .slice none 0 0, .int .i64 0] 25)
  have hP0 := (Bk.new w 25 #[.slice A n c, .slice X m k, .int .i64 sh]).alloc (.cells #[.slice none 0 0, .slice none 0 0, .int .i64 0] 25)
  have hR0 := Bk.new (w.alloc (.cells #[.slice A n c, .slice X m k, .int .i64 sh] 25)) 25 #[.slice none 0 0, .slice none 0 0, .int .i64 0]
  rw [← sz1] at hR0
  obtain ⟨bP, hgP⟩ : ∃ g, g = w.heap.size := ⟨_, rfl⟩
  rw [← hgP] at hP0 hR0 ⊢
  obtain ⟨bR, hgR⟩ : ∃ g, g = bP + 1 := ⟨_, rfl⟩
  rw [← hgR] at hR0 ⊢
  have hwR : w.heap.size ≤ bR := by omega
  clear hgP hgR
  generalize (w.alloc (.cells #[.slice A n c, .slice X m k, .int .i64 sh] 25)).alloc (.cells #[.slice none 0 0, .slice none 0 0, .int .i64 0] 25) = w0 at *
  have HP := Lib.hid (fun w' (h : Mor w0 w') => hP0.mor h)
  have HR := Lib.hid (fun w' (h : Mor w0 w') => hR0.mor h)
  have HM0 := Lib.hid hM0
  clear hP0 hR0 hM0
  have hp := HP.out _ (Mor.refl _)
  have c0 := hp.cell 0
  have c1 := hp.cell 1
  have c2 := hp.cell 2
  have cl := hp.lt
  simp at c0 c1 c2
  clear hp
  refine (HG.out _ HM0.out).mono ?_
  rintro e w1 ⟨A1, n1, cc1, rfl, ho1, hm⟩
  have hl1 : Lq w1 A1 n1 cc1 x.ls := ho1.lq
  have HM01 := Lib.hid (hm.alloc (o := .cells #[.string x.key, .int .i64 x.day, .slice A1 n1 cc1] 28))
  have HL1 := Lib.hid (hl1.mor ((Mor.refl w1).alloc (o := .cells #[.string x.key, .int .i64 x.day, .slice A1 n1 cc1] 28)))
  clear hl1 ho1 hm c0 c1 c2 cl
  go_wp2_with fail
  refine (HT.out _ _ _ _ HL1.out).mono ?_
  rintro e w2 ⟨rfl, hm⟩
  have HMw := Lib.hid ((HM0.out.trans' HM01.out).trans' hm)
  have hr := HR.out _ (HM01.out.trans' hm)
  have z0 := hr.cell 0
  have z1 := hr.cell 1
  have z2 := hr.cell 2
  have f0 := hr.frozen 0
  have f1 := hr.frozen 1
  have f2 := hr.frozen 2
  have rl := hr.lt
  simp at z0 z1 z2
  have HRb := Lib.hid hr
  clear hr
  clear hm HL1
  go_wp2_with fail
  have hb9 := ((HRb.out.set_ 0 (.slice none 0 0)).set_ 1 (.slice none 0 0)).set_ 2 (.int .i64 0)
  simp only [List.setIfInBounds_toArray, List.set_cons_zero, List.set_cons_succ] at hb9
  have hm9 := ((HMw.out.setC (i := 0) (u := .slice none 0 0) hwR).setC (i := 1) (u := .slice none 0 0) hwR).setC (i := 2) (u := .int .i64 0) hwR
  have hb9 := hb9.alloc (.cells #[.string { data := #[] }, .int .i64 0, .slice none 0 0] 28)
  have hm9 := hm9.alloc (o := .cells #[.string { data := #[] }, .int .i64 0, .slice none 0 0] 28)
  generalize (((w2.setCell ⟨bR, 0, none⟩ (.slice none 0 0)).setCell ⟨bR, 1, none⟩ (.slice none 0 0)).setCell ⟨bR, 2, none⟩ (.int .i64 0)).alloc (.cells #[.string { data := #[] }, .int .i64 0, .slice none 0 0] 28) = w9 at *
  have q0 := hb9.cell 0
  have q1 := hb9.cell 1
  have q2 := hb9.cell 2
  simp at q0 q1 q2
  refine bodyPost_ret (by simp [results, Tryz.results15, go_sem, q0, q1, q2]; try rfl) rfl ?_
  exact ⟨rfl, hm9⟩

set_option maxRecDepth 100000 in
set_option maxHeartbeats 1600000 in
theorem undo_pn (A : Option Addr) (n c : Nat) (X : Option Addr) (m k : Nat) (sh : Int) (key by' : ByteArray) (day : Int) (w : World) (x : En) (r : Int)
    (hG : ∀ w', Mor w w' → Calls Tryz.prog 11 #[bv A n c X m k sh, .string key] w' (GetYes w' x))
    (hT : ∀ w' A n c, Lq w' A n c x.ls → Calls Tryz.prog 10 #[.agg #[.string x.key, .int .i64 x.day, .slice A n c], .string by', .int .i64 day] w' fun e w'' => ∃ A n c, e = .returned (.tuple #[.agg #[.string by', .int .i64 day, .slice A n c], .int .i64 0]) ∧ Lq w'' A n c (turn x.ls) ∧ Mor w' w'')
    (hP : ∀ w' B p q, Mor w w' → Lq w' B p q (turn x.ls) → Calls Tryz.prog 12 #[bv A n c X m k sh, .agg #[.string by', .int .i64 day, .slice B p q]] w' (PostNo w' r)) :
    Calls Tryz.prog 15 #[bv A n c X m k sh, .string key, .string by', .int .i64 day] w (PostNo w r) := by
  have HG := Lib.hid hG
  have HT := Lib.hid hT
  have HPo := Lib.hid hP
  clear hG hT hP
  go_enter Tryz.func15, Tryz.ntmps15
  go_wp2_with fail
  have hM0 := ((Mor.refl w).alloc (o := .cells #[.slice A n c, .slice X m k, .int .i64 sh] 25)).alloc (o := .cells #[.slice none 0 0, .slice none 0 0, .int .i64 0] 25)
  have hP0 := (Bk.new w 25 #[.slice A n c, .slice X m k, .int .i64 sh]).alloc (.cells #[.slice none 0 0, .slice none 0 0, .int .i64 0] 25)
  have hR0 := Bk.new (w.alloc (.cells #[.slice A n c, .slice X m k, .int .i64 sh] 25)) 25 #[.slice none 0 0, .slice none 0 0, .int .i64 0]
  rw [← sz1] at hR0
  obtain ⟨bP, hgP⟩ : ∃ g, g = w.heap.size := ⟨_, rfl⟩
  rw [← hgP] at hP0 hR0 ⊢
  obtain ⟨bR, hgR⟩ : ∃ g, g = bP + 1 := ⟨_, rfl⟩
  rw [← hgR] at hR0 ⊢
  have hwR : w.heap.size ≤ bR := by omega
  clear hgP hgR
  generalize (w.alloc (.cells #[.slice A n c, .slice X m k, .int .i64 sh] 25)).alloc (.cells #[.slice none 0 0, .slice none 0 0, .int .i64 0] 25) = w0 at *
  have HP := Lib.hid (fun w' (h : Mor w0 w') => hP0.mor h)
  have HR := Lib.hid (fun w' (h : Mor w0 w') => hR0.mor h)
  have HM0 := Lib.hid hM0
  clear hP0 hR0 hM0
  have hp := HP.out _ (Mor.refl _)
  have c0 := hp.cell 0
  have c1 := hp.cell 1
  have c2 := hp.cell 2
  have cl := hp.lt
  simp at c0 c1 c2
  clear hp
  refine (HG.out _ HM0.out).mono ?_
  rintro e w1 ⟨A1, n1, cc1, rfl, ho1, hm⟩
  have hl1 : Lq w1 A1 n1 cc1 x.ls := ho1.lq
  have HM01 := Lib.hid (hm.alloc (o := .cells #[.string x.key, .int .i64 x.day, .slice A1 n1 cc1] 28))
  have HL1 := Lib.hid (hl1.mor ((Mor.refl w1).alloc (o := .cells #[.string x.key, .int .i64 x.day, .slice A1 n1 cc1] 28)))
  clear hl1 ho1 hm c0 c1 c2 cl
  go_wp2_with fail
  refine (HT.out _ _ _ _ HL1.out).mono ?_
  rintro e w2 ⟨A2, n2, cc2, rfl, hl2, hm⟩
  have HM02 := Lib.hid ((HM01.out.trans' hm).alloc (o := .cells #[.string by', .int .i64 day, .slice A2 n2 cc2] 28))
  have HL2 := Lib.hid (hl2.mor ((Mor.refl w2).alloc (o := .cells #[.string by', .int .i64 day, .slice A2 n2 cc2] 28)))
  have hp := HP.out _ (HM01.out.trans' hm)
  have c0 := hp.cell 0
  have c1 := hp.cell 1
  have c2 := hp.cell 2
  have cl := hp.lt
  simp at c0 c1 c2
  clear hp
  clear hl2 hm HL1
  go_wp2_with fail
  refine (HPo.out _ _ _ _ (HM0.out.trans' HM02.out) HL2.out).mono ?_
  rintro e w3 ⟨rfl, hm⟩
  have HMw := Lib.hid ((HM0.out.trans' HM02.out).trans' hm)
  have hr := HR.out _ (HM02.out.trans' hm)
  have z0 := hr.cell 0
  have z1 := hr.cell 1
  have z2 := hr.cell 2
  have f0 := hr.frozen 0
  have f1 := hr.frozen 1
  have f2 := hr.frozen 2
  have rl := hr.lt
  simp at z0 z1 z2
  have HRb := Lib.hid hr
  clear hr
  clear hm HL2 c0 c1 c2 cl
  go_wp2_with fail
  have hb9 := ((HRb.out.set_ 0 (.slice none 0 0)).set_ 1 (.slice none 0 0)).set_ 2 (.int .i64 0)
  simp only [List.setIfInBounds_toArray, List.set_cons_zero, List.set_cons_succ] at hb9
  have hm9 := ((HMw.out.setC (i := 0) (u := .slice none 0 0) hwR).setC (i := 1) (u := .slice none 0 0) hwR).setC (i := 2) (u := .int .i64 0) hwR
  generalize ((w3.setCell ⟨bR, 0, none⟩ (.slice none 0 0)).setCell ⟨bR, 1, none⟩ (.slice none 0 0)).setCell ⟨bR, 2, none⟩ (.int .i64 0) = w9 at *
  have q0 := hb9.cell 0
  have q1 := hb9.cell 1
  have q2 := hb9.cell 2
  simp at q0 q1 q2
  refine bodyPost_ret (by simp [results, Tryz.results15, go_sem, q0, q1, q2]; try rfl) rfl ?_
  exact ⟨rfl, hm9⟩

set_option maxRecDepth 100000 in
set_option maxHeartbeats 1600000 in
theorem undo_py (A : Option Addr) (n c : Nat) (X : Option Addr) (m k : Nat) (sh : Int) (key by' : ByteArray) (day : Int) (w : World) (x : En) (y : Bok)
    (hG : ∀ w', Mor w w' → Calls Tryz.prog 11 #[bv A n c X m k sh, .string key] w' (GetYes w' x))
    (hT : ∀ w' A n c, Lq w' A n c x.ls → Calls Tryz.prog 10 #[.agg #[.string x.key, .int .i64 x.day, .slice A n c], .string by', .int .i64 day] w' fun e w'' => ∃ A n c, e = .returned (.tuple #[.agg #[.string by', .int .i64 day, .slice A n c], .int .i64 0]) ∧ Lq w'' A n c (turn x.ls) ∧ Mor w' w'')
    (hP : ∀ w' B p q, Mor w w' → Lq w' B p q (turn x.ls) → Calls Tryz.prog 12 #[bv A n c X m k sh, .agg #[.string by', .int .i64 day, .slice B p q]] w' (PostYes w' y)) :
    Calls Tryz.prog 15 #[bv A n c X m k sh, .string key, .string by', .int .i64 day] w (PostYes w y) := by
  have HG := Lib.hid hG
  have HT := Lib.hid hT
  have HPo := Lib.hid hP
  clear hG hT hP
  go_enter Tryz.func15, Tryz.ntmps15
  go_wp2_with fail
  have hM0 := ((Mor.refl w).alloc (o := .cells #[.slice A n c, .slice X m k, .int .i64 sh] 25)).alloc (o := .cells #[.slice none 0 0, .slice none 0 0, .int .i64 0] 25)
  have hP0 := (Bk.new w 25 #[.slice A n c, .slice X m k, .int .i64 sh]).alloc (.cells #[.slice none 0 0, .slice none 0 0, .int .i64 0] 25)
  have hR0 := Bk.new (w.alloc (.cells #[.slice A n c, .slice X m k, .int .i64 sh] 25)) 25 #[.slice none 0 0, .slice none 0 0, .int .i64 0]
  rw [← sz1] at hR0
  obtain ⟨bP, hgP⟩ : ∃ g, g = w.heap.size := ⟨_, rfl⟩
  rw [← hgP] at hP0 hR0 ⊢
  obtain ⟨bR, hgR⟩ : ∃ g, g = bP + 1 := ⟨_, rfl⟩
  rw [← hgR] at hR0 ⊢
  have hwR : w.heap.size ≤ bR := by omega
  clear hgP hgR
  generalize (w.alloc (.cells #[.slice A n c, .slice X m k, .int .i64 sh] 25)).alloc (.cells #[.slice none 0 0, .slice none 0 0, .int .i64 0] 25) = w0 at *
  have HP := Lib.hid (fun w' (h : Mor w0 w') => hP0.mor h)
  have HR := Lib.hid (fun w' (h : Mor w0 w') => hR0.mor h)
  have HM0 := Lib.hid hM0
  clear hP0 hR0 hM0
  have hp := HP.out _ (Mor.refl _)
  have c0 := hp.cell 0
  have c1 := hp.cell 1
  have c2 := hp.cell 2
  have cl := hp.lt
  simp at c0 c1 c2
  clear hp
  refine (HG.out _ HM0.out).mono ?_
  rintro e w1 ⟨A1, n1, cc1, rfl, ho1, hm⟩
  have hl1 : Lq w1 A1 n1 cc1 x.ls := ho1.lq
  have HM01 := Lib.hid (hm.alloc (o := .cells #[.string x.key, .int .i64 x.day, .slice A1 n1 cc1] 28))
  have HL1 := Lib.hid (hl1.mor ((Mor.refl w1).alloc (o := .cells #[.string x.key, .int .i64 x.day, .slice A1 n1 cc1] 28)))
  clear hl1 ho1 hm c0 c1 c2 cl
  go_wp2_with fail
  refine (HT.out _ _ _ _ HL1.out).mono ?_
  rintro e w2 ⟨A2, n2, cc2, rfl, hl2, hm⟩
  have HM02 := Lib.hid ((HM01.out.trans' hm).alloc (o := .cells #[.string by', .int .i64 day, .slice A2 n2 cc2] 28))
  have HL2 := Lib.hid (hl2.mor ((Mor.refl w2).alloc (o := .cells #[.string by', .int .i64 day, .slice A2 n2 cc2] 28)))
  have hp := HP.out _ (HM01.out.trans' hm)
  have c0 := hp.cell 0
  have c1 := hp.cell 1
  have c2 := hp.cell 2
  have cl := hp.lt
  simp at c0 c1 c2
  clear hp
  clear hl2 hm HL1
  go_wp2_with fail
  refine (HPo.out _ _ _ _ (HM0.out.trans' HM02.out) HL2.out).mono ?_
  rintro e w3 ⟨A3, n3, cc3, X3, m3, k3, rfl, ho3, hm⟩
  have HO3 := Lib.hid ho3
  have HMw := Lib.hid ((HM0.out.trans' HM02.out).trans' hm)
  have HSz := Lib.hid (show w.heap.size ≤ _ from (HM0.out.trans' HM02.out).below.size)
  have hr := HR.out _ (HM02.out.trans' hm)
  have z0 := hr.cell 0
  have z1 := hr.cell 1
  have z2 := hr.cell 2
  have f0 := hr.frozen 0
  have f1 := hr.frozen 1
  have f2 := hr.frozen 2
  have rl := hr.lt
  simp at z0 z1 z2
  have HRb := Lib.hid hr
  clear hr
  clear hm HL2 c0 c1 c2 cl ho3
  go_wp2_with fail
  have hb9 := ((HRb.out.set_ 0 (.slice A3 n3 cc3)).set_ 1 (.slice X3 m3 k3)).set_ 2 (.int .i64 y.shut)
  simp only [List.setIfInBounds_toArray, List.set_cons_zero, List.set_cons_succ] at hb9
  have hm9 := ((HMw.out.setC (i := 0) (u := .slice A3 n3 cc3) hwR).setC (i := 1) (u := .slice X3 m3 k3) hwR).setC (i := 2) (u := .int .i64 y.shut) hwR
  have ho9 := (own3 (a := .slice A3 n3 cc3) (a' := .slice X3 m3 k3) (a'' := .int .i64 y.shut) HO3.out HRb.out).base HSz.out
  generalize ((w3.setCell ⟨bR, 0, none⟩ (.slice A3 n3 cc3)).setCell ⟨bR, 1, none⟩ (.slice X3 m3 k3)).setCell ⟨bR, 2, none⟩ (.int .i64 y.shut) = w9 at *
  have q0 := hb9.cell 0
  have q1 := hb9.cell 1
  have q2 := hb9.cell 2
  simp at q0 q1 q2
  refine bodyPost_ret (by simp [results, Tryz.results15, go_sem, q0, q1, q2]; try rfl) rfl ?_
  exact ⟨A3, n3, cc3, X3, m3, k3, rfl, ho9, hm9⟩

end Go.Proofs.YtohpibjjlfpaaaaGreatDoor

/- closing.Undo, be it refused or not; what it does to balances. -/
namespace Go.Proofs.YtohpibjjlfpaaaaGreatDoor
open Go.ChangeShapes Go.WideShapes Go.ChangeAt Go.RowKit Go.PlainAid
set_option linter.unusedVariables false
set_option maxRecDepth 100000

theorem key_max {w : World} {A : Option Addr} {n c : Nat} {X : Option Addr} {m k : Nat} {b : Bok} (hb : Bq w A n c X m k b) {i : Nat} (hi : i < b.en.length) : (ne b.en i).key.size ≤ maxLen := by
  obtain ⟨_, _, _, _, _, _, h, _⟩ := hb.es.at_ i hi
  exact h
theorem turned_yes (x : En) (by' : ByteArray) (day : Int) (hks : x.key.size ≤ maxLen) (hy : by'.size ≤ maxLen) (he : enc x = 0) (hkb : keyB by' = true) (d0 : 0 ≤ day) (d9 : day ≤ 292193) (w : World) (A : Option Addr) (n c : Nat) (hl : Lq w A n c x.ls) :
    Calls Tryz.prog 10 #[.agg #[.string x.key, .int .i64 x.day, .slice A n c], .string by', .int .i64 day] w fun e w' => ∃ A n c, e = .returned (.tuple #[.agg #[.string by', .int .i64 day, .slice A n c], .int .i64 0]) ∧ Lq w' A n c (turn x.ls) ∧ Mor w w' := by
  obtain ⟨h12, -⟩ := en_lines he
  refine (turned_ok x.key x.day A n c x.ls by' day w hks hl.si hl.length hl.le (Nat.le_trans hl.le hl.max) hl.str hy he hkb d0 d9 (by rw [← hl.length]; exact h12)).mono fun e w' h => ?_
  obtain ⟨A2, c2, h1, h2, h3⟩ := h
  exact ⟨A2, n, c2, h1, h2, h3⟩
theorem turned_bad (x : En) (by' : ByteArray) (day : Int) (r : Int) (hr : r ≠ 0) (hks : x.key.size ≤ maxLen) (hy : by'.size ≤ maxLen) (hc : turnc x.key x.day x.ls by' day = r) (w : World) (A : Option Addr) (n c : Nat) (hl : Lq w A n c x.ls) :
    Calls Tryz.prog 10 #[.agg #[.string x.key, .int .i64 x.day, .slice A n c], .string by', .int .i64 day] w fun e w' => e = .returned (.tuple #[.agg #[.string { data := #[] }, .int .i64 0, .slice none 0 0], .int .i64 r]) ∧ Mor w w' := by
  subst hc
  exact turned_no x.key x.day A n c x.ls by' day w hks hl.si hl.length hl.le (Nat.le_trans hl.le hl.max) hl.str hy hr
theorem undo_no (A : Option Addr) (n c : Nat) (X : Option Addr) (m k : Nat) (b : Bok) (key by' : ByteArray) (day : Int) (w : World) (hb : Bq w A n c X m k b) (hy : by'.size ≤ maxLen) (hc : undoc b key by' day ≠ 0) :
    Calls Tryz.prog 15 #[bv A n c X m k b.shut, .string key, .string by', .int .i64 day] w (PostNo w (undoc b key by' day)) := by
  unfold undoc at hc ⊢
  by_cases h1 : bookc b = 0
  · rw [if_neg (by simp [h1])] at hc ⊢
    by_cases h2 : findE b.en key < 0
    · rw [if_pos h2]
      exact undo_g A n c X m k b.shut key by' day w 4 (by omega) fun w' h => get_bad4 A n c X m k b key w' (hb.mor h) h1 h2
    · rw [if_neg h2] at hc ⊢
      have hbo := (bookc_iff b).1 h1
      obtain ⟨i, hi, hf, hk⟩ : ∃ i : Nat, i < b.en.length ∧ findE b.en key = i ∧ (ne b.en i).key = key := by
        rcases findE_cases b.en key with ⟨e, _⟩ | ⟨i, hi, e, hk⟩
        · rw [e] at h2; omega
        · exact ⟨i, hi, e, by rw [ne_eq _ _ hi]; exact hk⟩
      have hG : ∀ w', Mor w w' → Calls Tryz.prog 11 #[bv A n c X m k b.shut, .string key] w' (GetYes w' (ne b.en i)) := fun w' h => get_yes A n c X m k b key w' (hb.mor h) h1 i (by rw [← hb.length]; exact hi) hf
      have he : enc (ne b.en i) = 0 := by rw [ne_eq _ _ hi]; exact hbo.enc _ (List.getElem_mem hi)
      have hks := key_max hb hi
      have hent : entc (ne b.en i).key (ne b.en i).day (ne b.en i).ls = 0 := he
      have hu : undoE b key by' day = ⟨by', day, turn (ne b.en i).ls⟩ := by unfold undoE; rw [hf, show ((i : Int)).toNat = i by omega]
      cases h3 : keyB by'
      · rw [if_pos rfl]
        exact undo_t A n c X m k b.shut key by' day w (ne b.en i) 3 (by omega) hG (turned_bad _ by' day 3 (by omega) hks hy (by unfold turnc; rw [if_neg (by simp [hent]), if_pos h3]))
      · rw [h3] at hc
        rw [if_neg (by simp)] at hc ⊢
        by_cases h4 : day < 0 ∨ 292193 < day
        · rw [if_pos h4]
          exact undo_t A n c X m k b.shut key by' day w (ne b.en i) 1 (by omega) hG (turned_bad _ by' day 1 (by omega) hks hy (by unfold turnc; rw [if_neg (by simp [hent]), if_neg (by simp [h3]), if_pos h4]))
        · rw [if_neg h4] at hc ⊢
          rw [hu] at hc ⊢
          exact undo_pn A n c X m k b.shut key by' day w (ne b.en i) _ hG (turned_yes _ by' day hks hy he h3 (by omega) (by omega)) fun w' B p q h hl => post_no A n c X m k b ⟨by', day, turn (ne b.en i).ls⟩ B p q w' (hb.mor h) hl hy hc
  · rw [if_pos h1]
    exact undo_g A n c X m k b.shut key by' day w _ h1 fun w' h => get_bad1 A n c X m k b key w' (hb.mor h) h1
theorem undo_yes (A : Option Addr) (n c : Nat) (X : Option Addr) (m k : Nat) (b : Bok) (key by' : ByteArray) (day : Int) (w : World) (hb : Bq w A n c X m k b) (hy : by'.size ≤ maxLen) (hc : undoc b key by' day = 0) :
    Calls Tryz.prog 15 #[bv A n c X m k b.shut, .string key, .string by', .int .i64 day] w (PostYes w (postb b (undoE b key by' day))) := by
  obtain ⟨hbo, ⟨i, hi, hf, hk, hu⟩, h3, d0, d9, hp⟩ := undoc_zero hc
  have h1 := (bookc_iff b).2 hbo
  have he : enc (ne b.en i) = 0 := by rw [ne_eq _ _ hi]; exact hbo.enc _ (List.getElem_mem hi)
  have hks := key_max hb hi
  rw [hu] at hp ⊢
  exact undo_py A n c X m k b.shut key by' day w (ne b.en i) _ (fun w' h => get_yes A n c X m k b key w' (hb.mor h) h1 i (by rw [← hb.length]; exact hi) hf) (turned_yes _ by' day hks hy he h3 d0 d9) fun w' B p q h hl => post_yes A n c X m k b ⟨by', day, turn (ne b.en i).ls⟩ B p q w' (hb.mor h) hl hy hp

end Go.Proofs.YtohpibjjlfpaaaaGreatDoor

/- Contracts that hold whether the call is refused or not. -/
namespace Go.Proofs.YtohpibjjlfpaaaaGreatDoor
open Go.ChangeShapes Go.WideShapes Go.ChangeAt Go.RowKit Go.PlainAid
set_option linter.unusedVariables false
set_option maxRecDepth 100000

/-- the book that comes with a refusal -/
def zeroB : Bok := ⟨[], [], 0⟩
theorem own_zero (w : World) (base : Nat) : OwnB w base (.slice none 0 0) (.slice none 0 0) 0 0 zeroB :=
  ⟨World.ownsRow_nil _ _ _ _, rfl, fun i hi => absurd hi (Nat.not_lt_zero _), [], World.ownsRow_nil _ _ _ _, rfl, rfl, fun i hi => absurd hi (Nat.not_lt_zero _)⟩
def PostAny (w : World) (y : Bok) (r : Int) (e : Ending) (w' : World) : Prop :=
  ∃ A n c X m k, e = .returned (.tuple #[bv A n c X m k y.shut, .int .i64 r]) ∧ OwnB w' w.heap.size (.slice A n c) (.slice X m k) n m y ∧ Mor w w'
theorem any_no {w w' : World} {r : Int} {e : Ending} (h : PostNo w r e w') : PostAny w zeroB r e w' :=
  ⟨none, 0, 0, none, 0, 0, h.1, own_zero _ _, h.2⟩
theorem any_yes {w w' : World} {y : Bok} {e : Ending} (h : PostYes w y e w') : PostAny w y 0 e w' := h
def undob (b : Bok) (key by' : ByteArray) (day : Int) : Bok := if undoc b key by' day = 0 then postb b (undoE b key by' day) else zeroB
theorem undo_any (A : Option Addr) (n c : Nat) (X : Option Addr) (m k : Nat) (b : Bok) (key by' : ByteArray) (day : Int) (w : World) (hb : Bq w A n c X m k b) (hy : by'.size ≤ maxLen) :
    Calls Tryz.prog 15 #[bv A n c X m k b.shut, .string key, .string by', .int .i64 day] w (PostAny w (undob b key by' day) (undoc b key by' day)) := by
  unfold undob
  by_cases hc : undoc b key by' day = 0
  · rw [if_pos hc, hc]
    exact (undo_yes A n c X m k b key by' day w hb hy hc).mono fun e w' h => any_yes h
  · rw [if_neg hc]
    exact (undo_no A n c X m k b key by' day w hb hy hc).mono fun e w' h => any_no h
end Go.Proofs.YtohpibjjlfpaaaaGreatDoor

/- What closing.Close makes, in plain Lean. -/
namespace Go.Proofs.YtohpibjjlfpaaaaGreatDoor
open Go.ChangeShapes Go.WideShapes Go.ChangeAt Go.RowKit Go.PlainAid
set_option linter.unusedVariables false
set_option maxRecDepth 100000

/-- is the account one of Income or of Expense? -/
def earns (a : Ln) : Prop := a.2 = 3 ∨ a.2 = 4
instance (a : Ln) : Decidable (earns a) := by unfold earns; infer_instance
def clf (b : Bok) (day : Int) (a : Ln) : List Ln := if ofS b.en a.1 0 day ≠ 0 ∧ earns a then [(a.1, -ofS b.en a.1 0 day)] else []
def clg (b : Bok) (day : Int) (a : Ln) : Int := if earns a then ofS b.en a.1 0 day else 0
def cll (b : Bok) (day : Int) (acs : List Ln) : List Ln := acs.flatMap (clf b day)
def cls (b : Bok) (day : Int) (acs : List Ln) : Int := sm (clg b day) acs
def closeE (b : Bok) (key : ByteArray) (day : Int) (code : ByteArray) : En := ⟨key, day, cll b day b.ac ++ if cls b day b.ac ≠ 0 then [(code, cls b day b.ac)] else []⟩
/-- what Close says -/
def closec (b : Bok) (key : ByteArray) (day : Int) (code : ByteArray) : Int :=
  if bookc b ≠ 0 then bookc b else if day < 0 ∨ 292193 < day then 1 else if findA b.ac code < 0 then 4 else if am b.ac (findA b.ac code).toNat ≠ 2 then 3 else
  if cll b day b.ac = [] then 4 else if postc b (closeE b key day code) ≠ 0 then postc b (closeE b key day code) else shutc (postb b (closeE b key day code)) day
def closeb (b : Bok) (key : ByteArray) (day : Int) (code : ByteArray) : Bok := if closec b key day code = 0 then shutb (postb b (closeE b key day code)) day else zeroB
theorem findA_cases (ac : List Ln) (s : ByteArray) : findA ac s < 0 ∨ ∃ i : Nat, i < ac.length ∧ findA ac s = i ∧ cd ac i = s := by
  unfold findA
  rcases fidx_spec (fun i => decide (cd ac i = s)) ac.length 0 with ⟨e, hn⟩ | ⟨k, e, h1, h2, h3, h4⟩
  · left; rw [e]; omega
  · right; exact ⟨k, by omega, e, by simpa using h3⟩
theorem closec_zero {b : Bok} {key : ByteArray} {day : Int} {code : ByteArray} (h : closec b key day code = 0) :
    BOk b ∧ 0 ≤ day ∧ day ≤ 292193 ∧ (∃ i : Nat, i < b.ac.length ∧ findA b.ac code = i ∧ cd b.ac i = code ∧ am b.ac i = 2) ∧ cll b day b.ac ≠ [] ∧ postc b (closeE b key day code) = 0 ∧ shutc (postb b (closeE b key day code)) day = 0 := by
  unfold closec at h
  by_cases h1 : bookc b = 0
  · rw [if_neg (by simp [h1])] at h
    by_cases h2 : day < 0 ∨ 292193 < day
    · rw [if_pos h2] at h; omega
    · rw [if_neg h2] at h
      rcases findA_cases b.ac code with h3 | ⟨i, hi, h3, h4⟩
      · rw [if_pos h3] at h; omega
      · rw [if_neg (by omega), h3, show ((i : Int)).toNat = i by omega] at h
        by_cases h5 : am b.ac i = 2
        · rw [if_neg (by simp [h5])] at h
          by_cases h6 : cll b day b.ac = []
          · rw [if_pos h6] at h; omega
          · rw [if_neg h6] at h
            by_cases h7 : postc b (closeE b key day code) = 0
            · rw [if_neg (by simp [h7])] at h
              exact ⟨(bookc_iff b).1 h1, by omega, by omega, ⟨i, hi, h3, h4, h5⟩, h6, h7, h⟩
            · rw [if_pos h7] at h; exact absurd h h7
        · rw [if_pos h5] at h; omega
  · rw [if_pos h1] at h; exact absurd h h1
theorem cll_take (b : Bok) (day : Int) (ac : List Ln) (k : Nat) (h : k < ac.length) : cll b day (ac.take (k + 1)) = cll b day (ac.take k) ++ clf b day ac[k] := by
  unfold cll
  rw [List.take_succ_eq_append_getElem h, List.flatMap_append]
  simp
theorem cls_take (b : Bok) (day : Int) (ac : List Ln) (k : Nat) (h : k < ac.length) : cls b day (ac.take (k + 1)) = cls b day (ac.take k) + clg b day ac[k] := by
  unfold cls; rw [sm_take _ _ _ h]
theorem cll_len (b : Bok) (day : Int) (ac : List Ln) : (cll b day ac).length ≤ ac.length := by
  induction ac with
  | nil => exact Nat.le_refl _
  | cons a ac ih =>
    show (clf b day a ++ cll b day ac).length ≤ (a :: ac).length
    rw [List.length_append, List.length_cons]
    have : (clf b day a).length ≤ 1 := by unfold clf; split <;> simp
    omega
/-- whose lines these are -/
theorem cll_mem {b : Bok} {day : Int} {ac : List Ln} {l : Ln} (h : l ∈ cll b day ac) : ∃ a ∈ ac, earns a ∧ l = (a.1, -ofS b.en a.1 0 day) := by
  unfold cll at h
  obtain ⟨a, ha, hl⟩ := List.mem_flatMap.1 h
  unfold clf at hl
  by_cases hc : ofS b.en a.1 0 day ≠ 0 ∧ earns a
  · rw [if_pos hc] at hl; exact ⟨a, ha, hc.2, List.mem_singleton.1 hl⟩
  · rw [if_neg hc] at hl; cases hl
end Go.Proofs.YtohpibjjlfpaaaaGreatDoor

/- The walks of acct.Kind and closing.Close. -/
namespace Go.Proofs.YtohpibjjlfpaaaaGreatDoor
open Go.ChangeShapes Go.WideShapes Go.ChangeAt Go.RowKit Go.PlainAid
set_option linter.unusedVariables false
set_option maxRecDepth 100000

set_option maxHeartbeats 1600000 in
theorem kind_no (A : Option Addr) (n c : Nat) (ac : List Ln) (s : ByteArray) (w : World) (hl : Lq w A n c ac) (ha : acc ac = 0) (hf : findA ac s < 0) :
    Calls Tryz.prog 50 #[.slice A n c, .string s] w fun e w' => e = .returned (.tuple #[.int .i64 0, .int .i64 4]) ∧ Mor w w' := by
  have hn24 : n ≤ 24 := by rw [← hl.length]; exact (acc_ok ha).1
  have HC := Lib.hid (fun w' (h : Mor w w') => acct_any A n c ac w' (hl.si.mor h) hl.length (Nat.le_trans hl.le hl.max) hl.str)
  have HF := Lib.hid (fun w' (h : Mor w w') => find_ac A n c ac s w' (hl.si.mor h) hl.length (by omega))
  rw [ha] at HC
  generalize findA ac s = i at *
  clear hl ha
  go_enter Tryz.func50, Tryz.ntmps50
  go_wp2_with fail
  refine (HC.out _ (Mor.refl _)).mono ?_
  rintro e w1 ⟨rfl, hm⟩
  have HM1 := Lib.hid hm
  clear hm
  go_wp2_with fail
  refine (HF.out _ HM1.out).mono ?_
  rintro e w2 ⟨rfl, hm⟩
  have HM2 := Lib.hid (HM1.out.trans' hm)
  clear hm
  go_wp2_with fail
  go_returns
  exact ⟨rfl, HM2.out⟩

set_option maxHeartbeats 1600000 in
theorem kind_yes (A : Option Addr) (n c : Nat) (ac : List Ln) (s : ByteArray) (w : World) (hl : Lq w A n c ac) (ha : acc ac = 0) (i : Nat) (hi : i < ac.length) (hf : findA ac s = i) :
    Calls Tryz.prog 50 #[.slice A n c, .string s] w fun e w' => e = .returned (.tuple #[.int .i64 (am ac i), .int .i64 0]) ∧ Mor w w' := by
  have hn24 : n ≤ 24 := by rw [← hl.length]; exact (acc_ok ha).1
  have HC := Lib.hid (fun w' (h : Mor w w') => acct_any A n c ac w' (hl.si.mor h) hl.length (Nat.le_trans hl.le hl.max) hl.str)
  have HF := Lib.hid (fun w' (h : Mor w w') => find_ac A n c ac s w' (hl.si.mor h) hl.length (by omega))
  rw [ha] at HC
  rw [hf] at HF
  have hin : (i : Int) < (n : Int) := by rw [hl.length] at hi; omega
  have hi0 : (0 : Int) ≤ (i : Int) := by omega
  have HL := Lib.hid (fun w' (h : Mor w w') => (hl.si.mor h).at_ i hi)
  clear hl ha hf
  go_enter Tryz.func50, Tryz.ntmps50
  go_wp2_with fail
  refine (HC.out _ (Mor.refl _)).mono ?_
  rintro e w1 ⟨rfl, hm⟩
  have HM1 := Lib.hid hm
  clear hm
  go_wp2_with fail
  refine (HF.out _ HM1.out).mono ?_
  rintro e w2 ⟨rfl, hm⟩
  have HM2 := Lib.hid (HM1.out.trans' hm)
  obtain ⟨x, hA, hxb, d0, d1⟩ := HL.out _ HM2.out
  subst hA
  clear hm
  go_wp2_with fail
  go_returns
  exact ⟨rfl, HM2.out⟩

set_option maxRecDepth 100000 in
set_option maxHeartbeats 3200000 in
theorem close_1 (A : Option Addr) (n c : Nat) (X : Option Addr) (m k : Nat) (b : Bok) (key : ByteArray) (day : Int) (code : ByteArray) (w : World) (hb : Bq w A n c X m k b) (hc : bookc b ≠ 0) :
    Calls Tryz.prog 14 #[bv A n c X m k b.shut, .string key, .int .i64 day, .string code] w (PostNo w (bookc b)) := by
  have HCk := Lib.hid (fun w' (hm : Mor w w') => bcheck_any A n c X m k b w' (hb.mor hm))
  generalize bookc b = r at *
  generalize b.shut = sh at *
  have hrb : (r != 0) = true := by simpa using hc
  clear hb hc
  go_enter Tryz.func14, Tryz.ntmps14
  go_wp2_with fail
  have hM0 := ((Mor.refl w).alloc (o := .cells #[.slice A n c, .slice X m k, .int .i64 sh] 25)).alloc (o := .cells #[.slice none 0 0, .slice none 0 0, .int .i64 0] 25)
  have hP0 := (Bk.new w 25 #[.slice A n c, .slice X m k, .int .i64 sh]).alloc (.cells #[.slice none 0 0, .slice none 0 0, .int .i64 0] 25)
  have hR0 := Bk.new (w.alloc (.cells #[.slice A n c, .slice X m k, .int .i64 sh] 25)) 25 #[.slice none 0 0, .slice none 0 0, .int .i64 0]
  rw [← sz1] at hR0
  obtain ⟨bP, hgP⟩ : ∃ g, g = w.heap.size := ⟨_, rfl⟩
  rw [← hgP] at hP0 hR0 ⊢
  obtain ⟨bR, hgR⟩ : ∃ g, g = bP + 1 := ⟨_, rfl⟩
  rw [← hgR] at hR0 ⊢
  have hwR : w.heap.size ≤ bR := by omega
  have hPR : bP < bR := by omega
  clear hgP hgR
  generalize (w.alloc (.cells #[.slice A n c, .slice X m k, .int .i64 sh] 25)).alloc (.cells #[.slice none 0 0, .slice none 0 0, .int .i64 0] 25) = w0 at *
  have HP := Lib.hid (fun w' (h : Mor w0 w') => hP0.mor h)
  have HR := Lib.hid (fun w' (h : Mor w0 w') => hR0.mor h)
  have HM0 := Lib.hid hM0
  clear hP0 hR0 hM0
  have hp := HP.out _ (Mor.refl _)
  have c0 := hp.cell 0
  have c1 := hp.cell 1
  have c2 := hp.cell 2
  have cl := hp.lt
  simp at c0 c1 c2
  clear hp
  refine (HCk.out _ HM0.out).mono ?_
  rintro e w1 ⟨rfl, hm⟩
  have HMw := Lib.hid (HM0.out.trans' hm)
  have hr := HR.out _ hm
  have z0 := hr.cell 0
  have z1 := hr.cell 1
  have z2 := hr.cell 2
  have f0 := hr.frozen 0
  have f1 := hr.frozen 1
  have f2 := hr.frozen 2
  have rl := hr.lt
  simp at z0 z1 z2
  have HRb := Lib.hid hr
  clear hr
  clear hm c0 c1 c2 cl
  go_wp2_with fail
  have hb9 := ((HRb.out.set_ 0 (.slice none 0 0)).set_ 1 (.slice none 0 0)).set_ 2 (.int .i64 0)
  simp only [List.setIfInBounds_toArray, List.set_cons_zero, List.set_cons_succ] at hb9
  have hm9 := ((HMw.out.setC (i := 0) (u := .slice none 0 0) hwR).setC (i := 1) (u := .slice none 0 0) hwR).setC (i := 2) (u := .int .i64 0) hwR
  generalize ((w1.setCell ⟨bR, 0, none⟩ (.slice none 0 0)).setCell ⟨bR, 1, none⟩ (.slice none 0 0)).setCell ⟨bR, 2, none⟩ (.int .i64 0) = w9 at *
  have q0 := hb9.cell 0
  have q1 := hb9.cell 1
  have q2 := hb9.cell 2
  simp at q0 q1 q2
  refine bodyPost_ret (by simp [results, Tryz.results14, go_sem, q0, q1, q2]; try rfl) rfl ?_
  exact ⟨rfl, hm9⟩

set_option maxRecDepth 100000 in
set_option maxHeartbeats 3200000 in
theorem close_2 (A : Option Addr) (n c : Nat) (X : Option Addr) (m k : Nat) (b : Bok) (key : ByteArray) (day : Int) (code : ByteArray) (w : World) (hb : Bq w A n c X m k b) (hc : bookc b = 0) (hd : day < 0 ∨ 292193 < day) :
    Calls Tryz.prog 14 #[bv A n c X m k b.shut, .string key, .int .i64 day, .string code] w (PostNo w 1) := by
  have HCk := Lib.hid (fun w' (hm : Mor w w') => bcheck_any A n c X m k b w' (hb.mor hm))
  rw [hc] at HCk
  have HD := Lib.hid (fun w => cis_any day w)
  rw [show (decide (0 ≤ day) && decide (day ≤ 292193)) = false by simp; omega] at HD
  generalize b.shut = sh at *
  clear hb hc hd
  go_enter Tryz.func14, Tryz.ntmps14
  go_wp2_with fail
  have hM0 := ((Mor.refl w).alloc (o := .cells #[.slice A n c, .slice X m k, .int .i64 sh] 25)).alloc (o := .cells #[.slice none 0 0, .slice none 0 0, .int .i64 0] 25)
  have hP0 := (Bk.new w 25 #[.slice A n c, .slice X m k, .int .i64 sh]).alloc (.cells #[.slice none 0 0, .slice none 0 0, .int .i64 0] 25)
  have hR0 := Bk.new (w.alloc (.cells #[.slice A n c, .slice X m k, .int .i64 sh] 25)) 25 #[.slice none 0 0, .slice none 0 0, .int .i64 0]
  rw [← sz1] at hR0
  obtain ⟨bP, hgP⟩ : ∃ g, g = w.heap.size := ⟨_, rfl⟩
  rw [← hgP] at hP0 hR0 ⊢
  obtain ⟨bR, hgR⟩ : ∃ g, g = bP + 1 := ⟨_, rfl⟩
  rw [← hgR] at hR0 ⊢
  have hwR : w.heap.size ≤ bR := by omega
  have hPR : bP < bR := by omega
  clear hgP hgR
  generalize (w.alloc (.cells #[.slice A n c, .slice X m k, .int .i64 sh] 25)).alloc (.cells #[.slice none 0 0, .slice none 0 0, .int .i64 0] 25) = w0 at *
  have HP := Lib.hid (fun w' (h : Mor w0 w') => hP0.mor h)
  have HR := Lib.hid (fun w' (h : Mor w0 w') => hR0.mor h)
  have HM0 := Lib.hid hM0
  clear hP0 hR0 hM0
  have hp := HP.out _ (Mor.refl _)
  have c0 := hp.cell 0
  have c1 := hp.cell 1
  have c2 := hp.cell 2
  have cl := hp.lt
  simp at c0 c1 c2
  clear hp
  refine (HCk.out _ HM0.out).mono ?_
  rintro e w1 ⟨rfl, hm⟩
  have HMw := Lib.hid (HM0.out.trans' hm)
  have hr := HR.out _ hm
  have z0 := hr.cell 0
  have z1 := hr.cell 1
  have z2 := hr.cell 2
  have f0 := hr.frozen 0
  have f1 := hr.frozen 1
  have f2 := hr.frozen 2
  have rl := hr.lt
  simp at z0 z1 z2
  have HRb := Lib.hid hr
  clear hr
  clear hm c0 c1 c2 cl
  go_wp2_with (go_at_call 42; (with_reducible refine (HD.out _).mono ?_); rintro e w5 ⟨rfl, rfl⟩)
  have hb9 := ((HRb.out.set_ 0 (.slice none 0 0)).set_ 1 (.slice none 0 0)).set_ 2 (.int .i64 0)
  simp only [List.setIfInBounds_toArray, List.set_cons_zero, List.set_cons_succ] at hb9
  have hm9 := ((HMw.out.setC (i := 0) (u := .slice none 0 0) hwR).setC (i := 1) (u := .slice none 0 0) hwR).setC (i := 2) (u := .int .i64 0) hwR
  generalize ((w1.setCell ⟨bR, 0, none⟩ (.slice none 0 0)).setCell ⟨bR, 1, none⟩ (.slice none 0 0)).setCell ⟨bR, 2, none⟩ (.int .i64 0) = w9 at *
  have q0 := hb9.cell 0
  have q1 := hb9.cell 1
  have q2 := hb9.cell 2
  simp at q0 q1 q2
  refine bodyPost_ret (by simp [results, Tryz.results14, go_sem, q0, q1, q2]; try rfl) rfl ?_
  exact ⟨rfl, hm9⟩

set_option maxRecDepth 100000 in
set_option maxHeartbeats 3200000 in
theorem close_3 (A : Option Addr) (n c : Nat) (X : Option Addr) (m k : Nat) (b : Bok) (key : ByteArray) (day : Int) (code : ByteArray) (w : World) (hb : Bq w A n c X m k b) (hc : bookc b = 0) (hd : ¬ (day < 0 ∨ 292193 < day)) (hf : findA b.ac code < 0) :
    Calls Tryz.prog 14 #[bv A n c X m k b.shut, .string key, .int .i64 day, .string code] w (PostNo w 4) := by
  have HCk := Lib.hid (fun w' (hm : Mor w w') => bcheck_any A n c X m k b w' (hb.mor hm))
  rw [hc] at HCk
  have HD := Lib.hid (fun w => cis_any day w)
  rw [show (decide (0 ≤ day) && decide (day ≤ 292193)) = true by simp; omega] at HD
  have HK := Lib.hid (fun w' (hm : Mor w w') => kind_no A n c b.ac code w' (hb.ac.mor hm) ((bookc_iff b).1 hc).ac hf)
  generalize b.shut = sh at *
  clear hb hc hd hf
  go_enter Tryz.func14, Tryz.ntmps14
  go_wp2_with fail
  have hM0 := ((Mor.refl w).alloc (o := .cells #[.slice A n c, .slice X m k, .int .i64 sh] 25)).alloc (o := .cells #[.slice none 0 0, .slice none 0 0, .int .i64 0] 25)
  have hP0 := (Bk.new w 25 #[.slice A n c, .slice X m k, .int .i64 sh]).alloc (.cells #[.slice none 0 0, .slice none 0 0, .int .i64 0] 25)
  have hR0 := Bk.new (w.alloc (.cells #[.slice A n c, .slice X m k, .int .i64 sh] 25)) 25 #[.slice none 0 0, .slice none 0 0, .int .i64 0]
  rw [← sz1] at hR0
  obtain ⟨bP, hgP⟩ : ∃ g, g = w.heap.size := ⟨_, rfl⟩
  rw [← hgP] at hP0 hR0 ⊢
  obtain ⟨bR, hgR⟩ : ∃ g, g = bP + 1 := ⟨_, rfl⟩
  rw [← hgR] at hR0 ⊢
  have hwR : w.heap.size ≤ bR := by omega
  have hPR : bP < bR := by omega
  clear hgP hgR
  generalize (w.alloc (.cells #[.slice A n c, .slice X m k, .int .i64 sh] 25)).alloc (.cells #[.slice none 0 0, .slice none 0 0, .int .i64 0] 25) = w0 at *
  have HP := Lib.hid (fun w' (h : Mor w0 w') => hP0.mor h)
  have HR := Lib.hid (fun w' (h : Mor w0 w') => hR0.mor h)
  have HM0 := Lib.hid hM0
  clear hP0 hR0 hM0
  have hp := HP.out _ (Mor.refl _)
  have c0 := hp.cell 0
  have c1 := hp.cell 1
  have c2 := hp.cell 2
  have cl := hp.lt
  simp at c0 c1 c2
  clear hp
  refine (HCk.out _ HM0.out).mono ?_
  rintro e w1 ⟨rfl, hm⟩
  have HM1 := Lib.hid (HM0.out.trans' hm)
  have HM01 := Lib.hid hm
  clear c0 c1 c2 cl
  have hp := HP.out _ hm
  have c0 := hp.cell 0
  have c1 := hp.cell 1
  have c2 := hp.cell 2
  have cl := hp.lt
  simp at c0 c1 c2
  clear hp
  clear hm
  go_wp2_with (go_at_call 42; (with_reducible refine (HD.out _).mono ?_); rintro e w5 ⟨rfl, rfl⟩)
  refine (HK.out _ HM1.out).mono ?_
  rintro e w2 ⟨rfl, hm⟩
  have HMw := Lib.hid (HM1.out.trans' hm)
  have hr := HR.out _ (HM01.out.trans' hm)
  have z0 := hr.cell 0
  have z1 := hr.cell 1
  have z2 := hr.cell 2
  have f0 := hr.frozen 0
  have f1 := hr.frozen 1
  have f2 := hr.frozen 2
  have rl := hr.lt
  simp at z0 z1 z2
  have HRb := Lib.hid hr
  clear hr
  clear hm c0 c1 c2 cl
  go_wp2_with fail
  have hb9 := ((HRb.out.set_ 0 (.slice none 0 0)).set_ 1 (.slice none 0 0)).set_ 2 (.int .i64 0)
  simp only [List.setIfInBounds_toArray, List.set_cons_zero, List.set_cons_succ] at hb9
  have hm9 := ((HMw.out.setC (i := 0) (u := .slice none 0 0) hwR).setC (i := 1) (u := .slice none 0 0) hwR).setC (i := 2) (u := .int .i64 0) hwR
  generalize ((w2.setCell ⟨bR, 0, none⟩ (.slice none 0 0)).setCell ⟨bR, 1, none⟩ (.slice none 0 0)).setCell ⟨bR, 2, none⟩ (.int .i64 0) = w9 at *
  have q0 := hb9.cell 0
  have q1 := hb9.cell 1
  have q2 := hb9.cell 2
  simp at q0 q1 q2
  refine bodyPost_ret (by simp [results, Tryz.results14, go_sem, q0, q1, q2]; try rfl) rfl ?_
  exact ⟨rfl, hm9⟩

set_option maxRecDepth 100000 in
set_option maxHeartbeats 3200000 in
theorem close_4 (A : Option Addr) (n c : Nat) (X : Option Addr) (m k : Nat) (b : Bok) (key : ByteArray) (day : Int) (code : ByteArray) (w : World) (hb : Bq w A n c X m k b) (hc : bookc b = 0) (hd : ¬ (day < 0 ∨ 292193 < day)) (i : Nat) (hi : i < b.ac.length) (hf : findA b.ac code = i) (h2 : am b.ac i ≠ 2) :
    Calls Tryz.prog 14 #[bv A n c X m k b.shut, .string key, .int .i64 day, .string code] w (PostNo w 3) := by
  have HCk := Lib.hid (fun w' (hm : Mor w w') => bcheck_any A n c X m k b w' (hb.mor hm))
  rw [hc] at HCk
  have HD := Lib.hid (fun w => cis_any day w)
  rw [show (decide (0 ≤ day) && decide (day ≤ 292193)) = true by simp; omega] at HD
  have HK := Lib.hid (fun w' (hm : Mor w w') => kind_yes A n c b.ac code w' (hb.ac.mor hm) ((bookc_iff b).1 hc).ac i hi hf)
  generalize b.shut = sh at *
  have h2b : (am b.ac i != 2) = true := by simpa using h2
  generalize am b.ac i = kd at *
  clear hb hc hd hf h2
  go_enter Tryz.func14, Tryz.ntmps14
  go_wp2_with fail
  have hM0 := ((Mor.refl w).alloc (o := .cells #[.slice A n c, .slice X m k, .int .i64 sh] 25)).alloc (o := .cells #[.slice none 0 0, .slice none 0 0, .int .i64 0] 25)
  have hP0 := (Bk.new w 25 #[.slice A n c, .slice X m k, .int .i64 sh]).alloc (.cells #[.slice none 0 0, .slice none 0 0, .int .i64 0] 25)
  have hR0 := Bk.new (w.alloc (.cells #[.slice A n c, .slice X m k, .int .i64 sh] 25)) 25 #[.slice none 0 0, .slice none 0 0, .int .i64 0]
  rw [← sz1] at hR0
  obtain ⟨bP, hgP⟩ : ∃ g, g = w.heap.size := ⟨_, rfl⟩
  rw [← hgP] at hP0 hR0 ⊢
  obtain ⟨bR, hgR⟩ : ∃ g, g = bP + 1 := ⟨_, rfl⟩
  rw [← hgR] at hR0 ⊢
  have hwR : w.heap.size ≤ bR := by omega
  have hPR : bP < bR := by omega
  clear hgP hgR
  generalize (w.alloc (.cells #[.slice A n c, .slice X m k, .int .i64 sh] 25)).alloc (.cells #[.slice none 0 0, .slice none 0 0, .int .i64 0] 25) = w0 at *
  have HP := Lib.hid (fun w' (h : Mor w0 w') => hP0.mor h)
  have HR := Lib.hid (fun w' (h : Mor w0 w') => hR0.mor h)
  have HM0 := Lib.hid hM0
  clear hP0 hR0 hM0
  have hp := HP.out _ (Mor.refl _)
  have c0 := hp.cell 0
  have c1 := hp.cell 1
  have c2 := hp.cell 2
  have cl := hp.lt
  simp at c0 c1 c2
  clear hp
  refine (HCk.out _ HM0.out).mono ?_
  rintro e w1 ⟨rfl, hm⟩
  have HM1 := Lib.hid (HM0.out.trans' hm)
  have HM01 := Lib.hid hm
  clear c0 c1 c2 cl
  have hp := HP.out _ hm
  have c0 := hp.cell 0
  have c1 := hp.cell 1
  have c2 := hp.cell 2
  have cl := hp.lt
  simp at c0 c1 c2
  clear hp
  clear hm
  go_wp2_with (go_at_call 42; (with_reducible refine (HD.out _).mono ?_); rintro e w5 ⟨rfl, rfl⟩)
  refine (HK.out _ HM1.out).mono ?_
  rintro e w2 ⟨rfl, hm⟩
  have HMw := Lib.hid (HM1.out.trans' hm)
  have hr := HR.out _ (HM01.out.trans' hm)
  have z0 := hr.cell 0
  have z1 := hr.cell 1
  have z2 := hr.cell 2
  have f0 := hr.frozen 0
  have f1 := hr.frozen 1
  have f2 := hr.frozen 2
  have rl := hr.lt
  simp at z0 z1 z2
  have HRb := Lib.hid hr
  clear hr
  clear hm c0 c1 c2 cl
  go_wp2_with fail
  have hb9 := ((HRb.out.set_ 0 (.slice none 0 0)).set_ 1 (.slice none 0 0)).set_ 2 (.int .i64 0)
  simp only [List.setIfInBounds_toArray, List.set_cons_zero, List.set_cons_succ] at hb9
  have hm9 := ((HMw.out.setC (i := 0) (u := .slice none 0 0) hwR).setC (i := 1) (u := .slice none 0 0) hwR).setC (i := 2) (u := .int .i64 0) hwR
  generalize ((w2.setCell ⟨bR, 0, none⟩ (.slice none 0 0)).setCell ⟨bR, 1, none⟩ (.slice none 0 0)).setCell ⟨bR, 2, none⟩ (.int .i64 0) = w9 at *
  have q0 := hb9.cell 0
  have q1 := hb9.cell 1
  have q2 := hb9.cell 2
  simp at q0 q1 q2
  refine bodyPost_ret (by simp [results, Tryz.results14, go_sem, q0, q1, q2]; try rfl) rfl ?_
  exact ⟨rfl, hm9⟩

set_option maxRecDepth 100000 in
set_option maxHeartbeats 3200000 in
theorem close_go (A : Option Addr) (n c : Nat) (X : Option Addr) (m k : Nat) (b : Bok) (key : ByteArray) (day : Int) (code : ByteArray) (w : World) (hb : Bq w A n c X m k b) (hks : key.size ≤ maxLen) (hcs : code.size ≤ maxLen) (hc : bookc b = 0) (hd : ¬ (day < 0 ∨ 292193 < day)) (i : Nat) (hi : i < b.ac.length) (hf : findA b.ac code = i) (h2 : am b.ac i = 2) (hr5 : closec b key day code = if cll b day b.ac = [] then 4 else if postc b (closeE b key day code) ≠ 0 then postc b (closeE b key day code) else shutc (postb b (closeE b key day code)) day) :
    Calls Tryz.prog 14 #[bv A n c X m k b.shut, .string key, .int .i64 day, .string code] w (PostAny w (closeb b key day code) (closec b key day code)) := by
  have HCk := Lib.hid (fun w' (hm : Mor w w') => bcheck_any A n c X m k b w' (hb.mor hm))
  rw [hc] at HCk
  have HD := Lib.hid (fun w => cis_any day w)
  rw [show (decide (0 ≤ day) && decide (day ≤ 292193)) = true by simp; omega] at HD
  have HK := Lib.hid (fun w' (hm : Mor w w') => kind_yes A n c b.ac code w' (hb.ac.mor hm) ((bookc_iff b).1 hc).ac i hi hf)
  rw [h2] at HK
  have hbo := (bookc_iff b).1 hc
  have hn24 : n ≤ 24 := by rw [← hb.ac.length]; exact (acc_ok hbo.ac).1
  obtain ⟨i0, hi0, hz0, hz1, hz2⟩ := info_parts info_line
  have HOf := Lib.hid (fun w' (hm : Mor w w') s => of_any A n c X m k b.shut b.en s 0 day w' (hb.es.mor hm) hb.length (by rw [← hb.length]; exact hbo.len) hbo.enc)
  have HAc := Lib.hid (fun w' (hm : Mor w w') => hb.ac.mor hm)
  have HN := Lib.hid hb.ac.length
  have HBd := Lib.hid (fun j (hj : j ≤ n) => show -720000000000000 * (j : Int) ≤ cls b day (b.ac.take j) ∧ cls b day (b.ac.take j) ≤ 720000000000000 * j by
    have := sm_bd (f := clg b day) (M := 720000000000000) (xs := b.ac.take j) (fun a _ => by
      unfold clg
      have := ofS_bd hbo.enc hbo.len a.1 0 day
      split <;> omega)
    rw [show (b.ac.take j).length = j by rw [List.length_take, hb.ac.length]; omega] at this
    unfold cls
    omega)
  have HOb := Lib.hid (fun s => ofS_bd hbo.enc hbo.len s 0 day)
  have HTl := Lib.hid (fun j (hj : j < n) => show cll b day (b.ac.take (j + 1)) = cll b day (b.ac.take j) ++ (if ofS b.en (cd b.ac j) 0 day ≠ 0 ∧ (am b.ac j = 3 ∨ am b.ac j = 4) then [(cd b.ac j, -ofS b.en (cd b.ac j) 0 day)] else []) by
    have hj' : j < b.ac.length := by rw [hb.ac.length]; exact hj
    rw [cll_take b day b.ac j hj', (cd_at b.ac j hj').1, (cd_at b.ac j hj').2]; rfl)
  have HTs := Lib.hid (fun j (hj : j < n) => show cls b day (b.ac.take (j + 1)) = cls b day (b.ac.take j) + (if am b.ac j = 3 ∨ am b.ac j = 4 then ofS b.en (cd b.ac j) 0 day else 0) by
    have hj' : j < b.ac.length := by rw [hb.ac.length]; exact hj
    rw [cls_take b day b.ac j hj', (cd_at b.ac j hj').1, (cd_at b.ac j hj').2]; rfl)
  have HLl := Lib.hid (fun j (hj : j ≤ n) => show (cll b day (b.ac.take j)).length ≤ j from Nat.le_trans (cll_len b day _) (by rw [List.length_take]; omega))
  have HStr := Lib.hid (fun l (h : l ∈ cll b day b.ac) => show l.1.size ≤ maxLen by
    obtain ⟨a, ha, _, rfl⟩ := cll_mem h
    obtain ⟨j, hj, rfl⟩ := List.mem_iff_getElem.1 ha
    have := hb.ac.str j (by rw [← hb.ac.length]; exact hj)
    rw [(cd_at b.ac j hj).1] at this
    exact this)
  have HAll := Lib.hid (show b.ac.take n = b.ac from List.take_of_length_le (by rw [hb.ac.length]; exact Nat.le_refl _))
  have HPo := Lib.hid (fun w' (hm : Mor w w') Y p q (hl : Lq w' Y p q (closeE b key day code).ls) (hc0 : postc b (closeE b key day code) = 0) => show Calls Tryz.prog 12 #[bv A n c X m k b.shut, .agg #[.string key, .int .i64 day, .slice Y p q]] w' (PostYes w' (postb b (closeE b key day code))) from post_yes A n c X m k b (closeE b key day code) Y p q w' (hb.mor hm) hl hks hc0)
  have HPn := Lib.hid (fun w' (hm : Mor w w') Y p q (hl : Lq w' Y p q (closeE b key day code).ls) (hc0 : postc b (closeE b key day code) ≠ 0) => show Calls Tryz.prog 12 #[bv A n c X m k b.shut, .agg #[.string key, .int .i64 day, .slice Y p q]] w' (PostNo w' (postc b (closeE b key day code))) from post_no A n c X m k b (closeE b key day code) Y p q w' (hb.mor hm) hl hks hc0)
  have HSs := Lib.hid (show (postb b (closeE b key day code)).shut = b.shut from (post_ac b (closeE b key day code)).2)
  have HSy := Lib.hid (fun w' A n c X m k (hq : Bq w' A n c X m k (postb b (closeE b key day code))) (h0 : shutc (postb b (closeE b key day code)) day = 0) => show Calls Tryz.prog 13 #[bv A n c X m k b.shut, .int .i64 day] w' (PostYes w' (shutb (postb b (closeE b key day code)) day)) by
    obtain ⟨g1, g2, g3, g4⟩ := shutc_zero h0
    have h := shut_yes A n c X m k _ day w' hq g1 g2 g3 g4
    rw [HSs.out] at h
    exact h)
  have HSn := Lib.hid (fun w' A n c X m k (hq : Bq w' A n c X m k (postb b (closeE b key day code))) (h0 : shutc (postb b (closeE b key day code)) day ≠ 0) => show Calls Tryz.prog 13 #[bv A n c X m k b.shut, .int .i64 day] w' (PostNo w' (shutc (postb b (closeE b key day code)) day)) by
    have h := shut_no A n c X m k _ day w' hq h0
    rw [HSs.out] at h
    exact h)
  have HXl := Lib.hid (show (closeE b key day code).ls = cll b day b.ac ++ (if cls b day b.ac ≠ 0 then [(code, cls b day b.ac)] else []) from rfl)
  have HR5 := Lib.hid hr5
  have HCs := Lib.hid hcs
  generalize hsh : b.shut = sh at *
  clear hb hc hf h2 hr5 hbo hsh hi hcs hks
  go_enter Tryz.func14, Tryz.ntmps14
  go_wp2_with fail
  have hM0 := ((Mor.refl w).alloc (o := .cells #[.slice A n c, .slice X m k, .int .i64 sh] 25)).alloc (o := .cells #[.slice none 0 0, .slice none 0 0, .int .i64 0] 25)
  have hP0 := (Bk.new w 25 #[.slice A n c, .slice X m k, .int .i64 sh]).alloc (.cells #[.slice none 0 0, .slice none 0 0, .int .i64 0] 25)
  have hR0 := Bk.new (w.alloc (.cells #[.slice A n c, .slice X m k, .int .i64 sh] 25)) 25 #[.slice none 0 0, .slice none 0 0, .int .i64 0]
  rw [← sz1] at hR0
  obtain ⟨bP, hgP⟩ : ∃ g, g = w.heap.size := ⟨_, rfl⟩
  rw [← hgP] at hP0 hR0 ⊢
  obtain ⟨bR, hgR⟩ : ∃ g, g = bP + 1 := ⟨_, rfl⟩
  rw [← hgR] at hR0 ⊢
  have hwR : w.heap.size ≤ bR := by omega
  have hPR : bP < bR := by omega
  clear hgP hgR
  generalize (w.alloc (.cells #[.slice A n c, .slice X m k, .int .i64 sh] 25)).alloc (.cells #[.slice none 0 0, .slice none 0 0, .int .i64 0] 25) = w0 at *
  have HP := Lib.hid (fun w' (h : Mor w0 w') => hP0.mor h)
  have HR := Lib.hid (fun w' (h : Mor w0 w') => hR0.mor h)
  have HM0 := Lib.hid hM0
  clear hP0 hR0 hM0
  have hp := HP.out _ (Mor.refl _)
  have c0 := hp.cell 0
  have c1 := hp.cell 1
  have c2 := hp.cell 2
  have cl := hp.lt
  simp at c0 c1 c2
  clear hp
  refine (HCk.out _ HM0.out).mono ?_
  rintro e w1 ⟨rfl, hm⟩
  have HM1 := Lib.hid (HM0.out.trans' hm)
  have HM01 := Lib.hid hm
  clear c0 c1 c2 cl
  have hp := HP.out _ hm
  have c0 := hp.cell 0
  have c1 := hp.cell 1
  have c2 := hp.cell 2
  have cl := hp.lt
  simp at c0 c1 c2
  clear hp
  clear hm
  go_wp2_with (go_at_call 42; (with_reducible refine (HD.out _).mono ?_); rintro e w5 ⟨rfl, rfl⟩)
  refine (HK.out _ HM1.out).mono ?_
  rintro e w2 ⟨rfl, hm⟩
  have HM2 := Lib.hid (HM1.out.trans' hm)
  have HM02 := Lib.hid (HM01.out.trans' hm)
  clear c0 c1 c2 cl
  have hp := HP.out _ HM02.out
  have c0 := hp.cell 0
  have c1 := hp.cell 1
  have c2 := hp.cell 2
  have cl := hp.lt
  simp at c0 c1 c2
  clear hp
  clear hm HCk HD HK
  go_wp2_with fail
  have hE0 := Bk.new w2 28 #[.string key, .int .i64 day, .slice none 0 0]
  have hM2a := (Mor.refl w2).alloc (o := .cells #[.string key, .int .i64 day, .slice none 0 0] 28)
  obtain ⟨bE, hgE⟩ : ∃ g, g = w2.heap.size := ⟨_, rfl⟩
  rw [← hgE] at hE0 ⊢
  have HgE := Lib.hid hgE
  have hPE : bP < bE := by rw [hgE]; exact cl
  have hRE : bR < bE := by rw [hgE]; exact (HR.out _ HM02.out).lt
  clear hgE c0 c1 c2 cl
  generalize w2.alloc (.cells #[.string key, .int .i64 day, .slice none 0 0] 28) = w3 at *
  go_loopw [14, 49] (fun v i wr => ∃ j : Nat, j ≤ n ∧ i = .int .i64 j ∧ v = .int .i64 (cls b day (b.ac.take j)) ∧ Hid (∃ vL, Bk wr bE 28 #[.string key, .int .i64 day, vL] ∧ wr.ownsRow (bE + 1) 34 2 vL (cll b day (b.ac.take j)).length (flat pc (cll b day (b.ac.take j))) ∧ Mor w2 wr ∧ bE + 1 ≤ wr.heap.size)) (fun _ i _ => n - (intOf i).toNat)
  case atStart => exact ⟨0, Nat.zero_le _, rfl, by simp; rfl, Lib.hid ⟨_, hE0, by rw [List.take_zero]; exact World.ownsRow_nil _ _ _ _, hM2a, hE0.lt⟩⟩
  case round =>
    clear hE0 hM2a
    obtain ⟨j, hj, rfl, rfl, HQ⟩ := hrel
    obtain ⟨vL, hE, hrow, hm2r, hszr⟩ := HQ.out
    have hl24 := HLl.out j hj
    obtain ⟨AL, cL, rfl, hcL, _, _⟩ := own_shape hrow
    by_cases hlt : j < n
    · have hji : (j : Int) < (n : Int) := by omega
      have hj0 : (0 : Int) ≤ (j : Int) := by omega
      obtain ⟨x, hA, hxb, d0, d1⟩ := (HAc.out _ (HM2.out.trans' hm2r)).si.at_ j (by rw [HN.out]; exact hlt)
      subst hA
      have HOj := Lib.hid (fun w' (hm : Mor wr w') => HOf.out w' ((HM2.out.trans' hm2r).trans' hm) (cd b.ac j))
      have HTlj := Lib.hid (HTl.out j hlt)
      have HTsj := Lib.hid (HTs.out j hlt)
      obtain ⟨o1, o2⟩ := HOb.out (cd b.ac j)
      obtain ⟨q1, q2⟩ := HBd.out j hj
      generalize cls b day (b.ac.take j) = S at *
      generalize cll b day (b.ac.take j) = ls at *
      generalize ofS b.en (cd b.ac j) 0 day = o at *
      generalize cd b.ac j = s at *
      generalize am b.ac j = a at *
      have HE := Lib.hid hE
      have HRow := Lib.hid hrow
      have HMr := Lib.hid hm2r
      have hp := HP.out _ (HM02.out.trans' hm2r)
      have c0 := hp.cell 0
      have c1 := hp.cell 1
      have c2 := hp.cell 2
      have cl := hp.lt
      simp at c0 c1 c2
      clear hE hrow hm2r HQ hp
      go_wp2_with fail
      refine (HOj.out _ (Mor.refl _).alloc).mono ?_
      rintro e w4 ⟨rfl, hm4⟩
      have hbA := (Bk.new wr 58 #[.string s, .int .i64 a]).mor hm4
      have hE4 := HE.out.mor ((Mor.refl wr).alloc (o := .cells #[.string s, .int .i64 a] 58) |>.trans' hm4)
      have HM4 := Lib.hid ((Mor.refl wr).alloc (o := .cells #[.string s, .int .i64 a] 58) |>.trans' hm4)
      have a0 := hbA.cell 0
      have a1 := hbA.cell 1
      have al := hbA.lt
      have e2 := hE4.cell 2
      have ef := hE4.frozen 2
      have el := hE4.lt
      simp at a0 a1 e2
      have HE4 := Lib.hid hE4
      clear hbA hE4 hm4 c0 c1 c2 cl d0 d1 HOj
      by_cases ho : o = 0
      · subst ho
        go_wp2_with fail
        go_roundw
        case rel => exact ⟨j + 1, by omega, by go_num, by rw [HTsj.out]; simp, Lib.hid ⟨.slice AL ls.length cL, HE4.out, by rw [HTlj.out]; simpa using own_mor HRow.out HM4.out, HMr.out.trans' HM4.out, Nat.le_trans hszr HM4.out.below.size⟩⟩
        case measure => simp [intOf]; omega
      · have hob : (o != 0) = true := by simpa using ho
        by_cases ha : a = 3 ∨ a = 4
        · rw [if_pos ha] at HTsj
          rw [if_pos ⟨ho, ha⟩] at HTlj
          rcases ha with ha | ha
          · subst ha
            go_wp2_with (at_builtin; refine wpList_append_own _ rfl _ _ 26 rfl (bE + 1) 34 i0 (.agg #[.string { data := #[] }, .int .i64 0]) 2 24 Tryz.underlying26 hi0 hz0 hz1 hz2 rfl (by decide) _ _ _ rfl ((own_mor HRow.out HM4.out).alloc (.cells #[.string s, .int .i64 (-o)] 34)) ⟨w4.heap.size, 0, none⟩ 1 1 [.string s, .int .i64 (-o)] rfl rfl ?_ ?_ ?_ ?_ ?_ ?_)
            case refine_6 =>
              intro v' w5 hown' hgrow _
              obtain ⟨A5, c5, rfl, _, _, _⟩ := own_shape hown'
              have hm5 : Mor w2 w5 := own_step (own_base ((own_mor HRow.out HM4.out).alloc (.cells #[.string s, .int .i64 (-o)] 34)) (by have := HgE.out; omega)) ((HMr.out.trans' HM4.out).alloc) hgrow
              have hE5 := Bk.growT (HE4.out.alloc (.cells #[.string s, .int .i64 (-o)] 34)) ((own_mor HRow.out HM4.out).alloc (.cells #[.string s, .int .i64 (-o)] 34)) hgrow (by decide)
              have e2 := hE5.cell 2
              have ef := hE5.frozen 2
              have el := hE5.lt
              simp at e2
              have HE5 := Lib.hid hE5
              have HO5 := Lib.hid hown'
              have HM5 := Lib.hid hm5
              have hs5 : bE + 1 ≤ w5.heap.size := el
              clear hown' hgrow hm5 hE5 a0 a1 al
              go_wp2_with fail
              go_roundw
              case rel => exact ⟨j + 1, by omega, by go_num, by rw [HTsj.out], Lib.hid ⟨.slice A5 (ls.length + 1) c5, by have := HE5.out.set_ 2 (.slice A5 (ls.length + 1) c5); simpa using this, own_set (by rw [HTlj.out, flat_snoc, List.length_append]; simpa [pc] using HO5.out) (by omega), HM5.out.setC (by have := HgE.out; omega), by simpa [World.setCell] using hs5⟩⟩
              case measure => simp [intOf]; omega
            all_goals try (first | (exact rfl) | (intro u hu; simp at hu; rcases hu with rfl | rfl <;> rfl) | (unfold maxLen; omega) | omega | (simp [go_sem]; omega) | (intro j u hj; match j, hj with | 0, hj => simp at hj; subst hj; simp [Addr.add] | 1, hj => simp at hj; subst hj; simp [Addr.add]))
          · subst ha
            go_wp2_with (at_builtin; refine wpList_append_own _ rfl _ _ 26 rfl (bE + 1) 34 i0 (.agg #[.string { data := #[] }, .int .i64 0]) 2 24 Tryz.underlying26 hi0 hz0 hz1 hz2 rfl (by decide) _ _ _ rfl ((own_mor HRow.out HM4.out).alloc (.cells #[.string s, .int .i64 (-o)] 34)) ⟨w4.heap.size, 0, none⟩ 1 1 [.string s, .int .i64 (-o)] rfl rfl ?_ ?_ ?_ ?_ ?_ ?_)
            case refine_6 =>
              intro v' w5 hown' hgrow _
              obtain ⟨A5, c5, rfl, _, _, _⟩ := own_shape hown'
              have hm5 : Mor w2 w5 := own_step (own_base ((own_mor HRow.out HM4.out).alloc (.cells #[.string s, .int .i64 (-o)] 34)) (by have := HgE.out; omega)) ((HMr.out.trans' HM4.out).alloc) hgrow
              have hE5 := Bk.growT (HE4.out.alloc (.cells #[.string s, .int .i64 (-o)] 34)) ((own_mor HRow.out HM4.out).alloc (.cells #[.string s, .int .i64 (-o)] 34)) hgrow (by decide)
              have e2 := hE5.cell 2
              have ef := hE5.frozen 2
              have el := hE5.lt
              simp at e2
              have HE5 := Lib.hid hE5
              have HO5 := Lib.hid hown'
              have HM5 := Lib.hid hm5
              have hs5 : bE + 1 ≤ w5.heap.size := el
              clear hown' hgrow hm5 hE5 a0 a1 al
              go_wp2_with fail
              go_roundw
              case rel => exact ⟨j + 1, by omega, by go_num, by rw [HTsj.out], Lib.hid ⟨.slice A5 (ls.length + 1) c5, by have := HE5.out.set_ 2 (.slice A5 (ls.length + 1) c5); simpa using this, own_set (by rw [HTlj.out, flat_snoc, List.length_append]; simpa [pc] using HO5.out) (by omega), HM5.out.setC (by have := HgE.out; omega), by simpa [World.setCell] using hs5⟩⟩
              case measure => simp [intOf]; omega
            all_goals try (first | (exact rfl) | (intro u hu; simp at hu; rcases hu with rfl | rfl <;> rfl) | (unfold maxLen; omega) | omega | (simp [go_sem]; omega) | (intro j u hj; match j, hj with | 0, hj => simp at hj; subst hj; simp [Addr.add] | 1, hj => simp at hj; subst hj; simp [Addr.add]))
        · rw [if_neg ha] at HTsj
          rw [if_neg (fun h => ha h.2)] at HTlj
          have ha3 : (a == 3) = false := beq_eq_false_iff_ne.2 (by omega)
          have ha4 : (a == 4) = false := beq_eq_false_iff_ne.2 (by omega)
          go_wp2_with fail
          go_roundw
          case rel => exact ⟨j + 1, by omega, by go_num, by rw [HTsj.out]; simp, Lib.hid ⟨.slice AL ls.length cL, HE4.out, by rw [HTlj.out]; simpa using own_mor HRow.out HM4.out, HMr.out.trans' HM4.out, Nat.le_trans hszr HM4.out.below.size⟩⟩
          case measure => simp [intOf]; omega
    · obtain rfl : j = n := by omega
      rw [HAll.out] at hrow hl24 hE hcL ⊢
      have hm0r := HM02.out.trans' hm2r
      have hE0 := hE.cell 0
      have hE1 := hE.cell 1
      have hE2 := hE.cell 2
      have ef := hE.frozen 2
      have el := hE.lt
      obtain ⟨q1, q2⟩ := HBd.out j hj
      rw [HAll.out] at q1 q2
      simp at hE0 hE1 hE2
      have e0 := hE0
      have e1 := hE1
      have e2 := hE2
      clear hE0 hE1 hE2
      have HRow := Lib.hid hrow
      have HM0r := Lib.hid hm0r
      have HM2r := Lib.hid hm2r
      have HEr := Lib.hid hE
      clear hrow hm0r hm2r hE HQ HOf HTl HTs HOb HLl HBd
      generalize hls : cll b day b.ac = ls at *
      generalize hS : cls b day b.ac = S at *
      clear hls hS
      by_cases hne : ls = []
      · subst hne
        have hcl : closec b key day code = 4 := by rw [HR5.out, if_pos rfl]
        have hcb : closeb b key day code = zeroB := by unfold closeb; rw [if_neg (by rw [hcl]; omega)]
        have HCL := Lib.hid (And.intro hcl hcb)
        clear hcl hcb
        have HMw := Lib.hid (HM0.out.trans' HM0r.out)
        have hr := HR.out _ HM0r.out
        have z0 := hr.cell 0
        have z1 := hr.cell 1
        have z2 := hr.cell 2
        have f0 := hr.frozen 0
        have f1 := hr.frozen 1
        have f2 := hr.frozen 2
        have rl := hr.lt
        simp at z0 z1 z2
        have HRb := Lib.hid hr
        clear hr
        go_wp2_with fail
        have hb9 := ((HRb.out.set_ 0 (.slice none 0 0)).set_ 1 (.slice none 0 0)).set_ 2 (.int .i64 0)
        simp only [List.setIfInBounds_toArray, List.set_cons_zero, List.set_cons_succ] at hb9
        have hm9 := ((HMw.out.setC (i := 0) (u := .slice none 0 0) hwR).setC (i := 1) (u := .slice none 0 0) hwR).setC (i := 2) (u := .int .i64 0) hwR
        generalize ((wr.setCell ⟨bR, 0, none⟩ (.slice none 0 0)).setCell ⟨bR, 1, none⟩ (.slice none 0 0)).setCell ⟨bR, 2, none⟩ (.int .i64 0) = w9 at *
        have q0 := hb9.cell 0
        have q1 := hb9.cell 1
        have q2 := hb9.cell 2
        simp at q0 q1 q2
        refine bodyPost_ret (by simp [results, Tryz.results14, go_sem, q0, q1, q2]; try rfl) rfl ?_
        rw [HCL.out.1, HCL.out.2]
        exact any_no ⟨rfl, hm9⟩
      · have hl0 : ls.length ≠ 0 := fun h => hne (List.eq_nil_of_length_eq_zero h)
        have hlb : ((ls.length : Int) == 0) = false := beq_eq_false_iff_ne.2 (by omega)
        have hlz : ¬ (ls.length : Int) = 0 := by omega
        by_cases hS0 : S = 0
        · subst hS0
          have HLq := Lib.hid (show Lq wr AL ls.length cL (closeE b key day code).ls by
            obtain ⟨A9, c9, e9, hq9⟩ := own_lq HRow.out rfl (fun i hi => by
              rw [(cd_at ls i hi).1]; exact HStr.out _ (List.getElem_mem hi))
            injection e9 with g1 _ g3
            subst g1 g3
            rw [HXl.out, if_neg (by simp), List.append_nil]
            exact hq9)
          have HW0 := HM0r
          have hp := HP.out _ HM0r.out
          have c0 := hp.cell 0
          have c1 := hp.cell 1
          have c2 := hp.cell 2
          have cl := hp.lt
          simp at c0 c1 c2
          clear hp
          go_wp2_with fail
          by_cases hpc : postc b (closeE b key day code) = 0
          · refine (HPo.out _ (HM0.out.trans' HW0.out) _ _ _ HLq.out hpc).mono ?_
            intro e w6 h6
            obtain ⟨A6, n6, c6, X6, m6, k6, rfl, hq6, -, hm6⟩ := postYes_bq h6
            rw [HSs.out]
            have HM6 := Lib.hid (hm6.alloc (o := .cells #[.slice A6 n6 c6, .slice X6 m6 k6, .int .i64 sh] 25))
            have HQ6 := Lib.hid (hq6.mor ((Mor.refl w6).alloc (o := .cells #[.slice A6 n6 c6, .slice X6 m6 k6, .int .i64 sh] 25)))
            clear h6 hq6 hm6 c0 c1 c2 cl e0 e1 e2 ef el
            go_wp2_with fail
            by_cases hsc : shutc (postb b (closeE b key day code)) day = 0
            · have hcl : closec b key day code = 0 := by rw [HR5.out, if_neg hne, if_neg (by simp [hpc]), hsc]
              have hcb : closeb b key day code = shutb (postb b (closeE b key day code)) day := by unfold closeb; rw [if_pos hcl]
              have HCL := Lib.hid (And.intro hcl hcb)
              clear hcl hcb
              refine (HSy.out _ _ _ _ _ _ _ HQ6.out hsc).mono ?_
              rintro e w7 ⟨A7, n7, c7, X7, m7, k7, rfl, ho7, hm⟩
              rw [show (shutb (postb b (closeE b key day code)) day).shut = day from rfl]
              have HO7 := Lib.hid ho7
              have HMw := Lib.hid (((HM0.out.trans' HW0.out).trans' HM6.out).trans' hm)
              have HSz := Lib.hid (show w.heap.size ≤ _ from ((HM0.out.trans' HW0.out).trans' HM6.out).below.size)
              have hr := HR.out _ ((HW0.out.trans' HM6.out).trans' hm)
              have z0 := hr.cell 0
              have z1 := hr.cell 1
              have z2 := hr.cell 2
              have f0 := hr.frozen 0
              have f1 := hr.frozen 1
              have f2 := hr.frozen 2
              have rl := hr.lt
              simp at z0 z1 z2
              have HRb := Lib.hid hr
              clear hr
              clear hm ho7
              go_wp2_with fail
              have hb9 := ((HRb.out.set_ 0 (.slice A7 n7 c7)).set_ 1 (.slice X7 m7 k7)).set_ 2 (.int .i64 day)
              simp only [List.setIfInBounds_toArray, List.set_cons_zero, List.set_cons_succ] at hb9
              have hm9 := ((HMw.out.setC (i := 0) (u := .slice A7 n7 c7) hwR).setC (i := 1) (u := .slice X7 m7 k7) hwR).setC (i := 2) (u := .int .i64 day) hwR
              have ho9 := (own3 (a := .slice A7 n7 c7) (a' := .slice X7 m7 k7) (a'' := .int .i64 day) HO7.out HRb.out).base HSz.out
              generalize ((w7.setCell ⟨bR, 0, none⟩ (.slice A7 n7 c7)).setCell ⟨bR, 1, none⟩ (.slice X7 m7 k7)).setCell ⟨bR, 2, none⟩ (.int .i64 day) = w9 at *
              have q0 := hb9.cell 0
              have q1 := hb9.cell 1
              have q2 := hb9.cell 2
              simp at q0 q1 q2
              refine bodyPost_ret (by simp [results, Tryz.results14, go_sem, q0, q1, q2]; try rfl) rfl ?_
              rw [HCL.out.1, HCL.out.2]
              exact ⟨A7, n7, c7, X7, m7, k7, rfl, ho9, hm9⟩
            · have hcl : closec b key day code = shutc (postb b (closeE b key day code)) day := by rw [HR5.out, if_neg hne, if_neg (by simp [hpc])]
              have hcb : closeb b key day code = zeroB := by unfold closeb; rw [if_neg (by rw [hcl]; exact hsc)]
              have HCL := Lib.hid (And.intro hcl hcb)
              clear hcl hcb
              refine (HSn.out _ _ _ _ _ _ _ HQ6.out hsc).mono ?_
              rintro e w7 ⟨rfl, hm⟩
              have HMw := Lib.hid (((HM0.out.trans' HW0.out).trans' HM6.out).trans' hm)
              have hr := HR.out _ ((HW0.out.trans' HM6.out).trans' hm)
              have z0 := hr.cell 0
              have z1 := hr.cell 1
              have z2 := hr.cell 2
              have f0 := hr.frozen 0
              have f1 := hr.frozen 1
              have f2 := hr.frozen 2
              have rl := hr.lt
              simp at z0 z1 z2
              have HRb := Lib.hid hr
              clear hr
              clear hm
              go_wp2_with fail
              have hb9 := ((HRb.out.set_ 0 (.slice none 0 0)).set_ 1 (.slice none 0 0)).set_ 2 (.int .i64 0)
              simp only [List.setIfInBounds_toArray, List.set_cons_zero, List.set_cons_succ] at hb9
              have hm9 := ((HMw.out.setC (i := 0) (u := .slice none 0 0) hwR).setC (i := 1) (u := .slice none 0 0) hwR).setC (i := 2) (u := .int .i64 0) hwR
              generalize ((w7.setCell ⟨bR, 0, none⟩ (.slice none 0 0)).setCell ⟨bR, 1, none⟩ (.slice none 0 0)).setCell ⟨bR, 2, none⟩ (.int .i64 0) = w9 at *
              have q0 := hb9.cell 0
              have q1 := hb9.cell 1
              have q2 := hb9.cell 2
              simp at q0 q1 q2
              refine bodyPost_ret (by simp [results, Tryz.results14, go_sem, q0, q1, q2]; try rfl) rfl ?_
              rw [HCL.out.1, HCL.out.2]
              exact any_no ⟨rfl, hm9⟩
          · have hcl : closec b key day code = postc b (closeE b key day code) := by rw [HR5.out, if_neg hne, if_pos hpc]
            have hcb : closeb b key day code = zeroB := by unfold closeb; rw [if_neg (by rw [hcl]; exact hpc)]
            have HCL := Lib.hid (And.intro hcl hcb)
            have hpb : (postc b (closeE b key day code) != 0) = true := by simpa using hpc
            refine (HPn.out _ (HM0.out.trans' HW0.out) _ _ _ HLq.out hpc).mono ?_
            rintro e w6 ⟨rfl, hm⟩
            generalize postc b (closeE b key day code) = r6 at *
            clear hcl hcb c0 c1 c2 cl e0 e1 e2 ef el
            have HMw := Lib.hid ((HM0.out.trans' HW0.out).trans' hm)
            have hr := HR.out _ (HW0.out.trans' hm)
            have z0 := hr.cell 0
            have z1 := hr.cell 1
            have z2 := hr.cell 2
            have f0 := hr.frozen 0
            have f1 := hr.frozen 1
            have f2 := hr.frozen 2
            have rl := hr.lt
            simp at z0 z1 z2
            have HRb := Lib.hid hr
            clear hr
            clear hm
            go_wp2_with fail
            have hb9 := ((HRb.out.set_ 0 (.slice none 0 0)).set_ 1 (.slice none 0 0)).set_ 2 (.int .i64 0)
            simp only [List.setIfInBounds_toArray, List.set_cons_zero, List.set_cons_succ] at hb9
            have hm9 := ((HMw.out.setC (i := 0) (u := .slice none 0 0) hwR).setC (i := 1) (u := .slice none 0 0) hwR).setC (i := 2) (u := .int .i64 0) hwR
            have hb9 := hb9.alloc (.cells #[.slice none 0 0, .slice none 0 0, .int .i64 0] 25)
            have hm9 := hm9.alloc (o := .cells #[.slice none 0 0, .slice none 0 0, .int .i64 0] 25)
            generalize (((w6.setCell ⟨bR, 0, none⟩ (.slice none 0 0)).setCell ⟨bR, 1, none⟩ (.slice none 0 0)).setCell ⟨bR, 2, none⟩ (.int .i64 0)).alloc (.cells #[.slice none 0 0, .slice none 0 0, .int .i64 0] 25) = w9 at *
            have q0 := hb9.cell 0
            have q1 := hb9.cell 1
            have q2 := hb9.cell 2
            simp at q0 q1 q2
            refine bodyPost_ret (by simp [results, Tryz.results14, go_sem, q0, q1, q2]; try rfl) rfl ?_
            rw [HCL.out.1, HCL.out.2]
            exact any_no ⟨rfl, hm9⟩
        · have hSb : (S != 0) = true := by simpa using hS0
          go_wp2_with (at_builtin; refine wpList_append_own _ rfl _ _ 26 rfl (bE + 1) 34 i0 (.agg #[.string { data := #[] }, .int .i64 0]) 2 24 Tryz.underlying26 hi0 hz0 hz1 hz2 rfl (by decide) _ _ _ rfl (HRow.out.alloc (.cells #[.string code, .int .i64 S] 34)) ⟨wr.heap.size, 0, none⟩ 1 1 [.string code, .int .i64 S] rfl rfl ?_ ?_ ?_ ?_ ?_ ?_)
          case refine_6 =>
            intro v' w5 hown' hgrow _
            obtain ⟨A5, c5, rfl, _, _, _⟩ := own_shape hown'
            have hm5 : Mor w2 w5 := own_step (own_base (HRow.out.alloc (.cells #[.string code, .int .i64 S] 34)) (by have := HgE.out; omega)) (HM2r.out.alloc) hgrow
            have hE5 := Bk.growT (HEr.out.alloc (.cells #[.string code, .int .i64 S] 34)) (HRow.out.alloc (.cells #[.string code, .int .i64 S] 34)) hgrow (by decide)
            have e2 := hE5.cell 2
            have ef := hE5.frozen 2
            have el := hE5.lt
            simp at e2
            have hE6 := hE5.set_ 2 (.slice A5 (ls.length + 1) c5)
            simp only [List.setIfInBounds_toArray, List.set_cons_zero, List.set_cons_succ] at hE6
            have hO6 := own_set (i := 2) (u := .slice A5 (ls.length + 1) c5) hown' (show bE < bE + 1 by omega)
            have hM6 := hm5.setC (i := 2) (u := .slice A5 (ls.length + 1) c5) (show w2.heap.size ≤ bE by have := HgE.out; omega)
            have HO6 := Lib.hid hO6
            have HW0 := Lib.hid (HM02.out.trans' hM6)
            have hne' : bP ≠ bE := by omega
            have hp := HP.out _ (HM02.out.trans' hm5)
            have c0 := hp.cell 0
            have c1 := hp.cell 1
            have c2 := hp.cell 2
            have cl := hp.lt
            have e0 := hE5.cell 0
            have e1 := hE5.cell 1
            simp at c0 c1 c2 e0 e1
            clear hown' hgrow hm5 hE5 hE6 hO6 hM6 hp
            go_wp2_with fail
            clear c0 c1 c2 cl e0 e1 e2 ef el
            generalize w5.setCell ⟨bE, 2, none⟩ (.slice A5 (ls.length + 1) c5) = w55 at *
            have HLq := Lib.hid (show Lq w55 A5 (ls.length + 1) c5 (closeE b key day code).ls by
              obtain ⟨A9, c9, e9, hq9⟩ := own_lq (xs := ls ++ [(code, S)]) (by rw [flat_snoc]; simpa [pc] using HO6.out) (by rw [List.length_append]; rfl) (fun i hi => by
                by_cases h : i < ls.length
                · have e : cd (ls ++ [(code, S)]) i = cd ls i := by unfold cd; rw [List.getD_eq_getElem?_getD, List.getD_eq_getElem?_getD, List.getElem?_append_left h]
                  rw [e, (cd_at ls i h).1]; exact HStr.out _ (List.getElem_mem h)
                · have h2 : i = ls.length := by omega
                  subst h2
                  have e : cd (ls ++ [(code, S)]) ls.length = code := by unfold cd; rw [List.getD_eq_getElem?_getD, List.getElem?_append_right (Nat.le_refl _), Nat.sub_self]; rfl
                  rw [e]; exact HCs.out)
              injection e9 with g1 _ g3
              subst g1 g3
              rw [HXl.out, if_pos hS0]
              exact hq9)
            have c0 := True.intro
            have c1 := True.intro
            have c2 := True.intro
            have cl := True.intro
            have e0 := True.intro
            have e1 := True.intro
            have e2 := True.intro
            have ef := True.intro
            have el := True.intro
            by_cases hpc : postc b (closeE b key day code) = 0
            · refine (HPo.out _ (HM0.out.trans' HW0.out) _ _ _ HLq.out hpc).mono ?_
              intro e w6 h6
              obtain ⟨A6, n6, c6, X6, m6, k6, rfl, hq6, -, hm6⟩ := postYes_bq h6
              rw [HSs.out]
              have HM6 := Lib.hid (hm6.alloc (o := .cells #[.slice A6 n6 c6, .slice X6 m6 k6, .int .i64 sh] 25))
              have HQ6 := Lib.hid (hq6.mor ((Mor.refl w6).alloc (o := .cells #[.slice A6 n6 c6, .slice X6 m6 k6, .int .i64 sh] 25)))
              clear h6 hq6 hm6 c0 c1 c2 cl e0 e1 e2 ef el
              go_wp2_with fail
              by_cases hsc : shutc (postb b (closeE b key day code)) day = 0
              · have hcl : closec b key day code = 0 := by rw [HR5.out, if_neg hne, if_neg (by simp [hpc]), hsc]
                have hcb : closeb b key day code = shutb (postb b (closeE b key day code)) day := by unfold closeb; rw [if_pos hcl]
                have HCL := Lib.hid (And.intro hcl hcb)
                clear hcl hcb
                refine (HSy.out _ _ _ _ _ _ _ HQ6.out hsc).mono ?_
                rintro e w7 ⟨A7, n7, c7, X7, m7, k7, rfl, ho7, hm⟩
                rw [show (shutb (postb b (closeE b key day code)) day).shut = day from rfl]
                have HO7 := Lib.hid ho7
                have HMw := Lib.hid (((HM0.out.trans' HW0.out).trans' HM6.out).trans' hm)
                have HSz := Lib.hid (show w.heap.size ≤ _ from ((HM0.out.trans' HW0.out).trans' HM6.out).below.size)
                have hr := HR.out _ ((HW0.out.trans' HM6.out).trans' hm)
                have z0 := hr.cell 0
                have z1 := hr.cell 1
                have z2 := hr.cell 2
                have f0 := hr.frozen 0
                have f1 := hr.frozen 1
                have f2 := hr.frozen 2
                have rl := hr.lt
                simp at z0 z1 z2
                have HRb := Lib.hid hr
                clear hr
                clear hm ho7
                go_wp2_with fail
                have hb9 := ((HRb.out.set_ 0 (.slice A7 n7 c7)).set_ 1 (.slice X7 m7 k7)).set_ 2 (.int .i64 day)
                simp only [List.setIfInBounds_toArray, List.set_cons_zero, List.set_cons_succ] at hb9
                have hm9 := ((HMw.out.setC (i := 0) (u := .slice A7 n7 c7) hwR).setC (i := 1) (u := .slice X7 m7 k7) hwR).setC (i := 2) (u := .int .i64 day) hwR
                have ho9 := (own3 (a := .slice A7 n7 c7) (a' := .slice X7 m7 k7) (a'' := .int .i64 day) HO7.out HRb.out).base HSz.out
                generalize ((w7.setCell ⟨bR, 0, none⟩ (.slice A7 n7 c7)).setCell ⟨bR, 1, none⟩ (.slice X7 m7 k7)).setCell ⟨bR, 2, none⟩ (.int .i64 day) = w9 at *
                have q0 := hb9.cell 0
                have q1 := hb9.cell 1
                have q2 := hb9.cell 2
                simp at q0 q1 q2
                refine bodyPost_ret (by simp [results, Tryz.results14, go_sem, q0, q1, q2]; try rfl) rfl ?_
                rw [HCL.out.1, HCL.out.2]
                exact ⟨A7, n7, c7, X7, m7, k7, rfl, ho9, hm9⟩
              · have hcl : closec b key day code = shutc (postb b (closeE b key day code)) day := by rw [HR5.out, if_neg hne, if_neg (by simp [hpc])]
                have hcb : closeb b key day code = zeroB := by unfold closeb; rw [if_neg (by rw [hcl]; exact hsc)]
                have HCL := Lib.hid (And.intro hcl hcb)
                clear hcl hcb
                refine (HSn.out _ _ _ _ _ _ _ HQ6.out hsc).mono ?_
                rintro e w7 ⟨rfl, hm⟩
                have HMw := Lib.hid (((HM0.out.trans' HW0.out).trans' HM6.out).trans' hm)
                have hr := HR.out _ ((HW0.out.trans' HM6.out).trans' hm)
                have z0 := hr.cell 0
                have z1 := hr.cell 1
                have z2 := hr.cell 2
                have f0 := hr.frozen 0
                have f1 := hr.frozen 1
                have f2 := hr.frozen 2
                have rl := hr.lt
                simp at z0 z1 z2
                have HRb := Lib.hid hr
                clear hr
                clear hm
                go_wp2_with fail
                have hb9 := ((HRb.out.set_ 0 (.slice none 0 0)).set_ 1 (.slice none 0 0)).set_ 2 (.int .i64 0)
                simp only [List.setIfInBounds_toArray, List.set_cons_zero, List.set_cons_succ] at hb9
                have hm9 := ((HMw.out.setC (i := 0) (u := .slice none 0 0) hwR).setC (i := 1) (u := .slice none 0 0) hwR).setC (i := 2) (u := .int .i64 0) hwR
                generalize ((w7.setCell ⟨bR, 0, none⟩ (.slice none 0 0)).setCell ⟨bR, 1, none⟩ (.slice none 0 0)).setCell ⟨bR, 2, none⟩ (.int .i64 0) = w9 at *
                have q0 := hb9.cell 0
                have q1 := hb9.cell 1
                have q2 := hb9.cell 2
                simp at q0 q1 q2
                refine bodyPost_ret (by simp [results, Tryz.results14, go_sem, q0, q1, q2]; try rfl) rfl ?_
                rw [HCL.out.1, HCL.out.2]
                exact any_no ⟨rfl, hm9⟩
            · have hcl : closec b key day code = postc b (closeE b key day code) := by rw [HR5.out, if_neg hne, if_pos hpc]
              have hcb : closeb b key day code = zeroB := by unfold closeb; rw [if_neg (by rw [hcl]; exact hpc)]
              have HCL := Lib.hid (And.intro hcl hcb)
              have hpb : (postc b (closeE b key day code) != 0) = true := by simpa using hpc
              refine (HPn.out _ (HM0.out.trans' HW0.out) _ _ _ HLq.out hpc).mono ?_
              rintro e w6 ⟨rfl, hm⟩
              generalize postc b (closeE b key day code) = r6 at *
              clear hcl hcb c0 c1 c2 cl e0 e1 e2 ef el
              have HMw := Lib.hid ((HM0.out.trans' HW0.out).trans' hm)
              have hr := HR.out _ (HW0.out.trans' hm)
              have z0 := hr.cell 0
              have z1 := hr.cell 1
              have z2 := hr.cell 2
              have f0 := hr.frozen 0
              have f1 := hr.frozen 1
              have f2 := hr.frozen 2
              have rl := hr.lt
              simp at z0 z1 z2
              have HRb := Lib.hid hr
              clear hr
              clear hm
              go_wp2_with fail
              have hb9 := ((HRb.out.set_ 0 (.slice none 0 0)).set_ 1 (.slice none 0 0)).set_ 2 (.int .i64 0)
              simp only [List.setIfInBounds_toArray, List.set_cons_zero, List.set_cons_succ] at hb9
              have hm9 := ((HMw.out.setC (i := 0) (u := .slice none 0 0) hwR).setC (i := 1) (u := .slice none 0 0) hwR).setC (i := 2) (u := .int .i64 0) hwR
              have hb9 := hb9.alloc (.cells #[.slice none 0 0, .slice none 0 0, .int .i64 0] 25)
              have hm9 := hm9.alloc (o := .cells #[.slice none 0 0, .slice none 0 0, .int .i64 0] 25)
              generalize (((w6.setCell ⟨bR, 0, none⟩ (.slice none 0 0)).setCell ⟨bR, 1, none⟩ (.slice none 0 0)).setCell ⟨bR, 2, none⟩ (.int .i64 0)).alloc (.cells #[.slice none 0 0, .slice none 0 0, .int .i64 0] 25) = w9 at *
              have q0 := hb9.cell 0
              have q1 := hb9.cell 1
              have q2 := hb9.cell 2
              simp at q0 q1 q2
              refine bodyPost_ret (by simp [results, Tryz.results14, go_sem, q0, q1, q2]; try rfl) rfl ?_
              rw [HCL.out.1, HCL.out.2]
              exact any_no ⟨rfl, hm9⟩
          all_goals try (first | (exact rfl) | (intro u hu; simp at hu; rcases hu with rfl | rfl <;> rfl) | (unfold maxLen; omega) | omega | (simp [go_sem]; omega) | (intro j u hj; match j, hj with | 0, hj => simp at hj; subst hj; simp [Addr.add] | 1, hj => simp at hj; subst hj; simp [Addr.add]))

end Go.Proofs.YtohpibjjlfpaaaaGreatDoor

/- closing.Close, be it refused or not; what it does to balances. -/
namespace Go.Proofs.YtohpibjjlfpaaaaGreatDoor
open Go.ChangeShapes Go.WideShapes Go.ChangeAt Go.RowKit Go.PlainAid
set_option linter.unusedVariables false
set_option maxRecDepth 100000

theorem close_any (A : Option Addr) (n c : Nat) (X : Option Addr) (m k : Nat) (b : Bok) (key : ByteArray) (day : Int) (code : ByteArray) (w : World) (hb : Bq w A n c X m k b) (hks : key.size ≤ maxLen) (hcs : code.size ≤ maxLen) :
    Calls Tryz.prog 14 #[bv A n c X m k b.shut, .string key, .int .i64 day, .string code] w (PostAny w (closeb b key day code) (closec b key day code)) := by
  by_cases h1 : bookc b = 0
  · by_cases h2 : day < 0 ∨ 292193 < day
    · have e : closec b key day code = 1 := by unfold closec; rw [if_neg (by simp [h1]), if_pos h2]
      have e2 : closeb b key day code = zeroB := by unfold closeb; rw [if_neg (by rw [e]; omega)]
      rw [e, e2]
      exact (close_2 A n c X m k b key day code w hb h1 h2).mono fun e w' h => any_no h
    · rcases findA_cases b.ac code with h3 | ⟨i, hi, h3, h4⟩
      · have e : closec b key day code = 4 := by unfold closec; rw [if_neg (by simp [h1]), if_neg h2, if_pos h3]
        have e2 : closeb b key day code = zeroB := by unfold closeb; rw [if_neg (by rw [e]; omega)]
        rw [e, e2]
        exact (close_3 A n c X m k b key day code w hb h1 h2 h3).mono fun e w' h => any_no h
      · by_cases h5 : am b.ac i = 2
        · exact close_go A n c X m k b key day code w hb hks hcs h1 h2 i hi h3 h5 (by
            unfold closec
            rw [if_neg (by simp [h1]), if_neg h2, if_neg (by omega), h3, show ((i : Int)).toNat = i by omega, if_neg (by simp [h5])])
        · have e : closec b key day code = 3 := by
            unfold closec
            rw [if_neg (by simp [h1]), if_neg h2, if_neg (by omega), h3, show ((i : Int)).toNat = i by omega, if_pos h5]
          have e2 : closeb b key day code = zeroB := by unfold closeb; rw [if_neg (by rw [e]; omega)]
          rw [e, e2]
          exact (close_4 A n c X m k b key day code w hb h1 h2 i hi h3 h5).mono fun e w' h => any_no h
  · have e : closec b key day code = bookc b := by unfold closec; rw [if_pos h1]
    have e2 : closeb b key day code = zeroB := by unfold closeb; rw [if_neg (by rw [e]; exact h1)]
    rw [e, e2]
    exact (close_1 A n c X m k b key day code w hb h1).mono fun e w' h => any_no h
/-- the closed book -/
theorem closed {b : Bok} {key : ByteArray} {day : Int} {code : ByteArray} (h : closec b key day code = 0) :
    BOk (closeb b key day code) ∧ (closeb b key day code).ac = b.ac ∧ (closeb b key day code).shut = day ∧ (closeb b key day code).en = (postb b (closeE b key day code)).en := by
  obtain ⟨hbo, d0, d9, _, _, hp, hs⟩ := closec_zero h
  have e : closeb b key day code = shutb (postb b (closeE b key day code)) day := by unfold closeb; rw [if_pos h]
  rw [e]
  exact ⟨shut_ok (post_ok hp) d0 d9, (post_ac b _).1, rfl, rfl⟩
end Go.Proofs.YtohpibjjlfpaaaaGreatDoor
