/- What entry.Turned, book.Get and acct.Under hand back in BookOwn: rows of the call's own, whatever the input. -/
import Derived.Test.YtohpibjjlfpaaaaGreatDoorPBookOwnZ1
import Derived.Test.YtohpibjjlfpaaaaGreatDoorPBookOwnZ2
import Derived.Test.YtohpibjjlfpaaaaGreatDoorPBookOwnZ3
import Derived.Test.YtohpibjjlfpaaaaGreatDoorPBookOwnZ4
import Derived.Test.YtohpibjjlfpaaaaGreatDoorPBookOwnZ5
import Derived.Test.YtohpibjjlfpaaaaGreatDoorPBookOwnZ6
import Derived.Test.YtohpibjjlfpaaaaGreatDoorPBookOwnZ7
import Derived.Test.YtohpibjjlfpaaaaGreatDoorPBookOwnZ8
import Derived.Test.YtohpibjjlfpaaaaGreatDoorPBookOwnZ9
import Derived.Test.YtohpibjjlfpaaaaGreatDoorPBookOwnZ10
import Derived.Test.YtohpibjjlfpaaaaGreatDoorPBookOwnZ11
import Derived.Test.YtohpibjjlfpaaaaGreatDoorPBookOwnZ12
import Derived.Test.YtohpibjjlfpaaaaGreatDoorPBookOwnZ13
import Derived.Test.YtohpibjjlfpaaaaGreatDoorPBookOwnZ14
import Derived.Test.YtohpibjjlfpaaaaGreatDoorPBookOwnZ15
import Derived.Test.YtohpibjjlfpaaaaGreatDoorPBookOwnZ16
import Derived.Test.YtohpibjjlfpaaaaGreatDoorPBookOwnZ17
import Derived.Test.YtohpibjjlfpaaaaGreatDoorPBookOwnZ18
import Derived.Test.YtohpibjjlfpaaaaGreatDoorPBookOwnZ19
import Derived.Test.YtohpibjjlfpaaaaGreatDoorPBookOwnZ20
import Derived.Test.YtohpibjjlfpaaaaGreatDoorPBookOwnZ21
import Derived.Test.YtohpibjjlfpaaaaGreatDoorPBookOwnZ22
import Derived.Test.YtohpibjjlfpaaaaGreatDoorPBookOwnZ23
import Derived.Test.YtohpibjjlfpaaaaGreatDoorPBookOwnZ24
import Derived.Test.YtohpibjjlfpaaaaGreatDoorPBookOwnZ25
import Derived.Test.YtohpibjjlfpaaaaGreatDoorPBookOwnZ26
import Derived.Test.YtohpibjjlfpaaaaGreatDoorPBookOwnZ27
import Derived.Test.YtohpibjjlfpaaaaGreatDoorPBookOwnZ28
import Derived.Test.YtohpibjjlfpaaaaGreatDoorPBookOwnZ29
import Derived.Test.YtohpibjjlfpaaaaGreatDoorPBookOwnZ30
import Derived.Test.YtohpibjjlfpaaaaGreatDoorPBookOwnZ31
import Derived.Test.YtohpibjjlfpaaaaGreatDoorPBookOwnZ32
import Derived.Test.YtohpibjjlfpaaaaGreatDoorPBookOwnZ33
import Derived.Test.YtohpibjjlfpaaaaGreatDoorPBookOwnZ34
import Derived.Test.YtohpibjjlfpaaaaGreatDoorPBookOwnZ35
import Derived.Test.YtohpibjjlfpaaaaGreatDoorPBookOwnZ36
import Derived.Test.YtohpibjjlfpaaaaGreatDoorPBookOwnZ37
import Derived.Test.YtohpibjjlfpaaaaGreatDoorPBookOwnZ38
import Derived.Test.YtohpibjjlfpaaaaGreatDoorPBookOwnZ39
import Derived.Test.YtohpibjjlfpaaaaGreatDoorPBookOwnZ40
import Derived.Test.YtohpibjjlfpaaaaGreatDoorPBookOwnZ41
import Derived.Test.YtohpibjjlfpaaaaGreatDoorPBookOwnZ42
import Derived.Test.YtohpibjjlfpaaaaGreatDoorPBookOwnZ43
import Derived.Test.YtohpibjjlfpaaaaGreatDoorPBookOwnZ44
import Derived.Test.YtohpibjjlfpaaaaGreatDoorPBookOwnZ45
import Derived.Test.YtohpibjjlfpaaaaGreatDoorPBookOwnZ46
import Derived.Test.YtohpibjjlfpaaaaGreatDoorPBookOwnZ47
import Derived.Test.YtohpibjjlfpaaaaGreatDoorPBookOwnZ48
import Derived.Test.YtohpibjjlfpaaaaGreatDoorRows
import Derived.BigQuiet
import Derived.BigRegion
import Derived.Carry
import Derived.DataElems
import Derived.Deep.AppendSrc
import Derived.Deep.DeepAppendRoom
import Derived.Deep.DeepCutAuto
import Derived.Deep.LoopGhost
import Derived.Deep.OwnRows
import Derived.Deep.QuietTactic
import Derived.Deep.RegionHeld3
import Derived.Deep.RegionLaw
import Derived.Deep.RegionWith
import Derived.Deep.SlicePairs
import Derived.Deep.Slices
import Derived.Deep.Strs
import Derived.Handy
import Derived.IntWalk
import Derived.Laws.AppendOwn
import Derived.Laws.BytesArg
import Derived.Laws.CopyOwn
import Derived.Laws.CopyRow
import Derived.Laws.Cover1
import Derived.Laws.Externs
import Derived.Laws.NewBlocks
import Derived.Laws.OwnMore
import Derived.Laws.StandIn
import Derived.Lib.AppendZerosOnto
import Derived.Lib.AtoiAll
import Derived.Lib.AtoiTie
import Derived.Lib.Bytealg
import Derived.Lib.CutLaws
import Derived.Lib.Hide
import Derived.Lib.ItoaLen
import Derived.Lib.ItoaNum
import Derived.Lib.LaidTab
import Derived.Lib.LastIndexLaws
import Derived.Lib.Overlaps
import Derived.Lib.SliceRun
import Derived.Lib.SplitLaws
import Derived.Lib.Walk
import Derived.Maps.Own
import Derived.Maps.OwnSet
import Derived.Maps.Views
import Derived.OpenShut
import Derived.Outline
import Derived.OwnWalk
import Derived.PlainAid
import Derived.ProofKit
import Derived.RegionTactic
import Derived.Shelf.Abstract
import Derived.Shelf.LaysC
import Derived.Shelf.LaysM
import Derived.Shelf.RegionOpenPlain
import Derived.Shelf.Small.Strs
import Derived.Shelf.Strconv.Atoi
import Derived.Shelf.Strconv.AtoiAll
import Derived.Shelf.Strconv.AtoiErrFast
import Derived.Shelf.Strconv.AtoiFail
import Derived.Shelf.Strconv.AtoiInnerAll
import Derived.Shelf.Strconv.AtoiLong
import Derived.Shelf.Strconv.Clone
import Derived.Shelf.Strconv.ErrVarAll
import Derived.Shelf.Strconv.Itoa0
import Derived.Shelf.Strconv.Itoa1
import Derived.Shelf.Strconv.Itoa2
import Derived.Shelf.Strconv.Itoa3
import Derived.Shelf.Strconv.Lower
import Derived.Shelf.Strconv.ParseInt10
import Derived.Shelf.Strconv.ParseIntEmpty
import Derived.Shelf.Strconv.ParseUint10
import Derived.Shelf.Strconv.ParseUint10Any
import Derived.Shelf.Strconv.ParseUint10Empty
import Derived.Shelf.Strconv.RangeError
import Derived.Shelf.Strconv.SyntaxError
import Derived.Shelf.Strconv.ToError
import Derived.Shelf.Strconv.ToErrorRange
import Derived.Shelf.Strings.Builder1
import Derived.Shelf.Strings.BuilderF
import Derived.Shelf.Strings.BuilderK
import Derived.Shelf.Strings.Count
import Derived.Shelf.Strings.Cut
import Derived.Shelf.Strings.Explode
import Derived.Shelf.Strings.LastIndex
import Derived.Shelf.Strings.LastIndexAll
import Derived.Shelf.Strings.RuneCount
import Derived.Shelf.Strings.Search1
import Derived.Shelf.Strings.Search2
import Derived.Shelf.Strings.Search3
import Derived.Shelf.Strings.Shaped
import Derived.Shelf.Strings.Split
import Derived.Shelf.Strings.SplitShaped
import Derived.Shelf.Unicode.Decode
import Derived.Shelf.Unicode.DecodeAny
import Derived.Shelf.Unicode.DecodeSlow
import Derived.Shelf.Utf8.RuneCount
import Derived.Sort.Walk0
import Derived.StringKeys
import Derived.WalkKit
import Derived.WalkSpells
namespace Go.Proofs.YtohpibjjlfpaaaaGreatDoor
open Go.ChangeShapes Go.WideShapes Go.ChangeAt Go.RowKit Go.PlainAid
set_option linter.unusedVariables false
set_option maxRecDepth 100000

/-- an entry of the call's own, and a code -/
def NewE (w : World) (e : Ending) (w' : World) : Prop :=
  ∃ s d A n c r, ∃ ls : List Ln, e = .returned (.tuple #[.agg #[.string s, .int .i64 d, .slice A n c], .int .i64 r]) ∧ w'.ownsRow w.heap.size 34 2 (.slice A n c) n (flat pc ls) ∧ ls.length = n ∧ n ≤ 1000 ∧ Mor w w'
theorem turned_newe (x : En) (by' : ByteArray) (day : Int) (hks : x.key.size ≤ maxLen) (hy : by'.size ≤ maxLen) (w : World) (A : Option Addr) (n c : Nat) (hl : Lq w A n c x.ls) :
    Calls Tryz.prog 10 #[.agg #[.string x.key, .int .i64 x.day, .slice A n c], .string by', .int .i64 day] w (NewE w) := by
  by_cases hc : turnc x.key x.day x.ls by' day = 0
  · have hc' := hc
    unfold turnc at hc
    by_cases h1 : entc x.key x.day x.ls = 0
    · rw [if_neg (by simp [h1])] at hc
      cases h2 : keyB by'
      · rw [h2, if_pos rfl] at hc; omega
      · rw [h2, if_neg (by simp)] at hc
        by_cases h3 : day < 0 ∨ 292193 < day
        · rw [if_pos h3] at hc; omega
        · have h12 := (en_lines (x := x) h1).1
          refine (turned_ok2 x.key x.day A n c x.ls by' day w hks hl.si hl.length hl.le (Nat.le_trans hl.le hl.max) hl.str hy h1 h2 (by omega) (by omega) (by rw [← hl.length]; exact h12)).mono fun e w' h => ?_
          obtain ⟨A', c', h4, h5, h6⟩ := h
          exact ⟨_, _, A', n, c', 0, _, h4, h5, by rw [turn_len, hl.length], by rw [← hl.length]; omega, h6⟩
    · rw [if_pos h1] at hc; exact absurd hc h1
  · refine (turned_no x.key x.day A n c x.ls by' day w hks hl.si hl.length hl.le (Nat.le_trans hl.le hl.max) hl.str hy hc).mono fun e w' h => ?_
    exact ⟨_, _, none, 0, 0, _, [], h.1, World.ownsRow_nil _ _ _ _, rfl, by omega, h.2⟩
theorem get_newe (A : Option Addr) (n c : Nat) (X : Option Addr) (m k : Nat) (b : Bok) (key : ByteArray) (w : World) (hb : Bq w A n c X m k b) :
    Calls Tryz.prog 11 #[bv A n c X m k b.shut, .string key] w (NewE w) := by
  by_cases h1 : bookc b = 0
  · by_cases h2 : findE b.en key < 0
    · exact (get_bad4 A n c X m k b key w hb h1 h2).mono fun e w' h => ⟨_, _, _, _, _, _, [], h.1, World.ownsRow_nil _ _ _ _, rfl, by omega, h.2⟩
    · obtain ⟨i, hi, hf⟩ : ∃ i : Nat, i < b.en.length ∧ findE b.en key = i := by
        rcases findE_cases b.en key with ⟨e, _⟩ | ⟨i, hi, e, hk⟩
        · rw [e] at h2; omega
        · exact ⟨i, hi, e⟩
      have hls : (ne b.en i).ls.length ≤ 12 := (linec_ok (entc_ok (((bookc_iff b).1 h1).enc _ (by rw [ne_eq _ _ hi]; exact List.getElem_mem _))).2.2.2).1
      refine (get_yes A n c X m k b key w hb h1 i (by rw [← hb.length]; exact hi) hf).mono fun e w' h => ?_
      obtain ⟨A2, n2, c2, he, ho, hm⟩ := h
      exact ⟨_, _, A2, n2, c2, 0, _, he, ho.row, ho.len, by have := ho.len; simp only at this; omega, hm⟩
  · exact (get_bad1 A n c X m k b key w hb h1).mono fun e w' h => ⟨_, _, _, _, _, _, [], h.1, World.ownsRow_nil _ _ _ _, rfl, by omega, h.2⟩
theorem under_news (A : Option Addr) (n c : Nat) (ac : List Ln) (s : ByteArray) (w : World) (hl : Lq w A n c ac) (hs : s.size ≤ maxLen) :
    Calls Tryz.prog 9 #[.slice A n c, .string s] w fun e w' => ∃ U n1 k r, ∃ us : List ByteArray, e = .returned (.tuple #[.slice U n1 k, .int .i64 r]) ∧ w'.ownsRow w.heap.size 9 1 (.slice U n1 k) n1 (us.map Value.string) ∧ us.length = n1 ∧ n1 ≤ 1000 ∧ Mor w w' := by
  refine (under_own A n c ac s w hl hs).mono fun e w' h => ?_
  obtain ⟨U, k, h1, h2, h3⟩ := h
  refine ⟨U, _, k, _, _, h1, h2, rfl, ?_, h3⟩
  unfold undO
  split
  · rename_i h
    have h4 := und_len ac s
    have h5 := acc_len h
    omega
  · simp

set_option maxRecDepth 100000 in
set_option maxHeartbeats 1600000 in
theorem equal_lnG0 (A A' : Option Addr) (n c c' : Nat) (xs : List Ln) (w : World) (hr : Si w A xs) (hr' : Si w A' xs) (hn : xs.length = n) (hl : n ≤ 5864062014700) :
    Calls Tryz.prog 20 #[.slice A n c, .slice A' n c'] w fun e w' => e = .returned (.bool true) ∧ ∃ k, w' = w.drewN k := by
  have HR := Lib.hid hr
  have HR' := Lib.hid hr'
  have HN := Lib.hid hn
  clear hr hr' hn
  go_enter Tryz.func20, Tryz.ntmps20
  go_wp2
  go_loopw [13] (fun i wr => ∃ k m : Nat, k ≤ n ∧ i = .int .i64 k ∧ wr = w.drewN m) (fun i _ => n - (intOf i).toNat)
  case atStart => exact ⟨0, 0, Nat.zero_le _, rfl, rfl⟩
  case round =>
    obtain ⟨k, m, hk, rfl, rfl⟩ := hrel
    by_cases hlt : k < n
    · obtain ⟨x, hA, hxb, c1, c2⟩ := HR.out.at_ k (by rw [HN.out]; exact hlt)
      obtain ⟨y, hA', hyb, d1, d2⟩ := HR'.out.at_ k (by rw [HN.out]; exact hlt)
      subst hA hA'
      generalize cd xs k = s at *
      generalize am xs k = a at *
      have hi : ((k : Nat) : Int) < (n : Int) := by omega
      go_wp2
      go_quiet (fail)
      go_wp2
      go_roundw
      case rel => exact ⟨k + 1, _, by omega, by go_num, rfl⟩
      case measure => simp [intOf]; omega
    · have e : k = n := by omega
      subst e
      go_wp2
      go_ret
      exact ⟨rfl, _, rfl⟩

theorem equal_lnG (A A' : Option Addr) (n c c' : Nat) (xs : List Ln) (w : World) (hr : Si w A xs) (hr' : Si w A' xs) (hn : xs.length = n) (hl : n ≤ 5864062014700) :
    Calls Tryz.prog 20 #[.slice A n c, .slice A' n c'] w fun e w' => e = .returned (.bool true) ∧ Mor w w' :=
  (equal_lnG0 A A' n c c' xs w hr hr' hn hl).mono (by rintro e w' ⟨h1, k, rfl⟩; exact ⟨h1, (Mor.refl w).drewN⟩)
theorem OwnK.blk {w : World} {B n g c : Nat} {T : TypeId} {cs us : List Value} (h : OwnK w B T (.slice (some ⟨g, 0, none⟩) n c) n cs us) : Blk w g T (room3 cs us).toArray := by
  obtain ⟨g', h1, h2, h3, h4, h5, h6⟩ := h
  injection h1 with h1 _ _
  injection h1 with h1
  injection h1 with h1 _ _
  subst h1
  exact h6

end Go.Proofs.YtohpibjjlfpaaaaGreatDoor

/- Books of the call's own that lie one behind the other. -/
namespace Go.Proofs.YtohpibjjlfpaaaaGreatDoor
open Go.ChangeShapes Go.WideShapes Go.ChangeAt Go.RowKit Go.PlainAid
set_option linter.unusedVariables false
set_option maxRecDepth 100000

theorem info_book : (Tryz.prog.info? 25).map (fun i => (i.zero, i.size, i.bytes)) = some (some (.agg #[.slice none 0 0, .slice none 0 0, .int .i64 0]), 3, 56) := by kernel_rfl
/-- a book, how it lies, and what it holds -/
structure Bz where
  A : Option Addr
  n : Nat
  c : Nat
  X : Option Addr
  m : Nat
  k : Nat
  y : Bok
  qs : List Ev
instance : Inhabited Bz := ⟨⟨none, 0, 0, none, 0, 0, zeroB, []⟩⟩
def bz (z : Bz) : List Value := [.slice z.A z.n z.c, .slice z.X z.m z.k, .int .i64 z.y.shut]
theorem bz_len : ∀ z, (bz z).length = 3 := fun _ => rfl
def nz (L : List Bz) (i : Nat) : Bz := L.getD i default
theorem nz_eq (L : List Bz) (i : Nat) (h : i < L.length) : nz L i = L[i] := by unfold nz; rw [List.getD_eq_getElem?_getD, List.getElem?_eq_getElem h]; rfl
/-- the book's blocks -/
def Bz.blk (z : Bz) (b : Nat) : Prop := (Value.slice z.A z.n z.c).ownBlock = some b ∨ (Value.slice z.X z.m z.k).ownBlock = some b ∨ ∃ i, i < z.m ∧ (ql (qe z.qs i)).ownBlock = some b
structure OwnZ (w : World) (B : Nat) (z : Bz) : Prop where
  ac : w.ownsRow B 58 2 (.slice z.A z.n z.c) z.n (flat pc z.y.ac)
  al : z.y.ac.length = z.n
  astr : ∀ i, i < z.n → (cd z.y.ac i).size ≤ maxLen
  es : OwnEs w B (.slice z.X z.m z.k) z.m z.qs z.y.en
theorem OwnZ.of {w : World} {B n c m k : Nat} {A X : Option Addr} {y : Bok} (h : OwnB w B (.slice A n c) (.slice X m k) n m y) : ∃ qs, OwnZ w B ⟨A, n, c, X, m, k, y, qs⟩ := by
  obtain ⟨qs, hq⟩ := h.es
  exact ⟨qs, h.ac, h.al, h.astr, hq⟩
theorem OwnBk.z {w : World} {B n c m k : Nat} {A X : Option Addr} {y : Bok} {qs : List Ev} (h : OwnBk w B (.slice A n c) (.slice X m k) n m y qs) : OwnZ w B ⟨A, n, c, X, m, k, y, qs⟩ :=
  ⟨h.ac.own, h.al, h.astr, h.row, h.ql, h.el, fun i hi => ⟨(h.ent i hi).key, (h.ent i hi).day, (h.ent i hi).row.own, (h.ent i hi).len, (h.ent i hi).ks, (h.ent i hi).str⟩⟩
theorem nz_old (L : List Bz) (z : Bz) (i : Nat) (h : i < L.length) : nz (L ++ [z]) i = nz L i := by
  unfold nz; rw [List.getD_eq_getElem?_getD, List.getD_eq_getElem?_getD, List.getElem?_append_left h]
theorem nz_last (L : List Bz) (z : Bz) : nz (L ++ [z]) L.length = z := by
  unfold nz; rw [List.getD_eq_getElem?_getD, List.getElem?_append_right (Nat.le_refl _)]; simp
theorem OwnZ.ob {w : World} {B : Nat} {z : Bz} (h : OwnZ w B z) : OwnB w B (.slice z.A z.n z.c) (.slice z.X z.m z.k) z.n z.m z.y := ⟨h.ac, h.al, h.astr, z.qs, h.es⟩
theorem OwnZ.bq {w : World} {B : Nat} {z : Bz} (h : OwnZ w B z) : Bq w z.A z.n z.c z.X z.m z.k z.y := own_bq h.ob
theorem OwnZ.lt {w : World} {B b : Nat} {z : Bz} (h : OwnZ w B z) (hb : z.blk b) : B ≤ b ∧ b < w.heap.size := by
  rcases hb with e | e | ⟨i, hi, e⟩
  · exact World.ownsRow.lt h.ac b e
  · exact World.ownsRow.lt h.es.row b e
  · exact World.ownsRow.lt (h.es.ent i hi).row b e
theorem OwnZ.mor {w w' : World} {B : Nat} {z : Bz} (h : OwnZ w B z) (hm : Mor w w') : OwnZ w' B z := ⟨own_mor h.ac hm, h.al, h.astr, h.es.mor hm⟩
theorem OwnZ.base {w : World} {B B' : Nat} {z : Bz} (h : OwnZ w B z) (hb : B' ≤ B) : OwnZ w B' z :=
  ⟨own_base h.ac hb, h.al, h.astr, own_base h.es.row hb, h.es.ql, h.es.el, fun i hi => by
    have e := h.es.ent i hi
    exact ⟨e.key, e.day, own_base e.row hb, e.len, e.ks, e.str⟩⟩
theorem OwnZ.but {P : Nat → Prop} {w w' : World} {B : Nat} {z : Bz} (h : OwnZ w B z) (hb : But P w w') (hp : ∀ b, z.blk b → ¬ P b) : OwnZ w' B z :=
  ⟨own_but h.ac hb (fun b e => hp b (.inl e)), h.al, h.astr, own_but h.es.row hb (fun b e => hp b (.inr (.inl e))), h.es.ql, h.es.el, fun i hi => by
    have e := h.es.ent i hi
    exact ⟨e.key, e.day, own_but e.row hb (fun b q => hp b (.inr (.inr ⟨i, hi, q⟩))), e.len, e.ks, e.str⟩⟩
/-- behind an append to a row of another type -/
theorem OwnZ.grows {w w' : World} {B B' s' n' : Nat} {v' : Value} {xs' : List Value} {z : Bz} (h : OwnZ w B z) (hv : w.ownsRow B' 25 s' v' n' xs') (hg : w.grownBy w' v'.ownBlock) : OwnZ w' B z :=
  ⟨own_grows h.ac hv hg (by decide), h.al, h.astr, own_grows h.es.row hv hg (by decide), h.es.ql, h.es.el, fun i hi => by
    have e := h.es.ent i hi
    exact ⟨e.key, e.day, own_grows e.row hv hg (by decide), e.len, e.ks, e.str⟩⟩
/-- a book of one's own is spoilt: nothing else is changed -/
theorem spoilt_z {B : Nat} {z : Bz} {w : World} (h : OwnZ w B z) : Calls Tryz.prog 26 #[.agg #[.slice z.A z.n z.c, .slice z.X z.m z.k, .int .i64 z.y.shut]] w fun e w' => e = .returned (.tuple #[]) ∧ But z.blk w w' := by
  have hm : z.m ≤ maxLen := by have := h.bq; exact Nat.le_trans this.le this.max
  exact spoilt_any z.A z.n z.c z.X z.m z.k z.y.shut (flat pc z.y.ac) z.qs w h.ac h.es.row h.es.ql hm (fun i hi => ⟨_, (h.es.ent i hi).row⟩) (fun b e => .inl e) (fun b e => .inr (.inl e)) (fun i hi b e => .inr (.inr ⟨i, hi, e⟩))
/-- books one behind the other -/
def ApartZ (L : List Bz) (S : List Nat) (n : Nat) (w : World) : Prop :=
  ∀ k, k < n → OwnZ w (S.getD k 0) (nz L k) ∧ (∀ b, (nz L k).blk b → b < S.getD (k + 1) 0) ∧ Few (nz L k).y ∧ S.getD k 0 ≤ S.getD (k + 1) 0
theorem ApartZ.le {L : List Bz} {S : List Nat} {n : Nat} {w : World} (h : ApartZ L S n w) {j k : Nat} (hj : j ≤ k) (hk : k ≤ n) : S.getD j 0 ≤ S.getD k 0 := by
  obtain ⟨d, rfl⟩ : ∃ d, k = j + d := ⟨k - j, by omega⟩
  clear hj
  induction d with
  | zero => exact Nat.le_refl _
  | succ d ih => exact Nat.le_trans (ih (by omega)) (h (j + d) (by omega)).2.2.2
theorem ApartZ.mor {L : List Bz} {S : List Nat} {n : Nat} {w w' : World} (h : ApartZ L S n w) (hm : Mor w w') : ApartZ L S n w' :=
  fun k hk => by obtain ⟨h1, h2⟩ := h k hk; exact ⟨h1.mor hm, h2⟩
/-- the blocks of the first k books -/
def Zk (L : List Bz) (k : Nat) (b : Nat) : Prop := ∃ j, j < k ∧ (nz L j).blk b
theorem Zk.up {L : List Bz} {k : Nat} : ∀ b, Zk L k b → Zk L (k + 1) b := by
  rintro b ⟨j, h, e⟩
  exact ⟨j, by omega, e⟩
theorem ApartZ.lt {L : List Bz} {S : List Nat} {n : Nat} {w : World} (h : ApartZ L S n w) {k b : Nat} (hk : k ≤ n) (hb : Zk L k b) : S.getD 0 0 ≤ b ∧ b < S.getD k 0 := by
  obtain ⟨j, hj, e⟩ := hb
  have h1 := (h j (by omega)).1.lt e
  exact ⟨Nat.le_trans (h.le (Nat.zero_le _) (by omega)) h1.1, Nat.lt_of_lt_of_le ((h j (by omega)).2.1 b e) (h.le hj hk)⟩
theorem ApartZ.own {L : List Bz} {S : List Nat} {n : Nat} {w w' : World} (h : ApartZ L S n w) {k : Nat} (hk : k < n) (hb : But (Zk L k) w w') : OwnZ w' (S.getD k 0) (nz L k) :=
  (h k hk).1.but hb (fun b e hp => by
    have h1 := (h.lt (Nat.le_of_lt hk) hp).2
    have h2 := ((h k hk).1.lt e).1
    omega)
/-- the cells of a row of books -/
theorem own_bz {w : World} {B n : Nat} {v : Value} {L : List Bz} (h : w.ownsRow B 25 3 v n (flat bz L)) (hq : L.length = n) {i : Nat} (hi : i < n) :
    ∃ g c, v = .slice (some ⟨g, 0, none⟩) n c ∧ B ≤ g ∧ g < w.heap.size ∧ w.cell? ⟨g, i * 3, none⟩ = some (.slice (nz L i).A (nz L i).n (nz L i).c) ∧ w.cell? ⟨g, i * 3 + 1, none⟩ = some (.slice (nz L i).X (nz L i).m (nz L i).k) ∧ w.cell? ⟨g, i * 3 + 2, none⟩ = some (.int .i64 (nz L i).y.shut) := by
  have hr := h
  obtain ⟨hlen, hh | ⟨g, cap, cur, rfl, hg, hb, h1, h2, h3, h4⟩⟩ := h
  · obtain ⟨_, rfl⟩ := hh; omega
  · refine ⟨g, cap, rfl, hg, (Array.getElem?_eq_some_iff.1 hb).1, ?_⟩
    have hi' : i < L.length := by rw [hq]; exact hi
    obtain ⟨b', o', hA', _, hc⟩ := Rd.field 3 bz_len (Rd.own hr) i hi' (by omega)
    injection hA' with hA'
    injection hA' with e1 e2
    subst e1 e2
    have c0 := hc 0 (by omega)
    have c1 := hc 1 (by omega)
    have c2 := hc 2 (by omega)
    rw [← nz_eq L i hi'] at c0 c1 c2
    refine ⟨?_, ?_, ?_⟩
    · simpa [bz] using c0
    · simpa [bz] using c1
    · simpa [bz] using c2

theorem own_siB {w : World} {B n c : Nat} {A : Option Addr} {xs : List Ln} (h : w.ownsRow B 34 2 (.slice A n c) n (flat pc xs)) : Si w A xs := Si.of_rd (Rd.own h)
theorem clone_own_ln {B n c : Nat} {A : Option Addr} {xs : List Ln} {w : World} (h : w.ownsRow B 34 2 (.slice A n c) n (flat pc xs)) (hl : xs.length = n) (hn : n ≤ 1000) :
    Calls Tryz.prog 24 #[.slice A n c] w fun e w' => ∃ D d, e = .returned (.slice D n d) ∧ w'.ownsRow w.heap.size 34 2 (.slice D n d) n (flat pc xs) ∧ Mor w w' := by
  have hs := own_siB h
  obtain ⟨_, ⟨hv, h0⟩ | ⟨g, cap, cur, hv, _⟩⟩ := h
  · injection hv with e1 e2 e3
    subst e1 e2 e3
    have hx : xs = [] := List.eq_nil_of_length_eq_zero hl
    subst hx
    refine (clone_lq none 0 0 [] w ⟨.inl rfl, rfl, Nat.le_refl _, Nat.zero_le _, fun _ => rfl, fun i hi => absurd hi (Nat.not_lt_zero _)⟩ (by simp)).mono ?_
    rintro e w' ⟨v, rfl, ho, hm⟩
    obtain ⟨D, d, rfl, -, -, -⟩ := own_shape ho
    exact ⟨D, d, rfl, ho, hm⟩
  · injection hv with e1 e2 e3
    subst e1
    refine (clone_ln _ n c xs w hs hl (by omega)).mono ?_
    rintro e w' ⟨v, rfl, ho, hm⟩
    obtain ⟨D, d, rfl, -, -, -⟩ := own_shape ho
    exact ⟨D, d, rfl, ho, hm⟩

theorem bk_bz {w : World} {g : Nat} {t : TypeId} {L : List Bz} (h : Bk w g t (flat bz L).toArray) (i : Nat) (hi : i < L.length) :
    w.cell? ⟨g, i * 3, none⟩ = some (.slice (nz L i).A (nz L i).n (nz L i).c) ∧ w.cell? ⟨g, i * 3 + 1, none⟩ = some (.slice (nz L i).X (nz L i).m (nz L i).k) ∧ w.cell? ⟨g, i * 3 + 2, none⟩ = some (.int .i64 (nz L i).y.shut) := by
  have hr : Rd w (some ⟨g, 0, none⟩) (flat bz L) := .inr ⟨g, 0, rfl, h.lt, fun j hj => by
    rw [Nat.zero_add, h.cell, List.getElem?_toArray, List.getD_eq_getElem?_getD, List.getElem?_eq_getElem hj]; rfl⟩
  obtain ⟨b', o', hA', _, hc⟩ := Rd.field 3 bz_len hr i hi (by omega)
  injection hA' with hA'
  injection hA' with e1 e2
  subst e1 e2
  have c0 := hc 0 (by omega)
  have c1 := hc 1 (by omega)
  have c2 := hc 2 (by omega)
  rw [← nz_eq L i hi] at c0 c1 c2
  rw [Nat.zero_add, Nat.add_zero] at c0
  rw [Nat.zero_add] at c1 c2
  refine ⟨?_, ?_, ?_⟩
  · simpa [bz] using c0
  · simpa [bz] using c1
  · simpa [bz] using c2

end Go.Proofs.YtohpibjjlfpaaaaGreatDoor
