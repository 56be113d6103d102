/- The text of an entry, in plain Lean. -/
import Derived.Test.YtjcckbkhbpoegaaDoorPLogOneZ1
import Derived.Test.YtjcckbkhbpoegaaDoorPLogOneZ2
import Derived.Test.YtjcckbkhbpoegaaDoorPLogOneZ3
import Derived.Test.YtjcckbkhbpoegaaDoorPLogOneZ4
import Derived.Test.YtjcckbkhbpoegaaDoorPLogOneZ5
import Derived.Test.YtjcckbkhbpoegaaDoorPLogOneZ6
import Derived.Test.YtjcckbkhbpoegaaDoorRows
import Derived.BigQuiet
import Derived.DataElems
import Derived.Deep.LoopGhost
import Derived.Deep.QuietTactic
import Derived.Handy
import Derived.Laws.Cover1
import Derived.Lib.AtoiAll
import Derived.Lib.AtoiTie
import Derived.Lib.Bytealg
import Derived.Lib.CutLaws
import Derived.Lib.Hide
import Derived.Lib.ItoaLen
import Derived.Lib.ItoaNum
import Derived.Lib.LastIndexLaws
import Derived.Lib.SplitLaws
import Derived.OpenShut
import Derived.Outline
import Derived.PlainAid
import Derived.ProofKit
import Derived.RegionTactic
import Derived.Shelf.Abstract
import Derived.Sort.Walk0
import Derived.WalkKit
namespace Go.Proofs.YtjcckbkhbpoegaaDoor
open Go Go.Lib Go.PlainAid
set_option linter.unusedVariables false

abbrev ub (s : ByteArray) : List UInt8 := s.data.toList
theorem ub_inj {a b : ByteArray} (h : ub a = ub b) : a = b := by
  have : a.data = b.data := Array.toList_inj.1 h
  cases a; cases b; simp_all

/-! numerals -/
theorem nDigits_le : ∀ (k u : Nat), u < 10 ^ k → 1 ≤ k → nDigits u ≤ k
  | 0, _, _, h => by omega
  | k + 1, u, h, _ => by
    by_cases h10 : u < 10
    · rw [nDigits_small h10]; omega
    · rw [nDigits_big h10]
      have hk : 1 ≤ k := by
        rcases Nat.eq_zero_or_pos k with e | e
        · subst e; simp at h; omega
        · exact e
      have := nDigits_le k (u / 10) (by rw [Nat.pow_succ] at h; omega) hk
      omega
theorem itoa_len (n : Int) (k : Nat) (hk : 1 ≤ k) (h : n.natAbs < 10 ^ k) : (itoa n).length ≤ k + 1 := by
  unfold itoa
  split
  · rw [List.length_cons, decDigits_length]
    have := nDigits_le k _ h hk; omega
  · rename_i h0
    rw [decDigits_length]
    have := nDigits_le k n.toNat (by rw [show n.toNat = n.natAbs by omega]; exact h) hk; omega
/-! fine bytes -/
theorem ub_len (s : ByteArray) : (ub s).length = s.size := by simp [ub]
/-! the text -/
def lnW (l : Ln) : List UInt8 := ub l.1 ++ 58 :: itoa l.2
def lnT (l : Ln) : List UInt8 := 32 :: lnW l
def plainT (x : En) : List UInt8 := ub x.key ++ 32 :: itoa x.day ++ x.ls.flatMap lnT
def wsum (l : List UInt8) : Nat → Nat
  | 0 => 0
  | k + 1 => wsum l k + (k + 1) * (l.getD k 0).toNat
def ckUp (l : List UInt8) : Nat → Nat
  | 0 => 0
  | k + 1 => (ckUp l k + (k + 1) * (l.getD k 0).toNat) % 65521
theorem ckUp_eq (l : List UInt8) (k : Nat) : ckUp l k = wsum l k % 65521 := by
  induction k with
  | zero => rfl
  | succ k ih =>
    show (ckUp l k + (k + 1) * (l.getD k 0).toNat) % 65521 = (wsum l k + (k + 1) * (l.getD k 0).toNat) % 65521
    rw [ih]; omega
theorem ckUp_lt (l : List UInt8) (k : Nat) : ckUp l k < 65521 := by rw [ckUp_eq]; omega
def cks (l : List UInt8) : Nat := ckUp l l.length
theorem cks_lt (l : List UInt8) : cks l < 65521 := ckUp_lt l _
def sumT (l : List UInt8) : List UInt8 := l ++ 32 :: 61 :: itoa (cks l)
def textT (x : En) : List UInt8 := sumT (plainT x) ++ [10]

/-! where a byte stands -/
/-! words -/
/-! what is read -/
def atoiV (l : List UInt8) : Int := match atoiAll l with | .ok v => v | .range => atoiSat l | _ => 0
def lnOf' (w : ByteArray) : Ln := (⟨(cut (ub w) [58]).1.toArray⟩, atoiV (cut (ub w) [58]).2.1)
def parseW (ws : List ByteArray) : En := ⟨ws.getD 0 ByteArray.empty, if 1 < ws.length then atoiV (ub (ws.getD 1 ByteArray.empty)) else 0, (ws.drop 2).map lnOf'⟩
def sp : ByteArray := { data := #[32] }
def speq : ByteArray := { data := #[32, 61] }
def parseB (s : ByteArray) : En := parseW (splitB sp 0 (countB s sp) s)
/-- an entry whose text is read again -/
structure EnOk (x : En) : Prop where
  key : keyB x.key = true
  d0 : 0 ≤ x.day
  d9 : x.day ≤ 292193
  ln : ∀ l ∈ x.ls, codeB l.1 = true ∧ -1000000000000 ≤ l.2 ∧ l.2 ≤ 1000000000000
  len : x.ls.length ≤ 12
theorem enOk_of {x : En} (h : enc x = 0) : EnOk x := by
  obtain ⟨h1, h2, h3, h4⟩ := entc_ok h
  obtain ⟨a1, a2, a3, a4⟩ := linec_ok h4
  refine ⟨h1, h2, h3, fun l hl => ?_, a1⟩
  obtain ⟨i, hi, rfl⟩ := List.mem_iff_getElem.1 hl
  obtain ⟨b1, b2, b3, _⟩ := lnAt_ok (a4 i hi)
  have e1 : cd x.ls i = x.ls[i].1 := by unfold cd; rw [List.getD_eq_getElem?_getD, List.getElem?_eq_getElem hi]; rfl
  have e2 : am x.ls i = x.ls[i].2 := by unfold am; rw [List.getD_eq_getElem?_getD, List.getElem?_eq_getElem hi]; rfl
  rw [e1] at b1; rw [e2] at b2 b3
  exact ⟨b1, b2, b3⟩
/-- the text as a string -/
def textB (x : En) : ByteArray := ⟨(textT x).toArray⟩
theorem textB_ub (x : En) : ub (textB x) = textT x := by simp [textB, ub]
def rdAt (s : ByteArray) : Int := indexByte (ub s) 10
def rdL (s : ByteArray) : ByteArray := s.extract 0 (rdAt s).toNat
def rdK (s : ByteArray) : Int := lastIndex (ub (rdL s)) [32, 61]
def rdN (s : ByteArray) : ByteArray := (rdL s).extract ((rdK s).toNat + 2) (rdL s).size
def rdP (s : ByteArray) : ByteArray := (rdL s).extract 0 (rdK s).toNat
def rdE (s : ByteArray) : En := parseB (rdP s)
/-- does it spell a sum, and in its own way? -/
def rdOk (l : List UInt8) : Prop := ∃ v : Int, atoiAll l = .ok v ∧ 0 ≤ v ∧ v ≤ 65520 ∧ itoa v = l
/-- what log.Read says is wrong with a string -/
noncomputable def rdc (s : ByteArray) : Int :=
  if rdAt s < 0 then 8 else if rdK s < 0 then 3
  else @ite _ (¬ rdOk (ub (rdN s))) (Classical.propDecidable _) 3
    (if atoiV (ub (rdN s)) ≠ cks (ub (rdP s)) then 7
    else if enc (rdE s) ≠ 0 ∨ textT (rdE s) ≠ ub (s.extract 0 ((rdAt s).toNat + 1)) then 3 else 0)
theorem ub_ext (s : ByteArray) (a b : Nat) : ub (s.extract a b) = ((ub s).drop a).take (b - a) := extract_data s a b
end Go.Proofs.YtjcckbkhbpoegaaDoor
