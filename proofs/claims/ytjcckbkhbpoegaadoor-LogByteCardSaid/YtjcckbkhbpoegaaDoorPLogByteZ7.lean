/- The text of an entry, in plain Lean. -/
import Derived.Test.YtjcckbkhbpoegaaDoorPLogByteZ1
import Derived.Test.YtjcckbkhbpoegaaDoorPLogByteZ2
import Derived.Test.YtjcckbkhbpoegaaDoorPLogByteZ3
import Derived.Test.YtjcckbkhbpoegaaDoorPLogByteZ4
import Derived.Test.YtjcckbkhbpoegaaDoorPLogByteZ5
import Derived.Test.YtjcckbkhbpoegaaDoorPLogByteZ6
import Derived.Test.YtjcckbkhbpoegaaDoorRows
import Derived.BigQuiet
import Derived.DataElems
import Derived.Deep.LoopGhost
import Derived.Deep.QuietTactic
import Derived.Handy
import Derived.Laws.Cover1
import Derived.Lib.AtoiAll
import Derived.Lib.AtoiTie
import Derived.Lib.Bytealg
import Derived.Lib.CutLaws
import Derived.Lib.Hide
import Derived.Lib.ItoaLen
import Derived.Lib.ItoaNum
import Derived.Lib.LastIndexLaws
import Derived.Lib.SplitLaws
import Derived.OpenShut
import Derived.Outline
import Derived.PlainAid
import Derived.ProofKit
import Derived.RegionTactic
import Derived.Shelf.Abstract
import Derived.Sort.Walk0
import Derived.WalkKit
namespace Go.Proofs.YtjcckbkhbpoegaaDoor
open Go Go.Lib Go.PlainAid
set_option linter.unusedVariables false

abbrev ub (s : ByteArray) : List UInt8 := s.data.toList
theorem ub_inj {a b : ByteArray} (h : ub a = ub b) : a = b := by
  have : a.data = b.data := Array.toList_inj.1 h
  cases a; cases b; simp_all

/-! numerals -/
theorem decFrom_app : ∀ (a b : List UInt8) (acc n : Nat), decFrom acc a = some n → decFrom acc (a ++ b) = decFrom n b
  | [], b, acc, n, h => by simp [decFrom] at h; subst h; rfl
  | x :: a, b, acc, n, h => by
    simp only [decFrom] at h
    simp only [List.cons_append, decFrom]
    cases hd : digitVal x with
    | none => rw [hd] at h; cases h
    | some d => rw [hd] at h; exact decFrom_app a b _ n h
theorem dig_toNat (d : Nat) (h : d < 10) : (UInt8.ofNat (48 + d)).toNat = 48 + d := by rw [UInt8.toNat_ofNat']; omega
theorem digitVal_dig (d : Nat) (h : d < 10) : digitVal (UInt8.ofNat (48 + d)) = some d := by
  unfold digitVal
  rw [dig_toNat d h, if_pos (by omega)]
  congr 1; omega
theorem dec_all (u : Nat) : ∀ b ∈ decDigits u, 48 ≤ b.toNat ∧ b.toNat ≤ 57 := by
  induction u using Nat.strongRecOn with
  | _ u ih =>
    intro b hb
    rw [decDigits] at hb
    split at hb
    · rename_i h
      rw [List.mem_singleton.1 hb, dig_toNat u h]; omega
    · rename_i h
      rcases List.mem_append.1 hb with hb | hb
      · exact ih (u / 10) (by omega) b hb
      · rw [List.mem_singleton.1 hb, dig_toNat (u % 10) (by omega)]; omega
theorem dec_ne (u : Nat) : decDigits u ≠ [] := by
  rw [decDigits]; split <;> simp
theorem decFrom_dec (u : Nat) : decFrom 0 (decDigits u) = some u := by
  induction u using Nat.strongRecOn with
  | _ u ih =>
    rw [decDigits]
    split
    · rename_i h
      simp only [decFrom, digitVal_dig u h]; congr 1; omega
    · rename_i h
      rw [decFrom_app _ _ 0 (u / 10) (ih (u / 10) (by omega))]
      simp only [decFrom, digitVal_dig (u % 10) (by omega)]
      congr 1; omega
theorem decNat_dec (u : Nat) : decNat (decDigits u) = some u := by
  unfold decNat
  rw [if_neg (by simpa using dec_ne u), decFrom_dec]
theorem atoi_itoa (n : Int) : atoi (itoa n) = some n := by
  unfold itoa
  split
  · rename_i h
    show (decNat (decDigits n.natAbs)).map (fun (m : Nat) => -(m : Int)) = _
    rw [decNat_dec]
    show some (-(n.natAbs : Int)) = _
    congr 1; omega
  · rename_i h
    have hd := dec_all n.toNat
    have hn := decNat_dec n.toNat
    cases hl : decDigits n.toNat with
    | nil => exact absurd hl (dec_ne _)
    | cons b r =>
      rw [hl] at hd hn
      have hb := hd b (List.mem_cons_self ..)
      show (if (b == 45) = true then (decNat r).map (fun (m : Nat) => -(m : Int)) else if (b == 43) = true then (decNat r).map (fun (m : Nat) => (m : Int)) else (decNat (b :: r)).map (fun (m : Nat) => (m : Int))) = _
      have h1 : (b == 45) = false := by rw [beq_eq_false_iff_ne]; intro e; subst e; simp at hb
      have h2 : (b == 43) = false := by rw [beq_eq_false_iff_ne]; intro e; subst e; simp at hb
      rw [h1, h2]
      simp only [Bool.false_eq_true, if_false]
      rw [hn]
      show some ((n.toNat : Int)) = _
      congr 1; omega
theorem nDigits_le : ∀ (k u : Nat), u < 10 ^ k → 1 ≤ k → nDigits u ≤ k
  | 0, _, _, h => by omega
  | k + 1, u, h, _ => by
    by_cases h10 : u < 10
    · rw [nDigits_small h10]; omega
    · rw [nDigits_big h10]
      have hk : 1 ≤ k := by
        rcases Nat.eq_zero_or_pos k with e | e
        · subst e; simp at h; omega
        · exact e
      have := nDigits_le k (u / 10) (by rw [Nat.pow_succ] at h; omega) hk
      omega
theorem itoa_len (n : Int) (k : Nat) (hk : 1 ≤ k) (h : n.natAbs < 10 ^ k) : (itoa n).length ≤ k + 1 := by
  unfold itoa
  split
  · rw [List.length_cons, decDigits_length]
    have := nDigits_le k _ h hk; omega
  · rename_i h0
    rw [decDigits_length]
    have := nDigits_le k n.toNat (by rw [show n.toNat = n.natAbs by omega]; exact h) hk; omega
theorem atoiAll_itoa (n : Int) (h1 : -1000000000000000 ≤ n) (h2 : n ≤ 1000000000000000) : atoiAll (itoa n) = .ok n := by
  have hl := itoa_len n 16 (by omega) (by omega)
  rw [atoiAll_short _ (by omega), atoi_itoa]; rfl

/-! fine bytes -/
def fine (l : List UInt8) : Prop := ∀ b ∈ l, b ≠ 10 ∧ b ≠ 32 ∧ b ≠ 58 ∧ b ≠ 61
theorem fine_of {b : UInt8} (h : b.toNat = 45 ∨ (48 ≤ b.toNat ∧ b.toNat ≤ 57) ∨ (97 ≤ b.toNat ∧ b.toNat ≤ 122)) : b ≠ 10 ∧ b ≠ 32 ∧ b ≠ 58 ∧ b ≠ 61 := by
  refine ⟨?_, ?_, ?_, ?_⟩ <;> (intro e; subst e; simp at h)
theorem fine_itoa (n : Int) : fine (itoa n) := by
  intro b hb
  unfold itoa at hb
  split at hb
  · rcases List.mem_cons.1 hb with h | h
    · subst h; decide
    · exact fine_of (.inr (.inl (dec_all _ b h)))
  · exact fine_of (.inr (.inl (dec_all _ b hb)))
theorem ub_len (s : ByteArray) : (ub s).length = s.size := by simp [ub]
theorem ub_mem {s : ByteArray} {b : UInt8} (h : b ∈ ub s) : ∃ i, i < s.size ∧ bt s i = b.toNat := by
  obtain ⟨i, hi, e⟩ := List.mem_iff_getElem.1 h
  rw [ub_len] at hi
  refine ⟨i, hi, ?_⟩
  unfold bt
  rw [dif_pos hi, ← e]
  rfl
theorem fine_all {p : Int → Bool} {s : ByteArray} (h : allB p s s.size = true) (hp : ∀ c : Int, p c = true → c = 45 ∨ (48 ≤ c ∧ c ≤ 57) ∨ (97 ≤ c ∧ c ≤ 122)) : fine (ub s) := by
  intro b hb
  obtain ⟨i, hi, e⟩ := ub_mem hb
  unfold allB at h
  rw [List.all_eq_true] at h
  have := hp _ (h i (List.mem_range.2 hi))
  rw [e] at this
  exact fine_of (by omega)
theorem fine_key {s : ByteArray} (h : keyB s = true) : fine (ub s) := by
  unfold keyB at h
  simp only [Bool.and_eq_true] at h
  refine fine_all h.2 fun c hc => ?_
  unfold keyC at hc
  simp only [Bool.or_eq_true, Bool.and_eq_true, decide_eq_true_eq] at hc
  omega
theorem fine_code {s : ByteArray} (h : codeB s = true) : fine (ub s) := by
  unfold codeB at h
  simp only [Bool.and_eq_true] at h
  refine fine_all h.2 fun c hc => ?_
  unfold digB at hc
  simp only [Bool.and_eq_true, decide_eq_true_eq] at hc
  omega

/-! the text -/
def lnW (l : Ln) : List UInt8 := ub l.1 ++ 58 :: itoa l.2
def lnT (l : Ln) : List UInt8 := 32 :: lnW l
def plainT (x : En) : List UInt8 := ub x.key ++ 32 :: itoa x.day ++ x.ls.flatMap lnT
def wsum (l : List UInt8) : Nat → Nat
  | 0 => 0
  | k + 1 => wsum l k + (k + 1) * (l.getD k 0).toNat
def ckUp (l : List UInt8) : Nat → Nat
  | 0 => 0
  | k + 1 => (ckUp l k + (k + 1) * (l.getD k 0).toNat) % 65521
theorem ckUp_eq (l : List UInt8) (k : Nat) : ckUp l k = wsum l k % 65521 := by
  induction k with
  | zero => rfl
  | succ k ih =>
    show (ckUp l k + (k + 1) * (l.getD k 0).toNat) % 65521 = (wsum l k + (k + 1) * (l.getD k 0).toNat) % 65521
    rw [ih]; omega
theorem ckUp_lt (l : List UInt8) (k : Nat) : ckUp l k < 65521 := by rw [ckUp_eq]; omega
def cks (l : List UInt8) : Nat := ckUp l l.length
theorem cks_lt (l : List UInt8) : cks l < 65521 := ckUp_lt l _
def sumT (l : List UInt8) : List UInt8 := l ++ 32 :: 61 :: itoa (cks l)
def textT (x : En) : List UInt8 := sumT (plainT x) ++ [10]

/-! where a byte stands -/
theorem indexByte_app : ∀ (a r : List UInt8) (c : UInt8), (∀ b ∈ a, b ≠ c) → indexByte (a ++ c :: r) c = a.length
  | [], r, c, _ => by simp [indexByte]
  | x :: a, r, c, h => by
    have h1 : (x == c) = false := by simpa using h x (List.mem_cons_self ..)
    have ih := indexByte_app a r c fun b hb => h b (List.mem_cons_of_mem _ hb)
    simp only [List.cons_append, indexByte, h1, Bool.false_eq_true, if_false, ih]
    rw [if_neg (by simp)]
    simp
/-! words -/
def joinW : List (List UInt8) → List UInt8
  | [] => []
  | [w] => w
  | w :: v :: r => w ++ 32 :: joinW (v :: r)
theorem joinW_flat (w : List UInt8) (f : Ln → List UInt8) (ls : List Ln) : joinW (w :: ls.map f) = w ++ ls.flatMap fun l => 32 :: f l := by
  induction ls generalizing w with
  | nil => simp [joinW]
  | cons l ls ih =>
    show w ++ 32 :: joinW (f l :: ls.map f) = _
    rw [ih (f l)]
    simp
def words (x : En) : List (List UInt8) := ub x.key :: itoa x.day :: x.ls.map lnW
theorem plain_words (x : En) : plainT x = joinW (words x) := by
  show ub x.key ++ 32 :: itoa x.day ++ x.ls.flatMap lnT = ub x.key ++ 32 :: joinW (itoa x.day :: x.ls.map lnW)
  rw [joinW_flat]
  unfold lnT
  simp
/-! what is read -/
def atoiV (l : List UInt8) : Int := match atoiAll l with | .ok v => v | .range => atoiSat l | _ => 0
def lnOf' (w : ByteArray) : Ln := (⟨(cut (ub w) [58]).1.toArray⟩, atoiV (cut (ub w) [58]).2.1)
def parseW (ws : List ByteArray) : En := ⟨ws.getD 0 ByteArray.empty, if 1 < ws.length then atoiV (ub (ws.getD 1 ByteArray.empty)) else 0, (ws.drop 2).map lnOf'⟩
def sp : ByteArray := { data := #[32] }
def speq : ByteArray := { data := #[32, 61] }
def parseB (s : ByteArray) : En := parseW (splitB sp 0 (countB s sp) s)
theorem atoiV_itoa (n : Int) (h1 : -1000000000000000 ≤ n) (h2 : n ≤ 1000000000000000) : atoiV (itoa n) = n := by
  unfold atoiV; rw [atoiAll_itoa n h1 h2]
/-- an entry whose text is read again -/
structure EnOk (x : En) : Prop where
  key : keyB x.key = true
  d0 : 0 ≤ x.day
  d9 : x.day ≤ 292193
  ln : ∀ l ∈ x.ls, codeB l.1 = true ∧ -1000000000000 ≤ l.2 ∧ l.2 ≤ 1000000000000
  len : x.ls.length ≤ 12
theorem enOk_of {x : En} (h : enc x = 0) : EnOk x := by
  obtain ⟨h1, h2, h3, h4⟩ := entc_ok h
  obtain ⟨a1, a2, a3, a4⟩ := linec_ok h4
  refine ⟨h1, h2, h3, fun l hl => ?_, a1⟩
  obtain ⟨i, hi, rfl⟩ := List.mem_iff_getElem.1 hl
  obtain ⟨b1, b2, b3, _⟩ := lnAt_ok (a4 i hi)
  have e1 : cd x.ls i = x.ls[i].1 := by unfold cd; rw [List.getD_eq_getElem?_getD, List.getElem?_eq_getElem hi]; rfl
  have e2 : am x.ls i = x.ls[i].2 := by unfold am; rw [List.getD_eq_getElem?_getD, List.getElem?_eq_getElem hi]; rfl
  rw [e1] at b1; rw [e2] at b2 b3
  exact ⟨b1, b2, b3⟩
theorem fine_word {x : En} (h : EnOk x) : ∀ w ∈ words x, ∀ b ∈ w, b ≠ 10 ∧ b ≠ 32 ∧ b ≠ 61 := by
  intro w hw b hb
  unfold words at hw
  rcases List.mem_cons.1 hw with e | hw
  · subst e; have := fine_key h.key b hb; exact ⟨this.1, this.2.1, this.2.2.2⟩
  rcases List.mem_cons.1 hw with e | hw
  · subst e; have := fine_itoa x.day b hb; exact ⟨this.1, this.2.1, this.2.2.2⟩
  obtain ⟨l, hl, rfl⟩ := List.mem_map.1 hw
  unfold lnW at hb
  rcases List.mem_append.1 hb with hb | hb
  · have := fine_code (h.ln l hl).1 b hb; exact ⟨this.1, this.2.1, this.2.2.2⟩
  rcases List.mem_cons.1 hb with e | hb
  · subst e; decide
  · have := fine_itoa l.2 b hb; exact ⟨this.1, this.2.1, this.2.2.2⟩
theorem joinW_mem : ∀ (ws : List (List UInt8)) (b : UInt8), b ∈ joinW ws → b = 32 ∨ ∃ w ∈ ws, b ∈ w
  | [], b, h => by simp [joinW] at h
  | [w], b, h => .inr ⟨w, List.mem_cons_self .., h⟩
  | w :: v :: r, b, h => by
    have h : b ∈ w ++ 32 :: joinW (v :: r) := h
    rcases List.mem_append.1 h with h | h
    · exact .inr ⟨w, List.mem_cons_self .., h⟩
    rcases List.mem_cons.1 h with h | h
    · exact .inl h
    · rcases joinW_mem (v :: r) b h with h | ⟨u, hu, hb⟩
      · exact .inl h
      · exact .inr ⟨u, List.mem_cons_of_mem _ hu, hb⟩
/-- no end and no sum stands in an entry's plain text -/
theorem plain_fine {x : En} (h : EnOk x) : ∀ b ∈ plainT x, b ≠ 10 ∧ b ≠ 61 := by
  intro b hb
  rw [plain_words] at hb
  rcases joinW_mem _ b hb with e | ⟨w, hw, hb⟩
  · subst e; decide
  · have := fine_word h w hw b hb; exact ⟨this.1, this.2.2⟩
theorem sumT_fine {x : En} (h : EnOk x) : ∀ b ∈ sumT (plainT x), b ≠ 10 := by
  intro b hb
  unfold sumT at hb
  rcases List.mem_append.1 hb with hb | hb
  · exact (plain_fine h b hb).1
  rcases List.mem_cons.1 hb with e | hb
  · subst e; decide
  rcases List.mem_cons.1 hb with e | hb
  · subst e; decide
  · exact (fine_itoa _ b hb).1
/-- the text as a string -/
def textB (x : En) : ByteArray := ⟨(textT x).toArray⟩
theorem textB_ub (x : En) : ub (textB x) = textT x := by simp [textB, ub]
def rdAt (s : ByteArray) : Int := indexByte (ub s) 10
def rdL (s : ByteArray) : ByteArray := s.extract 0 (rdAt s).toNat
def rdK (s : ByteArray) : Int := lastIndex (ub (rdL s)) [32, 61]
def rdN (s : ByteArray) : ByteArray := (rdL s).extract ((rdK s).toNat + 2) (rdL s).size
def rdP (s : ByteArray) : ByteArray := (rdL s).extract 0 (rdK s).toNat
def rdE (s : ByteArray) : En := parseB (rdP s)
/-- does it spell a sum, and in its own way? -/
def rdOk (l : List UInt8) : Prop := ∃ v : Int, atoiAll l = .ok v ∧ 0 ≤ v ∧ v ≤ 65520 ∧ itoa v = l
/-- what log.Read says is wrong with a string -/
noncomputable def rdc (s : ByteArray) : Int :=
  if rdAt s < 0 then 8 else if rdK s < 0 then 3
  else @ite _ (¬ rdOk (ub (rdN s))) (Classical.propDecidable _) 3
    (if atoiV (ub (rdN s)) ≠ cks (ub (rdP s)) then 7
    else if enc (rdE s) ≠ 0 ∨ textT (rdE s) ≠ ub (s.extract 0 ((rdAt s).toNat + 1)) then 3 else 0)
theorem ub_ext (s : ByteArray) (a b : Nat) : ub (s.extract a b) = ((ub s).drop a).take (b - a) := extract_data s a b
theorem rdL_ub {s : ByteArray} {t r : List UInt8} (h : ub s = t ++ 10 :: r) (ht : ∀ b ∈ t, b ≠ 10) : rdAt s = t.length ∧ ub (rdL s) = t := by
  have e : rdAt s = t.length := by unfold rdAt; rw [h]; exact indexByte_app t r 10 ht
  refine ⟨e, ?_⟩
  unfold rdL
  rw [ub_ext, e, h]; simp
end Go.Proofs.YtjcckbkhbpoegaaDoor

/- Plain laws: two texts of entries never differ in one byte alone. -/
namespace Go.Proofs.YtjcckbkhbpoegaaDoor
open Go Go.Lib
set_option linter.unusedVariables false

theorem wsum_diff (l l' : List UInt8) (i : Nat) (h : ∀ j, j ≠ i → l.getD j 0 = l'.getD j 0) :
    ∀ k : Nat, (wsum l k : Int) - wsum l' k = if i < k then ((i : Int) + 1) * (((l.getD i 0).toNat : Int) - (l'.getD i 0).toNat) else 0
  | 0 => by simp [wsum]
  | k + 1 => by
    have ih := wsum_diff l l' i h k
    simp only [wsum, Int.natCast_add, Int.natCast_mul, Int.natCast_one]
    by_cases hk : k = i
    · subst hk
      rw [if_neg (Nat.lt_irrefl _)] at ih
      rw [if_pos (Nat.lt_succ_self _), Int.mul_sub]
      omega
    · rw [h k hk]
      by_cases hi : i < k
      · rw [if_pos hi] at ih; rw [if_pos (by omega)]; omega
      · rw [if_neg hi] at ih; rw [if_neg (by omega)]; omega
theorem small_div : ∀ d : Nat, d < 256 → 2 ≤ d → 65521 % d ≠ 0 := by decide +kernel
theorem no_mul (m d : Nat) (hm : 1 ≤ m) (hm2 : m ≤ 331) (hd : 1 ≤ d) (hd2 : d < 256) : (m * d) % 65521 ≠ 0 := by
  intro h
  have h1 : m * d ≤ 331 * 255 := Nat.mul_le_mul hm2 (by omega)
  have h0 : 1 ≤ m * d := Nat.mul_pos hm hd
  have e : m * d = 65521 := by omega
  by_cases h2 : 2 ≤ d
  · exact small_div d hd2 h2 (by rw [← e]; exact Nat.mul_mod_left m d)
  · obtain rfl : d = 1 := by omega
    omega
theorem cks_ne {p q : List UInt8} {i : Nat} (hl : p.length = q.length) (h : ∀ j, j ≠ i → p.getD j 0 = q.getD j 0) (hi : i < p.length) (hn : p.getD i 0 ≠ q.getD i 0) (hz : p.length ≤ 330) : cks p ≠ cks q := by
  intro e
  unfold cks at e
  rw [← hl, ckUp_eq, ckUp_eq] at e
  have hd := wsum_diff p q i h p.length
  rw [if_pos hi] at hd
  have ha := UInt8.toNat_lt (p.getD i 0)
  have hb := UInt8.toNat_lt (q.getD i 0)
  have hne : (p.getD i 0).toNat ≠ (q.getD i 0).toNat := fun g => hn (UInt8.toNat_inj.1 g)
  generalize (p.getD i 0).toNat = a at *
  generalize (q.getD i 0).toNat = b at *
  generalize wsum p p.length = s at *
  generalize wsum q p.length = t at *
  by_cases hab : b ≤ a
  · have := no_mul (i + 1) (a - b) (by omega) (by omega) (by omega) (by omega)
    have e2 : ((i : Int) + 1) * ((a : Int) - b) = (((i + 1) * (a - b) : Nat) : Int) := by
      rw [Int.natCast_mul, Int.natCast_sub hab]; simp
    rw [e2] at hd
    generalize (i + 1) * (a - b) = m at *
    omega
  · have := no_mul (i + 1) (b - a) (by omega) (by omega) (by omega) (by omega)
    have e2 : ((i : Int) + 1) * ((a : Int) - b) = -(((i + 1) * (b - a) : Nat) : Int) := by
      rw [Int.natCast_mul, Int.natCast_sub (by omega), ← Int.mul_neg, show -((b : Int) - a) = (a : Int) - b by omega]; simp
    rw [e2] at hd
    generalize (i + 1) * (b - a) = m at *
    omega
theorem getD_mem {l : List UInt8} {j : Nat} (h : j < l.length) : l.getD j 0 ∈ l := by
  rw [List.getD_eq_getElem?_getD, List.getElem?_eq_getElem h]; exact List.getElem_mem h
theorem getD_left {a b : List UInt8} {j : Nat} (h : j < a.length) : (a ++ b).getD j 0 = a.getD j 0 := by
  rw [List.getD_eq_getElem?_getD, List.getD_eq_getElem?_getD, List.getElem?_append_left h]
theorem getD_right {a b : List UInt8} {j : Nat} (h : a.length ≤ j) : (a ++ b).getD j 0 = b.getD (j - a.length) 0 := by
  rw [List.getD_eq_getElem?_getD, List.getD_eq_getElem?_getD, List.getElem?_append_right h]
theorem sumT_at (p : List UInt8) : (sumT p).getD (p.length + 1) 0 = 61 := by
  unfold sumT
  rw [getD_right (by omega), show p.length + 1 - p.length = 1 by omega]; rfl
theorem sumT_61 {p : List UInt8} (hp : ∀ b ∈ p, b ≠ 61) {j : Nat} (h : (sumT p).getD j 0 = 61) : j = p.length + 1 := by
  unfold sumT at h
  by_cases h1 : j < p.length
  · rw [getD_left h1] at h; exact absurd h (hp _ (getD_mem h1))
  rw [getD_right (by omega)] at h
  by_cases h2 : j = p.length
  · subst h2; rw [Nat.sub_self] at h; cases h
  by_cases h3 : j = p.length + 1
  · exact h3
  obtain ⟨m, hm⟩ : ∃ m, j - p.length = m + 2 := ⟨j - p.length - 2, by omega⟩
  rw [hm] at h
  have h' : (itoa (cks p)).getD m 0 = 61 := h
  by_cases h4 : m < (itoa (cks p)).length
  · exact absurd h' (fine_itoa _ _ (getD_mem h4)).2.2.2
  · rw [List.getD_eq_getElem?_getD, List.getElem?_eq_none (by omega)] at h'
    cases h'
theorem sumT_dig (p : List UInt8) : (sumT p).drop (p.length + 2) = itoa (cks p) := by
  unfold sumT
  rw [← List.drop_drop, List.drop_left]; rfl
theorem ext_getD {a b : List UInt8} (hl : a.length = b.length) (h : ∀ j, j < a.length → a.getD j 0 = b.getD j 0) : a = b := by
  apply List.ext_getElem hl
  intro i hi hj
  have := h i hi
  rwa [List.getD_eq_getElem?_getD, List.getD_eq_getElem?_getD, List.getElem?_eq_getElem hi, List.getElem?_eq_getElem hj] at this
theorem getD_drop (l : List UInt8) (m j : Nat) : (l.drop m).getD j 0 = l.getD (m + j) 0 := by
  rw [List.getD_eq_getElem?_getD, List.getD_eq_getElem?_getD, List.getElem?_drop]
/-- two sums' texts never differ at one place alone -/
theorem sumT_one {p q : List UInt8} (hp : ∀ b ∈ p, b ≠ 61) (hq : ∀ b ∈ q, b ≠ 61) (hz : p.length ≤ 330) (hl : (sumT p).length = (sumT q).length) {i : Nat} (hi : i < (sumT p).length)
    (h : ∀ j, j ≠ i → (sumT p).getD j 0 = (sumT q).getD j 0) (hn : (sumT p).getD i 0 ≠ (sumT q).getD i 0) : False := by
  by_cases e : p.length = q.length
  · by_cases hip : i < p.length
    · have hd : itoa (cks p) = itoa (cks q) := by
        rw [← sumT_dig, ← sumT_dig, e]
        apply ext_getD (by rw [List.length_drop, List.length_drop, hl])
        intro j _
        rw [getD_drop, getD_drop, h _ (by omega)]
      have hcp := cks_lt p
      have hcq := cks_lt q
      have hc : (cks p : Int) = cks q := by rw [← atoiV_itoa (cks p) (by omega) (by omega), hd, atoiV_itoa _ (by omega) (by omega)]
      have hpq : ∀ j, j < p.length → (sumT p).getD j 0 = p.getD j 0 ∧ (sumT q).getD j 0 = q.getD j 0 := fun j hj => ⟨by unfold sumT; exact getD_left hj, by unfold sumT; exact getD_left (by omega)⟩
      refine cks_ne e (fun j hj => ?_) hip (by rw [← (hpq i hip).1, ← (hpq i hip).2]; exact hn) hz (by omega)
      by_cases hj2 : j < p.length
      · rw [← (hpq j hj2).1, ← (hpq j hj2).2]; exact h j hj
      · rw [List.getD_eq_getElem?_getD, List.getD_eq_getElem?_getD, List.getElem?_eq_none (by omega), List.getElem?_eq_none (by omega)]
    · have : p = q := by
        apply ext_getD e
        intro j hj
        have := h j (by omega)
        unfold sumT at this
        rwa [getD_left hj, getD_left (by omega)] at this
      subst this
      exact hn rfl
  · have hpl : p.length + 1 < (sumT p).length := by unfold sumT; simp
    have hql : q.length + 1 < (sumT q).length := by unfold sumT; simp
    have a1 : p.length + 1 = i := Classical.byContradiction fun g => e (by
      have := h _ g
      rw [sumT_at] at this
      have := sumT_61 hq this.symm
      omega)
    have a2 : q.length + 1 = i := Classical.byContradiction fun g => e (by
      have := h _ g
      rw [sumT_at] at this
      have := sumT_61 hp this
      omega)
    omega

/-- an entry's text in which one byte is another (neither of them an end) is refused: 3 or 7 -/
theorem byte_bad {x : En} (h : enc x = 0) (hz : (plainT x).length ≤ 330) {i : Nat} (hi : i + 1 < (textT x).length) {c : UInt8} (hc : c ≠ 10) (hn : c ≠ (textT x).getD i 0) {s : ByteArray} (hs : ub s = (textT x).set i c) : rdc s = 3 ∨ rdc s = 7 := by
  have hx := enOk_of h
  have hlt : (textT x).length = (sumT (plainT x)).length + 1 := by unfold textT; simp
  have hset : ub s = (sumT (plainT x)).set i c ++ 10 :: [] := by
    rw [hs]; unfold textT; rw [List.set_append, if_pos (by omega)]
  obtain ⟨a1, a2⟩ := rdL_ub hset (by
    intro b hb
    rcases List.mem_or_eq_of_mem_set hb with g | g
    · exact sumT_fine hx b g
    · subst g; exact hc)
  unfold rdc
  rw [if_neg (by omega)]
  split
  · exact .inl rfl
  split
  · exact .inl rfl
  split
  · exact .inr rfl
  split
  · exact .inl rfl
  rename_i g
  exfalso
  have g1 : enc (rdE s) = 0 := Classical.byContradiction fun q => g (.inl q)
  have g2 : textT (rdE s) = ub (s.extract 0 ((rdAt s).toNat + 1)) := Classical.byContradiction fun q => g (.inr q)
  rw [ub_ext, a1, hset, List.length_set] at g2
  rw [show ((sumT (plainT x)).length : Int).toNat + 1 - 0 = (sumT (plainT x)).length + 1 by simp, List.drop_zero, List.take_of_length_le (by simp)] at g2
  have hy := enOk_of g1
  generalize rdE s = y at *
  have g3 : sumT (plainT y) = (sumT (plainT x)).set i c := by
    unfold textT at g2
    exact List.append_cancel_right g2
  refine sumT_one (p := plainT x) (q := plainT y) (fun b hb => (plain_fine hx b hb).2) (fun b hb => (plain_fine hy b hb).2) hz (by rw [g3, List.length_set]) (i := i) (by omega) ?_ ?_
  · intro j hj
    rw [g3, List.getD_eq_getElem?_getD, List.getD_eq_getElem?_getD, List.getElem?_set_ne (fun e => hj e.symm)]
  · rw [g3, List.getD_eq_getElem?_getD (l := (sumT (plainT x)).set i c), List.getElem?_set_self (by omega)]
    intro e
    apply hn
    unfold textT
    rw [getD_left (by omega)]
    exact e.symm

end Go.Proofs.YtjcckbkhbpoegaaDoor
