/- The text of an entry, in plain Lean. -/
import Derived.Test.YtohpibjjlfpaaaaGreatDoorPBookOwnZ1
import Derived.Test.YtohpibjjlfpaaaaGreatDoorPBookOwnZ2
import Derived.Test.YtohpibjjlfpaaaaGreatDoorPBookOwnZ3
import Derived.Test.YtohpibjjlfpaaaaGreatDoorPBookOwnZ4
import Derived.Test.YtohpibjjlfpaaaaGreatDoorPBookOwnZ5
import Derived.Test.YtohpibjjlfpaaaaGreatDoorPBookOwnZ6
import Derived.Test.YtohpibjjlfpaaaaGreatDoorRows
import Derived.BigQuiet
import Derived.DataElems
import Derived.Deep.LoopGhost
import Derived.Deep.QuietTactic
import Derived.Handy
import Derived.Laws.Cover1
import Derived.Lib.AtoiAll
import Derived.Lib.AtoiTie
import Derived.Lib.Bytealg
import Derived.Lib.CutLaws
import Derived.Lib.Hide
import Derived.Lib.ItoaLen
import Derived.Lib.ItoaNum
import Derived.Lib.LastIndexLaws
import Derived.Lib.SplitLaws
import Derived.OpenShut
import Derived.Outline
import Derived.PlainAid
import Derived.ProofKit
import Derived.RegionTactic
import Derived.Shelf.Abstract
import Derived.Sort.Walk0
import Derived.WalkKit
namespace Go.Proofs.YtohpibjjlfpaaaaGreatDoor
open Go Go.Lib Go.PlainAid
set_option linter.unusedVariables false
set_option maxRecDepth 100000

abbrev ub (s : ByteArray) : List UInt8 := s.data.toList
theorem ub_inj {a b : ByteArray} (h : ub a = ub b) : a = b := by
  have : a.data = b.data := Array.toList_inj.1 h
  cases a; cases b; simp_all

/-! numerals -/
theorem decFrom_app : ∀ (a b : List UInt8) (acc n : Nat), decFrom acc a = some n → decFrom acc (a ++ b) = decFrom n b
  | [], b, acc, n, h => by simp [decFrom] at h; subst h; rfl
  | x :: a, b, acc, n, h => by
    simp only [decFrom] at h
    simp only [List.cons_append, decFrom]
    cases hd : digitVal x with
    | none => rw [hd] at h; cases h
    | some d => rw [hd] at h; exact decFrom_app a b _ n h
theorem dig_toNat (d : Nat) (h : d < 10) : (UInt8.ofNat (48 + d)).toNat = 48 + d := by rw [UInt8.toNat_ofNat']; omega
theorem digitVal_dig (d : Nat) (h : d < 10) : digitVal (UInt8.ofNat (48 + d)) = some d := by
  unfold digitVal
  rw [dig_toNat d h, if_pos (by omega)]
  congr 1; omega
theorem dec_all (u : Nat) : ∀ b ∈ decDigits u, 48 ≤ b.toNat ∧ b.toNat ≤ 57 := by
  induction u using Nat.strongRecOn with
  | _ u ih =>
    intro b hb
    rw [decDigits] at hb
    split at hb
    · rename_i h
      rw [List.mem_singleton.1 hb, dig_toNat u h]; omega
    · rename_i h
      rcases List.mem_append.1 hb with hb | hb
      · exact ih (u / 10) (by omega) b hb
      · rw [List.mem_singleton.1 hb, dig_toNat (u % 10) (by omega)]; omega
theorem dec_ne (u : Nat) : decDigits u ≠ [] := by
  rw [decDigits]; split <;> simp
theorem decFrom_dec (u : Nat) : decFrom 0 (decDigits u) = some u := by
  induction u using Nat.strongRecOn with
  | _ u ih =>
    rw [decDigits]
    split
    · rename_i h
      simp only [decFrom, digitVal_dig u h]; congr 1; omega
    · rename_i h
      rw [decFrom_app _ _ 0 (u / 10) (ih (u / 10) (by omega))]
      simp only [decFrom, digitVal_dig (u % 10) (by omega)]
      congr 1; omega
theorem decNat_dec (u : Nat) : decNat (decDigits u) = some u := by
  unfold decNat
  rw [if_neg (by simpa using dec_ne u), decFrom_dec]
theorem atoi_itoa (n : Int) : atoi (itoa n) = some n := by
  unfold itoa
  split
  · rename_i h
    show (decNat (decDigits n.natAbs)).map (fun (m : Nat) => -(m : Int)) = _
    rw [decNat_dec]
    show some (-(n.natAbs : Int)) = _
    congr 1; omega
  · rename_i h
    have hd := dec_all n.toNat
    have hn := decNat_dec n.toNat
    cases hl : decDigits n.toNat with
    | nil => exact absurd hl (dec_ne _)
    | cons b r =>
      rw [hl] at hd hn
      have hb := hd b (List.mem_cons_self ..)
      show (if (b == 45) = true then (decNat r).map (fun (m : Nat) => -(m : Int)) else if (b == 43) = true then (decNat r).map (fun (m : Nat) => (m : Int)) else (decNat (b :: r)).map (fun (m : Nat) => (m : Int))) = _
      have h1 : (b == 45) = false := by rw [beq_eq_false_iff_ne]; intro e; subst e; simp at hb
      have h2 : (b == 43) = false := by rw [beq_eq_false_iff_ne]; intro e; subst e; simp at hb
      rw [h1, h2]
      simp only [Bool.false_eq_true, if_false]
      rw [hn]
      show some ((n.toNat : Int)) = _
      congr 1; omega
theorem nDigits_le : ∀ (k u : Nat), u < 10 ^ k → 1 ≤ k → nDigits u ≤ k
  | 0, _, _, h => by omega
  | k + 1, u, h, _ => by
    by_cases h10 : u < 10
    · rw [nDigits_small h10]; omega
    · rw [nDigits_big h10]
      have hk : 1 ≤ k := by
        rcases Nat.eq_zero_or_pos k with e | e
        · subst e; simp at h; omega
        · exact e
      have := nDigits_le k (u / 10) (by rw [Nat.pow_succ] at h; omega) hk
      omega
theorem itoa_len (n : Int) (k : Nat) (hk : 1 ≤ k) (h : n.natAbs < 10 ^ k) : (itoa n).length ≤ k + 1 := by
  unfold itoa
  split
  · rw [List.length_cons, decDigits_length]
    have := nDigits_le k _ h hk; omega
  · rename_i h0
    rw [decDigits_length]
    have := nDigits_le k n.toNat (by rw [show n.toNat = n.natAbs by omega]; exact h) hk; omega
theorem atoiAll_itoa (n : Int) (h1 : -1000000000000000 ≤ n) (h2 : n ≤ 1000000000000000) : atoiAll (itoa n) = .ok n := by
  have hl := itoa_len n 16 (by omega) (by omega)
  rw [atoiAll_short _ (by omega), atoi_itoa]; rfl

/-! fine bytes -/
def fine (l : List UInt8) : Prop := ∀ b ∈ l, b ≠ 10 ∧ b ≠ 32 ∧ b ≠ 58 ∧ b ≠ 61
theorem fine_of {b : UInt8} (h : b.toNat = 45 ∨ (48 ≤ b.toNat ∧ b.toNat ≤ 57) ∨ (97 ≤ b.toNat ∧ b.toNat ≤ 122)) : b ≠ 10 ∧ b ≠ 32 ∧ b ≠ 58 ∧ b ≠ 61 := by
  refine ⟨?_, ?_, ?_, ?_⟩ <;> (intro e; subst e; simp at h)
theorem fine_itoa (n : Int) : fine (itoa n) := by
  intro b hb
  unfold itoa at hb
  split at hb
  · rcases List.mem_cons.1 hb with h | h
    · subst h; decide
    · exact fine_of (.inr (.inl (dec_all _ b h)))
  · exact fine_of (.inr (.inl (dec_all _ b hb)))
theorem ub_len (s : ByteArray) : (ub s).length = s.size := by simp [ub]
theorem ub_mem {s : ByteArray} {b : UInt8} (h : b ∈ ub s) : ∃ i, i < s.size ∧ bt s i = b.toNat := by
  obtain ⟨i, hi, e⟩ := List.mem_iff_getElem.1 h
  rw [ub_len] at hi
  refine ⟨i, hi, ?_⟩
  unfold bt
  rw [dif_pos hi, ← e]
  rfl
theorem fine_all {p : Int → Bool} {s : ByteArray} (h : allB p s s.size = true) (hp : ∀ c : Int, p c = true → c = 45 ∨ (48 ≤ c ∧ c ≤ 57) ∨ (97 ≤ c ∧ c ≤ 122)) : fine (ub s) := by
  intro b hb
  obtain ⟨i, hi, e⟩ := ub_mem hb
  unfold allB at h
  rw [List.all_eq_true] at h
  have := hp _ (h i (List.mem_range.2 hi))
  rw [e] at this
  exact fine_of (by omega)
theorem fine_key {s : ByteArray} (h : keyB s = true) : fine (ub s) := by
  unfold keyB at h
  simp only [Bool.and_eq_true] at h
  refine fine_all h.2 fun c hc => ?_
  unfold keyC at hc
  simp only [Bool.or_eq_true, Bool.and_eq_true, decide_eq_true_eq] at hc
  omega
theorem fine_code {s : ByteArray} (h : codeB s = true) : fine (ub s) := by
  unfold codeB at h
  simp only [Bool.and_eq_true] at h
  refine fine_all h.2 fun c hc => ?_
  unfold digB at hc
  simp only [Bool.and_eq_true, decide_eq_true_eq] at hc
  omega

/-! the text -/
def lnW (l : Ln) : List UInt8 := ub l.1 ++ 58 :: itoa l.2
def lnT (l : Ln) : List UInt8 := 32 :: lnW l
def plainT (x : En) : List UInt8 := ub x.key ++ 32 :: itoa x.day ++ x.ls.flatMap lnT
def wsum (l : List UInt8) : Nat → Nat
  | 0 => 0
  | k + 1 => wsum l k + (k + 1) * (l.getD k 0).toNat
def ckUp (l : List UInt8) : Nat → Nat
  | 0 => 0
  | k + 1 => (ckUp l k + (k + 1) * (l.getD k 0).toNat) % 65521
theorem ckUp_eq (l : List UInt8) (k : Nat) : ckUp l k = wsum l k % 65521 := by
  induction k with
  | zero => rfl
  | succ k ih =>
    show (ckUp l k + (k + 1) * (l.getD k 0).toNat) % 65521 = (wsum l k + (k + 1) * (l.getD k 0).toNat) % 65521
    rw [ih]; omega
theorem ckUp_lt (l : List UInt8) (k : Nat) : ckUp l k < 65521 := by rw [ckUp_eq]; omega
def cks (l : List UInt8) : Nat := ckUp l l.length
theorem cks_lt (l : List UInt8) : cks l < 65521 := ckUp_lt l _
def sumT (l : List UInt8) : List UInt8 := l ++ 32 :: 61 :: itoa (cks l)
def textT (x : En) : List UInt8 := sumT (plainT x) ++ [10]

/-! where a byte stands -/
theorem indexByte_app : ∀ (a r : List UInt8) (c : UInt8), (∀ b ∈ a, b ≠ c) → indexByte (a ++ c :: r) c = a.length
  | [], r, c, _ => by simp [indexByte]
  | x :: a, r, c, h => by
    have h1 : (x == c) = false := by simpa using h x (List.mem_cons_self ..)
    have ih := indexByte_app a r c fun b hb => h b (List.mem_cons_of_mem _ hb)
    simp only [List.cons_append, indexByte, h1, Bool.false_eq_true, if_false, ih]
    rw [if_neg (by simp)]
    simp
theorem indexByte_no : ∀ (a : List UInt8) (c : UInt8), (∀ b ∈ a, b ≠ c) → indexByte a c = -1
  | [], c, _ => rfl
  | x :: a, c, h => by
    have h1 : (x == c) = false := by simpa using h x (List.mem_cons_self ..)
    have ih := indexByte_no a c fun b hb => h b (List.mem_cons_of_mem _ hb)
    simp [indexByte, h1, ih]
theorem occ2 (p d : List UInt8) : occAt (p ++ 32 :: 61 :: d) [32, 61] p.length = true := by
  unfold occAt
  rw [List.drop_left]
  simp
theorem lastIndex_sum (p d : List UInt8) (hd : ∀ b ∈ d, b ≠ 61) : lastIndex (p ++ 32 :: 61 :: d) [32, 61] = p.length := by
  unfold lastIndex
  have hl : (p ++ 32 :: 61 :: d).length = p.length + d.length + 2 := by rw [List.length_append]; rfl
  rw [if_pos (by rw [hl]; simp), hl]
  rcases lastOcc_spec (p ++ 32 :: 61 :: d) [32, 61] (p.length + d.length + 2 - [(32 : UInt8), 61].length + 1) with ⟨_, hn⟩ | ⟨i, hi, e, ho, hn⟩
  · have := hn p.length (by simp only [List.length_cons, List.length_nil]; omega)
    rw [occ2] at this; cases this
  · rw [e]
    by_cases h1 : i = p.length
    · rw [h1]
    · by_cases h2 : i < p.length
      · have := hn p.length h2 (by simp; omega)
        rw [occ2] at this; cases this
      · exfalso
        have h3 := occAt_second (c0 := 32) (c1 := 61) (t := []) rfl ho
        rw [List.getElem?_append_right (by omega)] at h3
        obtain ⟨m, hm⟩ : ∃ m, i + 1 - p.length = m + 2 := ⟨i + 1 - p.length - 2, by omega⟩
        rw [hm] at h3
        simp only [List.getElem?_cons_succ] at h3
        exact hd 61 (List.mem_of_getElem? h3) rfl

/-! words -/
def joinW : List (List UInt8) → List UInt8
  | [] => []
  | [w] => w
  | w :: v :: r => w ++ 32 :: joinW (v :: r)
theorem joinW_flat (w : List UInt8) (f : Ln → List UInt8) (ls : List Ln) : joinW (w :: ls.map f) = w ++ ls.flatMap fun l => 32 :: f l := by
  induction ls generalizing w with
  | nil => simp [joinW]
  | cons l ls ih =>
    show w ++ 32 :: joinW (f l :: ls.map f) = _
    rw [ih (f l)]
    simp
def words (x : En) : List (List UInt8) := ub x.key :: itoa x.day :: x.ls.map lnW
theorem plain_words (x : En) : plainT x = joinW (words x) := by
  show ub x.key ++ 32 :: itoa x.day ++ x.ls.flatMap lnT = ub x.key ++ 32 :: joinW (itoa x.day :: x.ls.map lnW)
  rw [joinW_flat]
  unfold lnT
  simp
theorem index_one (w r : List UInt8) (c : UInt8) (h : ∀ b ∈ w, b ≠ c) : index (w ++ c :: r) [c] = w.length := by
  refine index_first (by simp) ?_ fun j hj => ?_
  · unfold occAt; rw [List.drop_left]; simp
  · cases ho : occAt (w ++ c :: r) [c] j
    · rfl
    · have := occAt_head (c := c) (t := []) rfl ho
      rw [List.getElem?_append_left hj] at this
      exact absurd rfl (h c (List.mem_of_getElem? this))
theorem splitK_join : ∀ (ws : List (List UInt8)), ws ≠ [] → (∀ w ∈ ws, ∀ b ∈ w, b ≠ 32) → splitK [32] 0 (ws.length - 1) (joinW ws) = ws
  | [], h, _ => absurd rfl h
  | [w], _, _ => by simp [joinW, splitK]
  | w :: v :: r, _, hf => by
    have ih := splitK_join (v :: r) (by simp) fun u hu => hf u (List.mem_cons_of_mem _ hu)
    have hi := index_one w (joinW (v :: r)) 32 (hf w (List.mem_cons_self ..))
    show splitK [32] 0 (r.length + 1) (w ++ 32 :: joinW (v :: r)) = _
    simp only [splitK]
    rw [hi, if_neg (by simp)]
    have e1 : (w ++ 32 :: joinW (v :: r)).take ((w.length : Int).toNat + 0) = w := by simp
    have e2 : (w ++ 32 :: joinW (v :: r)).drop ((w.length : Int).toNat + [(32 : UInt8)].length) = joinW (v :: r) := by
      rw [show ((w.length : Int).toNat + [(32 : UInt8)].length) = w.length + 1 by simp, ← List.drop_drop, List.drop_left]; rfl
    rw [e1, e2]
    exact congrArg (w :: ·) ih
theorem count_join : ∀ (ws : List (List UInt8)), ws ≠ [] → (∀ w ∈ ws, ∀ b ∈ w, b ≠ 32) → (joinW ws).count 32 = ws.length - 1
  | [], h, _ => absurd rfl h
  | [w], _, hf => by
    show w.count 32 = 0
    exact List.count_eq_zero.2 fun h => hf w (List.mem_cons_self ..) 32 h rfl
  | w :: v :: r, _, hf => by
    have ih := count_join (v :: r) (by simp) fun u hu => hf u (List.mem_cons_of_mem _ hu)
    show (w ++ 32 :: joinW (v :: r)).count 32 = r.length + 1
    rw [List.count_append, List.count_cons, ih, List.count_eq_zero.2 fun h => hf w (List.mem_cons_self ..) 32 h rfl]
    simp
theorem split_join (ws : List (List UInt8)) (h : ws ≠ []) (hf : ∀ w ∈ ws, ∀ b ∈ w, b ≠ 32) : split (joinW ws) [32] = ws := by
  unfold split
  rw [count_one, count_join ws h hf, splitK_join ws h hf]

/-! what is read -/
def atoiV (l : List UInt8) : Int := match atoiAll l with | .ok v => v | .range => atoiSat l | _ => 0
def lnOf' (w : ByteArray) : Ln := (⟨(cut (ub w) [58]).1.toArray⟩, atoiV (cut (ub w) [58]).2.1)
def parseW (ws : List ByteArray) : En := ⟨ws.getD 0 ByteArray.empty, if 1 < ws.length then atoiV (ub (ws.getD 1 ByteArray.empty)) else 0, (ws.drop 2).map lnOf'⟩
def sp : ByteArray := { data := #[32] }
def speq : ByteArray := { data := #[32, 61] }
def parseB (s : ByteArray) : En := parseW (splitB sp 0 (countB s sp) s)
theorem atoiV_itoa (n : Int) (h1 : -1000000000000000 ≤ n) (h2 : n ≤ 1000000000000000) : atoiV (itoa n) = n := by
  unfold atoiV; rw [atoiAll_itoa n h1 h2]
theorem cut_one (a b : List UInt8) (c : UInt8) (h : ∀ x ∈ a, x ≠ c) : (cut (a ++ c :: b) [c]).1 = a ∧ (cut (a ++ c :: b) [c]).2.1 = b := by
  have e : cut (a ++ c :: b) [c] = (a, b, true) := by
    unfold cut
    rw [index_one a b c h, if_pos (by omega)]
    have e1 : (a ++ c :: b).take ((a.length : Int).toNat) = a := by simp
    have e2 : (a ++ c :: b).drop ((a.length : Int).toNat + [c].length) = b := by
      rw [show ((a.length : Int).toNat + [c].length) = a.length + 1 by simp, ← List.drop_drop, List.drop_left]; rfl
    rw [e1, e2]
  rw [e]; exact ⟨rfl, rfl⟩
/-- an entry whose text is read again -/
structure EnOk (x : En) : Prop where
  key : keyB x.key = true
  d0 : 0 ≤ x.day
  d9 : x.day ≤ 292193
  ln : ∀ l ∈ x.ls, codeB l.1 = true ∧ -1000000000000 ≤ l.2 ∧ l.2 ≤ 1000000000000
  len : x.ls.length ≤ 12
theorem enOk_of {x : En} (h : enc x = 0) : EnOk x := by
  obtain ⟨h1, h2, h3, h4⟩ := entc_ok h
  obtain ⟨a1, a2, a3, a4⟩ := linec_ok h4
  refine ⟨h1, h2, h3, fun l hl => ?_, a1⟩
  obtain ⟨i, hi, rfl⟩ := List.mem_iff_getElem.1 hl
  obtain ⟨b1, b2, b3, _⟩ := lnAt_ok (a4 i hi)
  have e1 : cd x.ls i = x.ls[i].1 := by unfold cd; rw [List.getD_eq_getElem?_getD, List.getElem?_eq_getElem hi]; rfl
  have e2 : am x.ls i = x.ls[i].2 := by unfold am; rw [List.getD_eq_getElem?_getD, List.getElem?_eq_getElem hi]; rfl
  rw [e1] at b1; rw [e2] at b2 b3
  exact ⟨b1, b2, b3⟩
theorem fine_word {x : En} (h : EnOk x) : ∀ w ∈ words x, ∀ b ∈ w, b ≠ 10 ∧ b ≠ 32 ∧ b ≠ 61 := by
  intro w hw b hb
  unfold words at hw
  rcases List.mem_cons.1 hw with e | hw
  · subst e; have := fine_key h.key b hb; exact ⟨this.1, this.2.1, this.2.2.2⟩
  rcases List.mem_cons.1 hw with e | hw
  · subst e; have := fine_itoa x.day b hb; exact ⟨this.1, this.2.1, this.2.2.2⟩
  obtain ⟨l, hl, rfl⟩ := List.mem_map.1 hw
  unfold lnW at hb
  rcases List.mem_append.1 hb with hb | hb
  · have := fine_code (h.ln l hl).1 b hb; exact ⟨this.1, this.2.1, this.2.2.2⟩
  rcases List.mem_cons.1 hb with e | hb
  · subst e; decide
  · have := fine_itoa l.2 b hb; exact ⟨this.1, this.2.1, this.2.2.2⟩
theorem joinW_mem : ∀ (ws : List (List UInt8)) (b : UInt8), b ∈ joinW ws → b = 32 ∨ ∃ w ∈ ws, b ∈ w
  | [], b, h => by simp [joinW] at h
  | [w], b, h => .inr ⟨w, List.mem_cons_self .., h⟩
  | w :: v :: r, b, h => by
    have h : b ∈ w ++ 32 :: joinW (v :: r) := h
    rcases List.mem_append.1 h with h | h
    · exact .inr ⟨w, List.mem_cons_self .., h⟩
    rcases List.mem_cons.1 h with h | h
    · exact .inl h
    · rcases joinW_mem (v :: r) b h with h | ⟨u, hu, hb⟩
      · exact .inl h
      · exact .inr ⟨u, List.mem_cons_of_mem _ hu, hb⟩
/-- no end and no sum stands in an entry's plain text -/
theorem plain_fine {x : En} (h : EnOk x) : ∀ b ∈ plainT x, b ≠ 10 ∧ b ≠ 61 := by
  intro b hb
  rw [plain_words] at hb
  rcases joinW_mem _ b hb with e | ⟨w, hw, hb⟩
  · subst e; decide
  · have := fine_word h w hw b hb; exact ⟨this.1, this.2.2⟩
theorem sumT_fine {x : En} (h : EnOk x) : ∀ b ∈ sumT (plainT x), b ≠ 10 := by
  intro b hb
  unfold sumT at hb
  rcases List.mem_append.1 hb with hb | hb
  · exact (plain_fine h b hb).1
  rcases List.mem_cons.1 hb with e | hb
  · subst e; decide
  rcases List.mem_cons.1 hb with e | hb
  · subst e; decide
  · exact (fine_itoa _ b hb).1
theorem lns_read : ∀ (ls : List Ln), (∀ l ∈ ls, codeB l.1 = true ∧ -1000000000000 ≤ l.2 ∧ l.2 ≤ 1000000000000) → ∀ r : List ByteArray, r.map (fun w => w.data.toList) = ls.map lnW → r.map lnOf' = ls
  | [], _, r, h => by
    cases r with
    | nil => rfl
    | cons u r => simp at h
  | l :: ls, hl, r, h => by
    cases r with
    | nil => simp at h
    | cons u r =>
      simp only [List.map_cons, List.cons.injEq] at h
      obtain ⟨f1, f2⟩ := h
      have ⟨g1, g2, g3⟩ := hl l (List.mem_cons_self ..)
      have hcu := cut_one (ub l.1) (itoa l.2) 58 fun b hb => (fine_code g1 b hb).2.2.1
      have e : lnOf' u = l := by
        unfold lnOf'
        rw [show ub u = ub l.1 ++ 58 :: itoa l.2 from f1, hcu.1, hcu.2, atoiV_itoa _ (by omega) (by omega)]
      rw [List.map_cons, e, lns_read ls (fun q hq => hl q (List.mem_cons_of_mem _ hq)) r f2]
theorem parse_plain {x : En} (h : EnOk x) {s : ByteArray} (hs : ub s = plainT x) : parseB s = x := by
  have hc : countB s sp = count (ub s) [32] := rfl
  have hd := splitB_data sp 0 (countB s sp) s
  have hw : (splitB sp 0 (countB s sp) s).map (fun w => w.data.toList) = words x := by
    rw [hd]
    show splitK [32] 0 (countB s sp) (ub s) = words x
    rw [hc, hs, plain_words]
    exact split_join (words x) (by simp [words]) fun w hw b hb => (fine_word h w hw b hb).2.1
  have key : ∀ ws : List ByteArray, ws.map (fun w => w.data.toList) = words x → parseW ws = x := by
    intro ws hw
    unfold words at hw
    match ws, hw with
    | [], hw' => simp at hw'
    | [a], hw' => simp at hw'
    | a :: b :: r, hw' =>
      simp only [List.map_cons, List.cons.injEq] at hw'
      obtain ⟨e1, e2, e3⟩ := hw'
      have d0 := h.d0
      have d9 := h.d9
      refine En.eq (ub_inj e1) ?_ ?_
      · show (if 1 < (a :: b :: r).length then atoiV (ub b) else 0) = x.day
        rw [if_pos (by simp), show ub b = itoa x.day from e2, atoiV_itoa _ (by omega) (by omega)]
      · show r.map lnOf' = x.ls
        exact lns_read x.ls h.ln r e3
  exact key _ hw
/-- the text as a string -/
def textB (x : En) : ByteArray := ⟨(textT x).toArray⟩
theorem textB_ub (x : En) : ub (textB x) = textT x := by simp [textB, ub]
def rdAt (s : ByteArray) : Int := indexByte (ub s) 10
def rdL (s : ByteArray) : ByteArray := s.extract 0 (rdAt s).toNat
def rdK (s : ByteArray) : Int := lastIndex (ub (rdL s)) [32, 61]
def rdN (s : ByteArray) : ByteArray := (rdL s).extract ((rdK s).toNat + 2) (rdL s).size
def rdP (s : ByteArray) : ByteArray := (rdL s).extract 0 (rdK s).toNat
def rdE (s : ByteArray) : En := parseB (rdP s)
/-- does it spell a sum, and in its own way? -/
def rdOk (l : List UInt8) : Prop := ∃ v : Int, atoiAll l = .ok v ∧ 0 ≤ v ∧ v ≤ 65520 ∧ itoa v = l
/-- what log.Read says is wrong with a string -/
noncomputable def rdc (s : ByteArray) : Int :=
  if rdAt s < 0 then 8 else if rdK s < 0 then 3
  else @ite _ (¬ rdOk (ub (rdN s))) (Classical.propDecidable _) 3
    (if atoiV (ub (rdN s)) ≠ cks (ub (rdP s)) then 7
    else if enc (rdE s) ≠ 0 ∨ textT (rdE s) ≠ ub (s.extract 0 ((rdAt s).toNat + 1)) then 3 else 0)
theorem ub_ext (s : ByteArray) (a b : Nat) : ub (s.extract a b) = ((ub s).drop a).take (b - a) := extract_data s a b
theorem rdL_ub {s : ByteArray} {t r : List UInt8} (h : ub s = t ++ 10 :: r) (ht : ∀ b ∈ t, b ≠ 10) : rdAt s = t.length ∧ ub (rdL s) = t := by
  have e : rdAt s = t.length := by unfold rdAt; rw [h]; exact indexByte_app t r 10 ht
  refine ⟨e, ?_⟩
  unfold rdL
  rw [ub_ext, e, h]; simp
theorem rdK_ub {s : ByteArray} {p d : List UInt8} (h : ub (rdL s) = p ++ 32 :: 61 :: d) (hd : ∀ b ∈ d, b ≠ 61) : rdK s = p.length ∧ ub (rdP s) = p ∧ ub (rdN s) = d := by
  have e : rdK s = p.length := by unfold rdK; rw [h]; exact lastIndex_sum p d hd
  have hz : (rdL s).size = p.length + d.length + 2 := by rw [← ub_len, h, List.length_append]; rfl
  refine ⟨e, ?_, ?_⟩
  · unfold rdP; rw [ub_ext, e, h]; simp
  · unfold rdN
    rw [ub_ext, e, h, hz]
    rw [show ((p.length : Int).toNat + 2) = p.length + 2 by simp, ← List.drop_drop, List.drop_left]
    show (d).take _ = d
    exact List.take_of_length_le (by omega)
theorem itoa_cks_ok (l : List UInt8) : rdOk (itoa (cks l)) := by
  have := cks_lt l
  exact ⟨cks l, atoiAll_itoa _ (by omega) (by omega), by omega, by omega, rfl⟩
/-- an entry's text is read as it was written -/
theorem read_text {x : En} (h : enc x = 0) {s : ByteArray} {r : List UInt8} (hs : ub s = textT x ++ r) : rdc s = 0 ∧ rdE s = x ∧ rdAt s + 1 = (textT x).length := by
  have hx := enOk_of h
  have hs' : ub s = sumT (plainT x) ++ 10 :: r := by rw [hs]; unfold textT; simp
  obtain ⟨a1, a2⟩ := rdL_ub hs' (sumT_fine hx)
  have hcl := cks_lt (plainT x)
  have a2' : ub (rdL s) = plainT x ++ 32 :: 61 :: itoa (cks (plainT x)) := a2
  obtain ⟨b1, b2, b3⟩ := rdK_ub a2' (fun b hb => (fine_itoa _ b hb).2.2.2)
  have hE : rdE s = x := parse_plain hx b2
  have hlen : (textT x).length = (sumT (plainT x)).length + 1 := by unfold textT; simp
  refine ⟨?_, hE, by rw [a1, hlen]; omega⟩
  unfold rdc
  rw [if_neg (by omega), if_neg (by omega), if_neg (by rw [b3]; exact fun hn => hn (itoa_cks_ok _)), b3, b2, atoiV_itoa _ (by omega) (by omega), if_neg (by simp), hE, if_neg]
  rintro (h1 | h1)
  · exact h1 h
  · apply h1
    rw [ub_ext, a1, hs', show ((sumT (plainT x)).length : Int).toNat + 1 - 0 = (sumT (plainT x)).length + 1 by simp]
    unfold textT
    rw [show sumT (plainT x) ++ 10 :: r = (sumT (plainT x) ++ [10]) ++ r by simp, List.drop_zero]
    exact (List.take_left' (by simp)).symm
theorem read_short {s : ByteArray} (h : ∀ b ∈ ub s, b ≠ 10) : rdc s = 8 := by
  unfold rdc
  rw [if_pos (by unfold rdAt; rw [indexByte_no _ _ h]; omega)]

end Go.Proofs.YtohpibjjlfpaaaaGreatDoor
