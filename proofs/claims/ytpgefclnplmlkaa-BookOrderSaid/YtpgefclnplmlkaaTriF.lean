/- What an entry that moves money between two accounts of one kind does to the kinds: nothing. -/
import Derived.Test.YtpgefclnplmlkaaTriD
import Derived.Test.YtpgefclnplmlkaaTriE
namespace Go.Proofs.Ytpgefclnplmlkaa
open Go.ChangeShapes Go.WideShapes Go.ChangeAt Go.RowKit Go.PlainAid
set_option linter.unusedVariables false

abbrev s15 : ByteArray := { data := #[49, 53] }
theorem nodup_at {ac : List Ln} (hn : (ac.map (·.1)).Nodup) {j : Nat} (hj : j < ac.length) {a : Ln} (ha : a ∈ ac) (h : a.1 = cd ac j) : a.2 = am ac j := by
  obtain ⟨i, hi, rfl⟩ := List.mem_iff_getElem.1 ha
  rw [(cd_at ac j hj).1] at h
  have hpw := List.pairwise_map.1 (show (ac.map (·.1)).Pairwise (· ≠ ·) from hn)
  rw [List.pairwise_iff_getElem] at hpw
  have hij : i = j := by
    by_cases c1 : i < j
    · exact absurd h (hpw i j hi hj c1)
    · by_cases c2 : j < i
      · exact absurd h.symm (hpw j i hj hi c2)
      · omega
  subst hij
  exact (cd_at ac i hj).2.symm
theorem one_kind {ac : List Ln} (hn : (ac.map (·.1)).Nodup) {j : Nat} (hj : j < ac.length) (q : Nat) (v : Int) :
    sm (fun a : Ln => if a.2 = (q : Int) then (if cd ac j = a.1 then v else 0) else 0) ac = if am ac j = (q : Int) then v else 0 := by
  have e : sm (fun a : Ln => if a.2 = (q : Int) then (if cd ac j = a.1 then v else 0) else 0) ac = sm (fun a : Ln => if a.1 = cd ac j then (if am ac j = (q : Int) then v else 0) else 0) ac := sm_congr fun a ha => by
    by_cases h : a.1 = cd ac j
    · rw [if_pos h, if_pos h.symm, nodup_at hn hj ha h]
    · by_cases hq : a.2 = (q : Int)
      · rw [if_pos hq, if_neg h, if_neg (fun h' => h h'.symm)]
      · rw [if_neg hq, if_neg h]
  rw [e]
  exact sm_one (fun a : Ln => a.1) _ _ hn (List.mem_map.2 ⟨ac[j], List.getElem_mem hj, (cd_at ac j hj).1.symm⟩)
/-- the place that a search finds is the code's own, if it is there -/
theorem place_of {ac : List Ln} (hs : ac.Pairwise fun a b => ltB a.1 b.1 = true) {t : ByteArray} {k : Nat} (hk : k < ac.length) (h1 : ∀ i, i < k → ltB (cd ac i) t = true) (h2 : ∀ i, k ≤ i → i < ac.length → ¬ ltB (cd ac i) t = true) (hm : t ∈ ac.map (·.1)) : cd ac k = t := by
  obtain ⟨a, ha, he⟩ := List.mem_map.1 hm
  obtain ⟨p, hp, rfl⟩ := List.mem_iff_getElem.1 ha
  have he' : cd ac p = t := by rw [(cd_at ac p hp).1]; exact he
  by_cases c1 : p < k
  · have := h1 p c1
    rw [he', ltB_iff] at this
    exact absurd this (List.lt_irrefl _)
  · by_cases c2 : p = k
    · rw [← c2]; exact he'
    · have h3 := (List.pairwise_iff_getElem.1 hs) k p hk hp (by omega)
      have h4 := h2 k (Nat.le_refl _) hk
      rw [(cd_at ac k hk).1] at h4
      rw [show ac[p].1 = t from he] at h3
      exact absurd h3 h4
theorem adds_same {b : Bok} {x : En} (hc : postc b x = 0) (v : Int) (hx : x.ls = [(s10, v), (s15, -v)]) {i j : Nat} (hi : i < b.ac.length) (hj : j < b.ac.length)
    (i1 : ∀ k, k < i → ltB (cd b.ac k) s10 = true) (i2 : ∀ k, i ≤ k → k < b.ac.length → ¬ ltB (cd b.ac k) s10 = true)
    (j1 : ∀ k, k < j → ltB (cd b.ac k) s15 = true) (j2 : ∀ k, j ≤ k → k < b.ac.length → ¬ ltB (cd b.ac k) s15 = true)
    (hk : am b.ac i = am b.ac j) (f t : Int) (q : Nat) : kS (postb b x).en f t q b.ac = kS b.en f t q b.ac := by
  by_cases hf : 0 ≤ findE b.en x.key
  · rw [(post_old hc hf).2.2.2]
  · obtain ⟨hbo, -, -, hkn, -, -, -⟩ := post_new hc hf
    have ha := acc_ok hbo.ac
    unfold knownB at hkn
    rw [hx] at hkn
    simp only [List.all_cons, List.all_nil, Bool.and_true, Bool.and_eq_true] at hkn
    have e1 := place_of ha.2.2.2 hi i1 i2 ((hasB_mem _ _).1 hkn.1)
    have e2 := place_of ha.2.2.2 hj j1 j2 ((hasB_mem _ _).1 hkn.2)
    have hof : ∀ s, ofS (postb b x).en s f t = ofS b.en s f t + if x.day < f ∨ t < x.day then 0 else ((if cd b.ac i = s then v else 0) + if cd b.ac j = s then -v else 0) := fun s => by
      rw [post_of hc, if_neg hf, e1, e2]
      unfold enOf lnOf
      rw [hx]
      simp only [sm, Int.add_zero]
    unfold kS
    have e : sm (fun a : Ln => if a.2 = (q : Int) then ofS (postb b x).en a.1 f t else 0) b.ac = sm (fun a : Ln => (if a.2 = (q : Int) then ofS b.en a.1 f t else 0) + if a.2 = (q : Int) then (if x.day < f ∨ t < x.day then 0 else ((if cd b.ac i = a.1 then v else 0) + if cd b.ac j = a.1 then -v else 0)) else 0) b.ac := sm_congr fun a _ => by
      by_cases h : a.2 = (q : Int)
      · rw [if_pos h, if_pos h, if_pos h, hof]
      · rw [if_neg h, if_neg h, if_neg h]; rfl
    rw [e, sm_add]
    have z : sm (fun a : Ln => if a.2 = (q : Int) then (if x.day < f ∨ t < x.day then 0 else ((if cd b.ac i = a.1 then v else 0) + if cd b.ac j = a.1 then -v else 0)) else 0) b.ac = 0 := by
      by_cases hd : x.day < f ∨ t < x.day
      · exact sm_zero fun a _ => by rw [if_pos hd]; split <;> rfl
      · have e3 : sm (fun a : Ln => if a.2 = (q : Int) then (if x.day < f ∨ t < x.day then 0 else ((if cd b.ac i = a.1 then v else 0) + if cd b.ac j = a.1 then -v else 0)) else 0) b.ac = sm (fun a : Ln => (if a.2 = (q : Int) then (if cd b.ac i = a.1 then v else 0) else 0) + (if a.2 = (q : Int) then (if cd b.ac j = a.1 then -v else 0) else 0)) b.ac := sm_congr fun a _ => by
          rw [if_neg hd]
          by_cases h : a.2 = (q : Int)
          · rw [if_pos h, if_pos h, if_pos h]
          · rw [if_neg h, if_neg h, if_neg h]; rfl
        rw [e3, sm_add, one_kind ha.2.1 hi, one_kind ha.2.1 hj, hk]
        split <;> omega
    rw [z, Int.add_zero]

end Go.Proofs.Ytpgefclnplmlkaa
