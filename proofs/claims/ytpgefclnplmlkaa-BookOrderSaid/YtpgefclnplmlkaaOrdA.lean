/- Entries posted in whatever order: the same book. -/
import Derived.Test.YtpgefclnplmlkaaShutA
namespace Go.Proofs.Ytpgefclnplmlkaa
open Go.ChangeShapes Go.WideShapes Go.ChangeAt Go.RowKit Go.PlainAid
set_option linter.unusedVariables false

theorem nodup_le {α : Type} [DecidableEq α] {xs ys : List α} (h : xs.Nodup) (hs : ∀ a ∈ xs, a ∈ ys) : xs.length ≤ ys.length := by
  induction xs generalizing ys with
  | nil => exact Nat.zero_le _
  | cons a xs ih =>
    rw [List.nodup_cons] at h
    have ha := hs a (List.mem_cons_self ..)
    have h2 : ∀ b ∈ xs, b ∈ ys.erase a := fun b hb => (List.mem_erase_of_ne (show b ≠ a from fun e => h.1 (e ▸ hb))).2 (hs b (List.mem_cons_of_mem _ hb))
    have h3 := ih h.2 h2
    rw [List.length_erase_of_mem ha] at h3
    have := List.length_pos_of_mem ha
    simp only [List.length_cons]
    omega
theorem sorted_ext {xs ys : List En} (hx : xs.Pairwise elt) (hy : ys.Pairwise elt) (h1 : ∀ a ∈ xs, a ∈ ys) (h2 : ∀ a ∈ ys, a ∈ xs) : xs = ys := by
  induction xs generalizing ys with
  | nil =>
    cases ys with
    | nil => rfl
    | cons y ys => exact absurd (h2 y (List.mem_cons_self ..)) (by simp)
  | cons x xs ih =>
    cases ys with
    | nil => exact absurd (h1 x (List.mem_cons_self ..)) (by simp)
    | cons y ys =>
      rw [List.pairwise_cons] at hx hy
      have e : x = y := by
        rcases List.mem_cons.1 (h1 x (List.mem_cons_self ..)) with e | hxy
        · exact e
        · rcases List.mem_cons.1 (h2 y (List.mem_cons_self ..)) with e | hyx
          · exact e.symm
          · exact absurd (hx.1 y hyx) (elt_asymm (hy.1 x hxy))
      subst e
      congr 1
      refine ih hx.2 hy.2 (fun a ha => ?_) (fun a ha => ?_)
      · rcases List.mem_cons.1 (h1 a (List.mem_cons_of_mem _ ha)) with e | h
        · subst e; exact absurd (hx.1 _ ha) (elt_irrefl _)
        · exact h
      · rcases List.mem_cons.1 (h2 a (List.mem_cons_of_mem _ ha)) with e | h
        · subst e; exact absurd (hy.1 _ ha) (elt_irrefl _)
        · exact h
theorem key_inj {es : List En} (h : es.Pairwise fun x y => x.key ≠ y.key) {x y : En} (hx : x ∈ es) (hy : y ∈ es) (hk : x.key = y.key) : x = y := by
  obtain ⟨i, _, h1, h2⟩ := find_mem h hx
  obtain ⟨j, _, h3, h4⟩ := find_mem h hy
  rw [hk, h3] at h1
  have : j = i := by omega
  subst this
  rw [← h2, ← h4]
theorem en_nodup {b : Bok} (h : BOk b) : b.en.Nodup := h.keys.imp fun {a b} hk e => hk (by rw [e])
/-- the entries that were posted -/
def donel (b : Bok) : List En → List En
  | [] => []
  | x :: xs => if postc b x = 0 then x :: donel (postb b x) xs else donel b xs
theorem donel_snoc (b : Bok) (xs : List En) (x : En) : donel b (xs ++ [x]) = donel b xs ++ if postc (madeb b xs) x = 0 then [x] else [] := by
  induction xs generalizing b with
  | nil =>
    show (if postc b x = 0 then x :: [] else []) = [] ++ if postc b x = 0 then [x] else []
    rfl
  | cons y ys ih =>
    show (if postc b y = 0 then y :: donel (postb b y) (ys ++ [x]) else donel b (ys ++ [x])) = (if postc b y = 0 then y :: donel (postb b y) ys else donel b ys) ++ if postc (madeb (stepb b y) ys) x = 0 then [x] else []
    by_cases h : postc b y = 0
    · rw [if_pos h, if_pos h, stepb_yes h, ih]; rfl
    · rw [if_neg h, if_neg h, stepb_no h, ih]
theorem donel_take (b : Bok) (es : List En) (j : Nat) (hj : j < es.length) : donel b (es.take (j + 1)) = donel b (es.take j) ++ if postc (madeb b (es.take j)) (ne es j) = 0 then [ne es j] else [] := by
  rw [List.take_succ_eq_append_getElem hj, donel_snoc, ne_eq _ _ hj]
theorem donel_len (b : Bok) (es : List En) : (donel b es).length ≤ es.length := by
  induction es generalizing b with
  | nil => exact Nat.le_refl _
  | cons x xs ih =>
    unfold donel
    split
    · have := ih (postb b x); simp only [List.length_cons]; omega
    · have := ih b; simp only [List.length_cons]; omega
/-- the book behind the entries that were posted -/
structure OInv (b x : Bok) (d : List En) : Prop where
  ok : BOk x
  ac : x.ac = b.ac
  sh : x.shut = b.shut
  sub : ∀ e ∈ b.en, e ∈ x.en
  din : ∀ e ∈ d, e ∈ x.en ∧ enc e = 0
  new : ∀ e ∈ x.en, e ∈ b.en ∨ (e ∈ d ∧ knownB b.ac e = true ∧ b.shut < e.day)
theorem OInv.start {b : Bok} (h : BOk b) : OInv b b [] := ⟨h, rfl, rfl, fun _ h => h, fun _ h => absurd h (by simp), fun _ h => .inl h⟩
theorem OInv.step {b x : Bok} {d : List En} (h : OInv b x d) {e : En} (hc : postc x e = 0) : OInv b (postb x e) (d ++ [e]) := by
  have hok := post_ok hc
  have hac := post_ac x e
  have he : enc e = 0 := (post_pre hc).2.1
  by_cases hf : 0 ≤ findE x.en e.key
  · obtain ⟨_, _, hin, hp⟩ := post_old hc hf
    rw [hp] at hok ⊢
    refine ⟨hok, h.ac, h.sh, h.sub, fun a ha => ?_, fun a ha => ?_⟩
    · rcases List.mem_append.1 ha with ha | ha
      · exact h.din a ha
      · rw [List.mem_singleton.1 ha]; exact ⟨hin, he⟩
    · rcases h.new a ha with h1 | ⟨h1, h2⟩
      · exact .inl h1
      · exact .inr ⟨List.mem_append.2 (.inl h1), h2⟩
  · obtain ⟨_, _, _, hkn, hd, _, hp⟩ := post_new hc hf
    refine ⟨hok, hac.1.trans h.ac, hac.2.trans h.sh, fun a ha => ?_, fun a ha => ?_, fun a ha => ?_⟩
    · rw [hp]; exact mem_ins.2 (.inr (h.sub a ha))
    · rw [hp]
      rcases List.mem_append.1 ha with ha | ha
      · exact ⟨mem_ins.2 (.inr (h.din a ha).1), (h.din a ha).2⟩
      · rw [List.mem_singleton.1 ha]; exact ⟨mem_ins.2 (.inl rfl), he⟩
    · rw [hp] at ha
      rcases mem_ins.1 ha with ha | ha
      · subst ha; exact .inr ⟨List.mem_append.2 (.inr (List.mem_singleton.2 rfl)), by rw [← h.ac]; exact hkn, by rw [← h.sh]; exact hd⟩
      · rcases h.new a ha with h1 | ⟨h1, h2⟩
        · exact .inl h1
        · exact .inr ⟨List.mem_append.2 (.inl h1), h2⟩
theorem OInv.made {b : Bok} (hb : BOk b) (es : List En) (j : Nat) (hj : j ≤ es.length) : OInv b (madeb b (es.take j)) (donel b (es.take j)) := by
  induction j with
  | zero => rw [List.take_zero]; exact OInv.start hb
  | succ j ih =>
    have h := ih (by omega)
    rw [madeb_take b es j (by omega), donel_take b es j (by omega)]
    by_cases hc : postc (madeb b (es.take j)) (ne es j) = 0
    · rw [stepb_yes hc, if_pos hc]; exact h.step hc
    · rw [stepb_no hc, if_neg hc, List.append_nil]; exact h
/-- a book on its way from b to x -/
structure Way (b x y : Bok) : Prop where
  ok : BOk y
  ac : y.ac = b.ac
  sh : y.shut = b.shut
  sub : ∀ e ∈ b.en, e ∈ y.en
  up : ∀ e ∈ y.en, e ∈ x.en
theorem Way.start {b x : Bok} {d : List En} (hb : BOk b) (h : OInv b x d) : Way b x b := ⟨hb, rfl, rfl, fun _ h => h, h.sub⟩
theorem Way.step {b x y : Bok} {d : List En} (h : OInv b x d) (hw : Way b x y) {e : En} (he : e ∈ d) :
    postc y e = 0 ∧ Way b x (postb y e) ∧ (∀ a ∈ y.en, a ∈ (postb y e).en) ∧ e ∈ (postb y e).en := by
  obtain ⟨hex, hec⟩ := h.din e he
  by_cases hin : e ∈ y.en
  · obtain ⟨h1, h2⟩ := post_again hw.ok hec hin
    rw [h2]; exact ⟨h1, hw, fun _ h => h, hin⟩
  · have hkey : ∀ z ∈ y.en, z.key ≠ e.key := fun z hz hk => hin (key_inj h.ok.keys (hw.up z hz) hex hk ▸ hz)
    have hf : ¬ 0 ≤ findE y.en e.key := by
      rcases findE_cases y.en e.key with ⟨e', _⟩ | ⟨i, hi, _, hk⟩
      · rw [e']; omega
      · exact absurd hk (hkey _ (List.getElem_mem hi))
    have hnew : knownB b.ac e = true ∧ b.shut < e.day := by
      rcases h.new e hex with h1 | ⟨_, h2⟩
      · exact absurd (hw.sub e h1) hin
      · exact h2
    have hlen : y.en.length < 60 := by
      have h1 : (e :: y.en).length ≤ x.en.length := nodup_le (List.nodup_cons.2 ⟨hin, en_nodup hw.ok⟩) (fun a ha => by
        rcases List.mem_cons.1 ha with rfl | ha
        · exact hex
        · exact hw.up a ha)
      have := h.ok.len
      simp only [List.length_cons] at h1
      omega
    have hc : postc y e = 0 := by
      unfold postc
      rw [if_neg (by simp [(bookc_iff y).2 hw.ok]), if_neg (by simp [hec]), if_neg hf, if_neg (by rw [hw.ac, hnew.1]; simp), if_neg (by rw [hw.sh]; omega), if_neg (by omega)]
    have hp : postb y e = { y with en := ins e y.en } := by unfold postb; rw [if_neg hf]
    refine ⟨hc, ⟨post_ok hc, (post_ac y e).1.trans hw.ac, (post_ac y e).2.trans hw.sh, fun a ha => ?_, fun a ha => ?_⟩, fun a ha => ?_, ?_⟩
    · rw [hp]; exact mem_ins.2 (.inr (hw.sub a ha))
    · rw [hp] at ha
      rcases mem_ins.1 ha with rfl | ha
      · exact hex
      · exact hw.up a ha
    · rw [hp]; exact mem_ins.2 (.inr ha)
    · rw [hp]; exact mem_ins.2 (.inl rfl)
theorem Way.done {b x y : Bok} {d : List En} (h : OInv b x d) (hw : Way b x y) (ha : ∀ e ∈ d, e ∈ y.en) : y = x := by
  have e1 : y.en = x.en := sorted_ext hw.ok.sorted h.ok.sorted hw.up fun e he => by
    rcases h.new e he with h1 | ⟨h1, _⟩
    · exact hw.sub e h1
    · exact ha e h1
  obtain ⟨ya, ye, ys⟩ := y
  obtain ⟨xa, xe, xs⟩ := x
  have e2 := hw.ac.trans h.ac.symm
  have e3 := hw.sh.trans h.sh.symm
  simp only at e1 e2 e3
  subst e1 e2 e3
  rfl
/-- the book behind i entries, from the k-th on -/
def yb (b : Bok) (d : List En) (k : Nat) : Nat → Bok
  | 0 => b
  | i + 1 => postb (yb b d k i) (ne d ((i + k) % d.length))
theorem yb_way {b x : Bok} {d : List En} (hb : BOk b) (h : OInv b x d) (k : Nat) (hd : 0 < d.length) (i : Nat) :
    Way b x (yb b d k i) ∧ (∀ q, q < i → ne d ((q + k) % d.length) ∈ (yb b d k i).en) ∧ postc (yb b d k i) (ne d ((i + k) % d.length)) = 0 := by
  have hm : ∀ q, ne d ((q + k) % d.length) ∈ d := fun q => by
    have hq : (q + k) % d.length < d.length := Nat.mod_lt _ hd
    rw [ne_eq _ _ hq]; exact List.getElem_mem hq
  induction i with
  | zero =>
    have hw := Way.start hb h
    exact ⟨hw, fun q hq => absurd hq (Nat.not_lt_zero _), (Way.step h hw (hm 0)).1⟩
  | succ i ih =>
    obtain ⟨hw, hq, hc⟩ := ih
    obtain ⟨_, h2, h3, h4⟩ := Way.step h hw (hm i)
    refine ⟨h2, fun q hqi => ?_, (Way.step h h2 (hm (i + 1))).1⟩
    by_cases e : q = i
    · subst e; exact h4
    · exact h3 _ (hq q (by omega))
theorem yb_all {b x : Bok} {d : List En} (hb : BOk b) (h : OInv b x d) (k : Nat) : yb b d k d.length = x := by
  by_cases hd : 0 < d.length
  · obtain ⟨hw, hq, _⟩ := yb_way hb h k hd d.length
    refine Way.done h hw fun e he => ?_
    obtain ⟨j, hj, rfl⟩ := List.mem_iff_getElem.1 he
    have hk := Nat.mod_lt k hd
    have h2 := hq ((j + (d.length - k % d.length)) % d.length) (Nat.mod_lt _ hd)
    have e2 : ((j + (d.length - k % d.length)) % d.length + k) % d.length = j := by
      have hk2 := Nat.div_add_mod k d.length
      have e : j + (d.length - k % d.length) + k = j + d.length * (k / d.length + 1) := by rw [Nat.mul_add]; omega
      rw [Nat.mod_add_mod, e, Nat.add_mul_mod_self_left, Nat.mod_eq_of_lt hj]
    rw [e2, ne_eq _ _ hj] at h2
    exact h2
  · have h0 : d.length = 0 := by omega
    rw [h0]
    have := List.eq_nil_of_length_eq_zero h0
    subst this
    exact Way.done h (Way.start hb h) fun e he => absurd he (by simp)
/-- what was posted can be posted again -/
theorem post_done {b x : Bok} {d : List En} (h : OInv b x d) {e : En} (he : e ∈ d) : postc x e = 0 ∧ postb x e = x :=
  post_again h.ok (h.din e he).2 (h.din e he).1

end Go.Proofs.Ytpgefclnplmlkaa
