/- The walk of log.sum. -/
import Derived.Test.YtohpibjjlfpaaaaGreatDoorPBookOwnZ1
import Derived.Test.YtohpibjjlfpaaaaGreatDoorPBookOwnZ2
import Derived.Test.YtohpibjjlfpaaaaGreatDoorPBookOwnZ3
import Derived.Test.YtohpibjjlfpaaaaGreatDoorPBookOwnZ4
import Derived.Test.YtohpibjjlfpaaaaGreatDoorPBookOwnZ5
import Derived.Test.YtohpibjjlfpaaaaGreatDoorPBookOwnZ6
import Derived.Test.YtohpibjjlfpaaaaGreatDoorPBookOwnZ7
import Derived.Test.YtohpibjjlfpaaaaGreatDoorPBookOwnZ8
import Derived.Test.YtohpibjjlfpaaaaGreatDoorPBookOwnZ9
import Derived.Test.YtohpibjjlfpaaaaGreatDoorPBookOwnZ10
import Derived.Test.YtohpibjjlfpaaaaGreatDoorPBookOwnZ11
import Derived.Test.YtohpibjjlfpaaaaGreatDoorPBookOwnZ12
import Derived.Test.YtohpibjjlfpaaaaGreatDoorPBookOwnZ13
import Derived.Test.YtohpibjjlfpaaaaGreatDoorRows
import Derived.BigQuiet
import Derived.DataElems
import Derived.Deep.DeepCutAuto
import Derived.Deep.LoopGhost
import Derived.Deep.QuietTactic
import Derived.Deep.RegionHeld3
import Derived.Deep.RegionWith
import Derived.Deep.SlicePairs
import Derived.Deep.Slices
import Derived.Deep.Strs
import Derived.Handy
import Derived.Laws.Cover1
import Derived.Lib.AtoiAll
import Derived.Lib.AtoiTie
import Derived.Lib.Bytealg
import Derived.Lib.CutLaws
import Derived.Lib.Hide
import Derived.Lib.ItoaLen
import Derived.Lib.ItoaNum
import Derived.Lib.LastIndexLaws
import Derived.Lib.SliceRun
import Derived.Lib.SplitLaws
import Derived.Lib.Walk
import Derived.OpenShut
import Derived.Outline
import Derived.OwnWalk
import Derived.PlainAid
import Derived.ProofKit
import Derived.RegionTactic
import Derived.Shelf.Abstract
import Derived.Shelf.LaysC
import Derived.Shelf.LaysM
import Derived.Shelf.Small.Strs
import Derived.Shelf.Strconv.Atoi
import Derived.Shelf.Strconv.AtoiAll
import Derived.Shelf.Strconv.AtoiErrFast
import Derived.Shelf.Strconv.AtoiFail
import Derived.Shelf.Strconv.AtoiInnerAll
import Derived.Shelf.Strconv.AtoiLong
import Derived.Shelf.Strconv.Clone
import Derived.Shelf.Strconv.ErrVarAll
import Derived.Shelf.Strconv.Itoa0
import Derived.Shelf.Strconv.Itoa1
import Derived.Shelf.Strconv.Itoa2
import Derived.Shelf.Strconv.Itoa3
import Derived.Shelf.Strconv.Lower
import Derived.Shelf.Strconv.ParseInt10
import Derived.Shelf.Strconv.ParseIntEmpty
import Derived.Shelf.Strconv.ParseUint10
import Derived.Shelf.Strconv.ParseUint10Any
import Derived.Shelf.Strconv.ParseUint10Empty
import Derived.Shelf.Strconv.RangeError
import Derived.Shelf.Strconv.SyntaxError
import Derived.Shelf.Strconv.ToError
import Derived.Shelf.Strconv.ToErrorRange
import Derived.Shelf.Strings.Builder1
import Derived.Shelf.Strings.BuilderF
import Derived.Shelf.Strings.BuilderK
import Derived.Shelf.Strings.Count
import Derived.Shelf.Strings.Cut
import Derived.Shelf.Strings.Explode
import Derived.Shelf.Strings.LastIndex
import Derived.Shelf.Strings.LastIndexAll
import Derived.Shelf.Strings.RuneCount
import Derived.Shelf.Strings.Search1
import Derived.Shelf.Strings.Search2
import Derived.Shelf.Strings.Search3
import Derived.Shelf.Strings.Shaped
import Derived.Shelf.Strings.Split
import Derived.Shelf.Strings.SplitShaped
import Derived.Shelf.Unicode.Decode
import Derived.Shelf.Unicode.DecodeAny
import Derived.Shelf.Unicode.DecodeSlow
import Derived.Shelf.Utf8.RuneCount
import Derived.Sort.Walk0
import Derived.WalkKit
import Derived.WalkSpells
namespace Go.Proofs.YtohpibjjlfpaaaaGreatDoor
open Go Go.ChangeShapes Go.WideShapes Go.ChangeAt Go.RowKit Go.PlainAid
set_option linter.unusedVariables false
set_option maxRecDepth 100000

theorem bt_ub (s : ByteArray) (k : Nat) : (((ub s).getD k 0).toNat : Int) = bt s k := by
  by_cases h : k < s.size
  · unfold bt
    rw [dif_pos h, List.getD_eq_getElem?_getD, List.getElem?_eq_getElem (by rw [ub_len]; exact h)]
    rfl
  · rw [bt_end s (by omega), List.getD_eq_getElem?_getD, List.getElem?_eq_none (by rw [ub_len]; omega)]
    rfl
def ckI (s : ByteArray) (k : Nat) : Int := (ckUp (ub s) k : Nat)
theorem ckI_succ (s : ByteArray) (k : Nat) : ckI s (k + 1) = Int.tmod (ckI s k + ((k : Int) + 1) * bt s k) 65521 := by
  have h0 : 0 ≤ ckI s k + ((k : Int) + 1) * bt s k := by
    have := Int.mul_nonneg (show (0 : Int) ≤ (k : Int) + 1 by omega) (bt_nonneg s k)
    have : 0 ≤ ckI s k := Int.natCast_nonneg _
    omega
  rw [Int.tmod_eq_emod_of_nonneg h0, ← bt_ub]
  unfold ckI
  show (((ckUp (ub s) k + (k + 1) * ((ub s).getD k 0).toNat) % 65521 : Nat) : Int) = _
  rw [Int.natCast_emod, Int.natCast_add, Int.natCast_mul, Int.natCast_add]
  rfl
theorem ckI_bd (s : ByteArray) (k : Nat) : 0 ≤ ckI s k ∧ ckI s k ≤ 65520 := by
  unfold ckI
  have := ckUp_lt (ub s) k
  omega

set_option maxHeartbeats 1600000 in
theorem lsum_any (s : ByteArray) (w : World) (hs : s.size ≤ 140737488355328) :
    Calls Tryz.prog 38 #[.string s] w fun e w' => e = .returned (.int .i64 (ckI s s.size)) ∧ w = w' := by
  have hb := get_bt s
  obtain ⟨n, hn⟩ : ∃ n, n = s.size := ⟨_, rfl⟩
  subst hn
  go_enter Tryz.func38, Tryz.ntmps38
  go_wp2
  go_loop [3, 7] (fun v i => ∃ k : Nat, k ≤ s.size ∧ i = .int .i64 k ∧ v = .int .i64 (ckI s k)) (fun _ i => s.size - (intOf i).toNat)
  case atStart => exact ⟨0, Nat.zero_le _, rfl, rfl⟩
  case round =>
    obtain ⟨k, hk, rfl, rfl⟩ := hrel
    by_cases hlt : k < s.size
    · have hki : (k : Int) < (s.size : Int) := by omega
      have hk0 : (0 : Int) ≤ (k : Int) := by omega
      have b1 := bt_nonneg s k
      have b2 := bt_le s k
      obtain ⟨c1, c2⟩ := ckI_bd s k
      obtain ⟨d1, d2⟩ := ckI_bd s (k + 1)
      have p2 : ((k : Int) + 1) * bt s k ≤ 140737488355328 * 255 := Int.mul_le_mul (by omega) b2 b1 (by omega)
      have p0 : 0 ≤ ((k : Int) + 1) * bt s k := Int.mul_nonneg (by omega) b1
      have hv := ckI_succ s k
      obtain ⟨v', hve⟩ : ∃ v, v = ckI s (k + 1) := ⟨_, rfl⟩
      rw [← hve] at hv d1 d2
      have HVe := Lib.hid hve
      clear hve
      generalize ckI s k = v at *
      have hw : IntKind.i64.wrap (((k : Int) + 1) * bt s k) = ((k : Int) + 1) * bt s k := IntWalk.i64_in _ (by omega)
      have hv' : Int.tmod (v + ((k : Int) + 1) * bt s k) 65521 = v' := hv.symm
      have HV := Lib.hid hv'
      clear hv
      go_wp2
      go_round
      case rel => exact ⟨k + 1, by omega, by go_num, by rw [HVe.out]⟩
      case measure => simp [intOf]; omega
    · have hkn : k = s.size := by omega
      subst hkn
      go_wp2
      go_ret
      exact ⟨rfl, rfl⟩

/-- the variables of the library's that are read -/
structure Tb (w : World) : Prop where
  tab : Lib.TabIs Tryz.prog w "internal/strconv.uint64pow10" .u64 Lib.pow10Tab
  len : ∃ m : Int, w.cell? ⟨0, 0, none⟩ = some (.int .i64 m)
  syn : ∃ tp p, w.var? Tryz.prog "strconv.ErrSyntax" = some #[.iface tp p]
  rng : ∃ tp p, w.var? Tryz.prog "strconv.ErrRange" = some #[.iface tp p]
theorem var_mor {P : Program} {w w' : World} {name : String} {v : Array Value} (h : w.var? P name = some v) (hm : Mor w w') : w'.var? P name = some v := by
  unfold World.var? at h ⊢
  rw [Option.bind_eq_some_iff] at h ⊢
  obtain ⟨g, hg, h⟩ := h
  refine ⟨g, hg, ?_⟩
  cases hb : w.heap[g]? with
  | none => rw [hb] at h; cases h
  | some o =>
    rw [hb] at h
    rw [(hm.below.block g (Array.getElem?_eq_some_iff.1 hb).1).trans hb]
    exact h
theorem Tb.mor {w w' : World} (h : Tb w) (hm : Mor w w') : Tb w' := by
  obtain ⟨h1, ⟨m, h2⟩, ⟨a, b, h3⟩, c, d, h4⟩ := h
  exact ⟨var_mor h1 hm, ⟨m, (hm.below.cell (World.block_lt_of_cell? _ _ h2)).trans h2⟩, ⟨a, b, var_mor h3 hm⟩, c, d, var_mor h4 hm⟩
theorem itoa_any (n : Int) (w : World) (h0 : -9223372036854775808 ≤ n) (h1 : n ≤ 9223372036854775807) (ht : Tb w) :
    Calls Tryz.prog 37 #[.int .i64 n] w fun e w' => e = .returned (.string ⟨(Lib.itoa n).toArray⟩) ∧ Mor w w' := by
  refine (Sh.strconv_Itoa n h0 h1 w ht.tab).mono ?_
  rintro e w' ⟨rfl, k, os, rfl⟩
  exact ⟨rfl, ⟨os.toList, (w.drewN k).drawn, by simp [Go.Proofs.YtohpibjjlfpaaaaGreatDoor.more, Go.Sort.grow, World.drewN]⟩⟩

theorem szA (w : World) (o : Obj) : w.heap.size + 1 = (w.alloc o).heap.size := by show _ = (w.heap.push _).size; simp
theorem ub_app (a b : ByteArray) : ub (a ++ b) = ub a ++ ub b := by simp [ub]
theorem ub_mk (l : List UInt8) : ub ⟨l.toArray⟩ = l := by simp [ub]
theorem sz_mk (l : List UInt8) : (⟨l.toArray⟩ : ByteArray).size = l.length := by rw [← ub_len, ub_mk]
/-- the text as far as j lines -/
def preT (x : En) (j : Nat) : List UInt8 := ub x.key ++ 32 :: Lib.itoa x.day ++ (x.ls.take j).flatMap lnT
theorem preT_all (x : En) : preT x x.ls.length = plainT x := by unfold preT plainT; rw [List.take_length]
theorem ln_eq (xs : List Ln) (j : Nat) (h : j < xs.length) : xs[j] = (cd xs j, am xs j) := by
  unfold cd am
  rw [List.getD_eq_getElem?_getD, List.getElem?_eq_getElem h]; rfl
theorem preT_succ (x : En) (j : Nat) (h : j < x.ls.length) : preT x (j + 1) = preT x j ++ lnT (cd x.ls j, am x.ls j) := by
  unfold preT
  rw [List.take_succ_eq_append_getElem h, List.flatMap_append, ln_eq x.ls j h]
  simp
theorem codeB_size {s : ByteArray} (h : codeB s = true) : s.size ≤ 8 := by
  unfold codeB at h
  simp only [Bool.and_eq_true, decide_eq_true_eq] at h
  exact h.1.2
theorem keyB_size {s : ByteArray} (h : keyB s = true) : s.size ≤ 12 := by
  unfold keyB at h
  simp only [Bool.and_eq_true, decide_eq_true_eq] at h
  exact h.1.2
theorem lnT_len {l : Ln} (h : codeB l.1 = true ∧ -1000000000000 ≤ l.2 ∧ l.2 ≤ 1000000000000) : (lnT l).length ≤ 25 := by
  unfold lnT lnW
  have h1 := codeB_size h.1
  have h2 := itoa_len l.2 13 (by omega) (by omega)
  rw [List.length_cons, List.length_append, List.length_cons, ub_len]
  omega
theorem flat_len25 : ∀ (ls : List Ln), (∀ l ∈ ls, codeB l.1 = true ∧ -1000000000000 ≤ l.2 ∧ l.2 ≤ 1000000000000) → (ls.flatMap lnT).length ≤ 25 * ls.length
  | [], _ => by simp
  | l :: ls, h => by
    have h1 := lnT_len (h l (List.mem_cons_self ..))
    have h2 := flat_len25 ls fun q hq => h q (List.mem_cons_of_mem _ hq)
    rw [List.flatMap_cons, List.length_append, List.length_cons]
    omega
theorem preT_len {x : En} (h : EnOk x) (j : Nat) : (preT x j).length ≤ 330 := by
  have h1 := keyB_size h.key
  have h2 := itoa_len x.day 7 (by omega) (by have := h.d0; have := h.d9; omega)
  have h3 := flat_len25 (x.ls.take j) fun l hl => h.ln l (List.mem_of_mem_take hl)
  have h4 : (x.ls.take j).length ≤ 12 := by rw [List.length_take]; have := h.len; omega
  unfold preT
  rw [List.length_append, List.length_append, List.length_cons, ub_len]
  omega
theorem BuilderAtF.mor {T e : TypeId} {B b : Nat} {p : Value} {bs : List Value} {w w' : World} (h : Lib.BuilderAtF T e B b p bs w) (hm : Mor w w') : Lib.BuilderAtF T e B b p bs w' := by
  obtain ⟨h1, v, h2, h3, h4⟩ := h
  exact ⟨h1, v, (hm.below.block b (Array.getElem?_eq_some_iff.1 h2).1).trans h2, h3.kept (grown_mor hm none) (by cases hv : v.ownBlock with | none => exact .inl rfl | some k => exact .inr (by simp)), h4⟩
theorem IsBuilderF.mor {T e : TypeId} {B b : Nat} {bs : List Value} {w w' : World} (h : Lib.IsBuilderF T e B b bs w) (hm : Mor w w') : Lib.IsBuilderF T e B b bs w' := by
  rcases h with h | h
  · exact .inl (BuilderAtF.mor h hm)
  · exact .inr (BuilderAtF.mor h hm)
/-- WriteString, the builder's bytes as a list -/
theorem write_any (B b : Nat) (l : List UInt8) (s : ByteArray) (w : World) (h : Lib.IsBuilderF 109 5 B b (Lib.byteCells l) w) (hlen : l.length + s.size ≤ 100000) (hBw : B ≤ w.heap.size) :
    Calls Tryz.prog 61 #[.pointer (some ⟨b, 0, none⟩), .string s] w fun e w' => e = .returned (.tuple #[.int .i64 s.size, .nilIface]) ∧ Lib.IsBuilderF 109 5 B b (Lib.byteCells (l ++ ub s)) w' ∧ Below B w w' ∧ Lib.OthersKept 5 (some b) w w' := by
  refine (Sh.Builder_WriteString_k B b (Lib.byteCells l) s w h (by rw [Lib.byteCells_length]; omega) hBw).mono ?_
  rintro e w' ⟨rfl, h1, h2, h3⟩
  refine ⟨rfl, .inr ?_, h2, h3⟩
  rw [Lib.byteCells_append]
  exact h1

set_option maxRecDepth 100000 in
set_option maxHeartbeats 3200000 in
theorem plain_lg (x : En) (A : Option Addr) (n c : Nat) (w : World) (hx : Lq w A n c x.ls) (ht : Tb w) (he : enc x = 0) :
    Calls Tryz.prog 36 #[.agg #[.string x.key, .int .i64 x.day, .slice A n c]] w fun e w' => e = .returned (.string ⟨(plainT x).toArray⟩) ∧ Mor w w' := by
  have hxo := enOk_of he
  have HT := Lib.hid (fun w' (h : Mor w w') => ht.mor h)
  have HQ := Lib.hid (fun w' (h : Mor w w') => hx.mor h)
  have d0 := hxo.d0
  have d9 := hxo.d9
  have HOk := Lib.hid hxo
  clear hx ht he hxo
  obtain ⟨ky, dy, ls⟩ := x
  dsimp only at *
  have HLs := Lib.hid (show ls.length = n from (HQ.out _ (Mor.refl _)).length)
  have hnc : n ≤ c := (HQ.out _ (Mor.refl _)).le
  have hcm : c ≤ maxLen := (HQ.out _ (Mor.refl _)).max
  unfold maxLen at hcm
  have hn12 : n ≤ 12 := by rw [← HLs.out]; exact HOk.out.len
  have HPl := Lib.hid (fun j => preT_len HOk.out j)
  have HPs := Lib.hid (fun j (h : j < ls.length) => preT_succ ⟨ky, dy, ls⟩ j h)
  have HPa := Lib.hid (show preT ⟨ky, dy, ls⟩ n = plainT ⟨ky, dy, ls⟩ by rw [← HLs.out]; exact preT_all ⟨ky, dy, ls⟩)
  have hk12 := keyB_size HOk.out.key
  dsimp only at hk12
  have HP0 := Lib.hid (show ub (ky ++ { data := #[32] } ++ ⟨(Lib.itoa dy).toArray⟩) = preT ⟨ky, dy, ls⟩ 0 by
    rw [ub_app, ub_app, ub_mk]; unfold preT; simp [ub])
  have hk63 : ky.size + 1 ≤ 9223372036854775807 := by omega
  have hi63 : (ky ++ { data := #[32] }).size + (⟨(Lib.itoa dy).toArray⟩ : ByteArray).size ≤ 9223372036854775807 := by
    have := itoa_len dy 7 (by omega) (by omega)
    rw [sz_mk (Lib.itoa dy), ByteArray.size_append]
    show ky.size + 1 + (Lib.itoa dy).length ≤ _
    omega
  have HSz := Lib.hid (show (ky ++ { data := #[32] } ++ ⟨(Lib.itoa dy).toArray⟩).size ≤ 400 by
    rw [← ub_len, HP0.out]; have := HPl.out 0; omega)
  go_enter Tryz.func36, Tryz.ntmps36
  go_wp2_with fail
  have hM0 := ((Mor.refl w).alloc (o := .cells #[.string ky, .int .i64 dy, .slice A n c] 28)).alloc (o := .cells #[.pointer none, .slice none 0 0] 109)
  have hE0 := (Bk.new w 28 #[.string ky, .int .i64 dy, .slice A n c]).alloc (.cells #[.pointer none, .slice none 0 0] 109)
  have hB0 := Lib.IsBuilderF.of (Lib.fresh_isBuilder 109 5 (w.alloc (.cells #[.string ky, .int .i64 dy, .slice A n c] 28)))
  rw [← szA] at hB0
  obtain ⟨bE, hbE⟩ : ∃ g, g = w.heap.size := ⟨_, rfl⟩
  rw [← hbE] at hE0 hB0 ⊢
  obtain ⟨bB, hbB⟩ : ∃ g, g = bE + 1 := ⟨_, rfl⟩
  rw [← hbB] at hB0 ⊢
  have hszB : bB ≤ ((w.alloc (.cells #[.string ky, .int .i64 dy, .slice A n c] 28)).alloc (.cells #[.pointer none, .slice none 0 0] 109)).heap.size := by simp; omega
  generalize (w.alloc (.cells #[.string ky, .int .i64 dy, .slice A n c] 28)).alloc (.cells #[.pointer none, .slice none 0 0] 109) = w0 at *
  have hEB : bE < bB := by omega
  have hwE : w.heap.size ≤ bE := by omega
  have HE0 := Lib.hid hE0
  have HB0 := Lib.hid hB0
  have HM0 := Lib.hid hM0
  clear hE0 hB0 hM0 hbE hbB
  have HIt := Lib.hid (fun w' (h : Tb w') => itoa_any dy w' (by omega) (by omega) h)
  have HWs := Lib.hid (fun w' (h : Mor w0 w') => write_any bB bB [] (ky ++ { data := #[32] } ++ ⟨(Lib.itoa dy).toArray⟩) w' (IsBuilderF.mor HB0.out h) (by have := HSz.out; simp only [List.length_nil]; omega) (Nat.le_trans hszB h.below.size))
  have hi64 : ky.size + 1 + (Lib.itoa dy).length ≤ 9223372036854775807 := by
    have := itoa_len dy 7 (by omega) (by omega)
    omega
  have HW6 := Lib.hid (fun w5 w6 (h : Mor w0 w5) (hb : Below bB w5 w6) => show Below bB w0 w6 from (Below.mono h.below hszB).trans hb)
  have HP0' := Lib.hid HP0.out
  go_cut [13] (fun s13 wx => Hid (Lib.IsBuilderF 109 5 bB bB (Lib.byteCells (preT ⟨ky, dy, ls⟩ 0)) wx ∧ Below bB w0 wx))
  case first =>
    have p0 := HE0.out.cell 0
    have p1 := HE0.out.cell 1
    have p2 := HE0.out.cell 2
    have pl := HE0.out.lt
    simp at p0 p1 p2
    generalize hst : ky ++ { data := #[32] } ++ ⟨(Lib.itoa dy).toArray⟩ = st at *
    go_region_with (first
      | (go_at_call 37; (with_reducible refine (HIt.out _ (HT.out _ (by repeat (first | exact HM0.out | apply Mor.alloc | apply Mor.more | apply Mor.drewN | apply Mor.drew)))).mono ?_); rintro e w5 ⟨rfl, bs, dk, rfl⟩)
      | (go_at_call 61; (with_reducible refine (HWs.out _ (by repeat (first | exact Mor.refl _ | apply Mor.alloc | apply Mor.more | apply Mor.drewN | apply Mor.drew))).mono ?_); rintro e w6 ⟨rfl, hb6, hbl, hok⟩; have HX6 := Lib.hid (And.intro hb6 (HW6.out _ _ (by repeat (first | exact Mor.refl _ | apply Mor.alloc | apply Mor.more | apply Mor.drewN | apply Mor.drew)) hbl)); clear hb6 hbl hok))
    all_goals (go_wp2_with fail; go_meet; exact Lib.hid ⟨by rw [← HP0.out]; exact HX6.out.1, HX6.out.2⟩)
  case rest =>
    obtain ⟨hb, hbl⟩ := hcut.out
    have HMw := Lib.hid (fun wr (h : Below bB w0 wr) => show Mor w wr from Mor.of_below (HM0.out.below.trans (Below.mono h (by omega))))
    have HEw := Lib.hid (fun wr (h : Below bB w0 wr) => show Bk wr bE 28 #[.string ky, .int .i64 dy, .slice A n c] from (h.block bE hEB).trans HE0.out)
    have hE := HEw.out wc hbl
    have p2 := hE.cell 2
    have pl := hE.lt
    simp at p2
    have HR := Lib.hid (And.intro hb hbl)
    clear hb hbl hE hcut HIt HWs HW6
    go_wp2_with fail
    go_loopw [17] (fun i wr => ∃ j : Nat, j ≤ n ∧ i = .int .i64 j ∧ Hid (Lib.IsBuilderF 109 5 bB bB (Lib.byteCells (preT ⟨ky, dy, ls⟩ j)) wr ∧ Below bB w0 wr)) (fun i _ => n - (intOf i).toNat)
    case atStart => exact ⟨0, Nat.zero_le _, rfl, HR⟩
    case round =>
      clear p2 pl HR
      obtain ⟨j, hj, rfl, HJ⟩ := hrel
      obtain ⟨hb, hbl⟩ := HJ.out
      by_cases hlt : j < n
      · have hji : (j : Int) < (n : Int) := by omega
        have hj0 : (0 : Int) ≤ (j : Int) := by omega
        have hjl : j < ls.length := by rw [HLs.out]; exact hlt
        obtain ⟨x, hA, hxb, c0, c1⟩ := (HQ.out _ (HMw.out _ hbl)).si.at_ j hjl
        subst hA
        have hlo := HOk.out.ln (cd ls j, am ls j) (by rw [← ln_eq ls j hjl]; exact List.getElem_mem hjl)
        obtain ⟨k1, k2, k3⟩ := hlo
        dsimp only at k1 k2 k3
        have hks := codeB_size k1
        have hNx := HPs.out j hjl
        have HPj := HPl.out j
        have hlen := itoa_len (am ls j) 13 (by omega) (by omega)
        generalize cd ls j = code at *
        generalize am ls j = amt at *
        have HNx := Lib.hid (show preT ⟨ky, dy, ls⟩ (j + 1) = preT ⟨ky, dy, ls⟩ j ++ ub ({ data := #[32] } ++ code ++ { data := #[58] } ++ ⟨(Lib.itoa amt).toArray⟩) by
          rw [hNx, ub_app, ub_app, ub_app, ub_mk]; unfold lnT lnW; simp [ub])
        have HStz := Lib.hid (show ({ data := #[32] } ++ code ++ { data := #[58] } ++ ⟨(Lib.itoa amt).toArray⟩ : ByteArray).size ≤ 30 by
          rw [ByteArray.size_append, ByteArray.size_append, ByteArray.size_append, sz_mk (Lib.itoa amt)]
          show 1 + code.size + 1 + _ ≤ 30
          omega)
        have s1 : 1 + code.size ≤ 9223372036854775807 := by omega
        have s2 : 1 + code.size + 1 ≤ 9223372036854775807 := by omega
        have s3 : 1 + code.size + 1 + (Lib.itoa amt).length ≤ 9223372036854775807 := by omega
        clear hNx hxb
        have hL5 := Bk.new wr 34 #[.string code, .int .i64 amt]
        have hb5 := Lib.IsBuilderF.alloc hb (.cells #[.string code, .int .i64 amt] 34)
        have hM5 := (Mor.refl wr).alloc (o := .cells #[.string code, .int .i64 amt] 34)
        have hbl5 : Below bB w0 (wr.alloc (.cells #[.string code, .int .i64 amt] 34)) := hbl.trans (Below.mono hM5.below (Nat.le_trans hszB hbl.size))
        go_wp2_with fail
        obtain ⟨bL, hbL⟩ : ∃ g, g = wr.heap.size := ⟨_, rfl⟩
        rw [← hbL] at hL5 ⊢
        generalize wr.alloc (.cells #[.string code, .int .i64 amt] 34) = w5 at *
        have HB5 := Lib.hid hb5
        have HL5 := Lib.hid hL5
        have HBl5 := Lib.hid hbl5
        have hsz5 := Nat.le_trans hszB hbl5.size
        have HIt := Lib.hid (fun w' (h : Tb w') => itoa_any amt w' (by omega) (by omega) h)
        have HWs := Lib.hid (fun w' (h : Mor w5 w') => write_any bB bB (preT ⟨ky, dy, ls⟩ j) ({ data := #[32] } ++ code ++ { data := #[58] } ++ ⟨(Lib.itoa amt).toArray⟩) w' (IsBuilderF.mor HB5.out h) (by have := HStz.out; omega) (Nat.le_trans hsz5 h.below.size))
        have HW6 := Lib.hid (fun w6 w7 (h : Mor w5 w6) (hb : Below bB w6 w7) => show Below bB w0 w7 from (HBl5.out.trans (Below.mono h.below hsz5)).trans hb)
        clear hb hbl hb5 hL5 hM5 hbl5 hbL HJ c0 c1
        have p0 := HL5.out.cell 0
        have p1 := HL5.out.cell 1
        have pl := HL5.out.lt
        simp at p0 p1
        generalize hst : { data := #[32] } ++ code ++ { data := #[58] } ++ ⟨(Lib.itoa amt).toArray⟩ = st at *
        go_region_with (first
          | (go_at_call 37; (with_reducible refine (HIt.out _ (HT.out _ (Mor.trans' (HMw.out _ HBl5.out) (by repeat (first | exact Mor.refl _ | apply Mor.alloc | apply Mor.more | apply Mor.drewN | apply Mor.drew))))).mono ?_); rintro e w6 ⟨rfl, bs, dk, rfl⟩)
          | (go_at_call 61; (with_reducible refine (HWs.out _ (by repeat (first | exact Mor.refl _ | apply Mor.alloc | apply Mor.more | apply Mor.drewN | apply Mor.drew))).mono ?_); rintro e w6 ⟨rfl, hb6, hbl, hok⟩; have HX6 := Lib.hid (And.intro hb6 (HW6.out _ _ (by repeat (first | exact Mor.refl _ | apply Mor.alloc | apply Mor.more | apply Mor.drewN | apply Mor.drew)) hbl)); clear hb6 hbl hok))
        all_goals go_wp2_with fail
        all_goals go_roundw
        all_goals first
          | exact ⟨j + 1, by omega, by go_num, Lib.hid ⟨by rw [HNx.out]; exact HX6.out.1, HX6.out.2⟩⟩
          | (simp [intOf]; omega)
      · obtain rfl : j = n := by omega
        have hbz : bB ≤ wr.heap.size := Nat.le_trans hszB hbl.size
        have HS := Lib.hid (Sh.Builder_String_any_k bB bB (preT ⟨ky, dy, ls⟩ j) wr hb hbz)
        have HBl := Lib.hid hbl
        clear hb hbl HJ
        go_wp2_with (go_at_call 62; (with_reducible refine HS.out.mono ?_); rintro e w7 ⟨rfl, hb7, hbl7, hok7⟩; have HB7 := Lib.hid hbl7; clear hb7 hbl7 hok7)
        go_ret
        exact ⟨by rw [HPa.out] <;> rfl, HMw.out _ (HBl.out.trans HB7.out)⟩

end Go.Proofs.YtohpibjjlfpaaaaGreatDoor

/- The walk of log.Write. -/
namespace Go.Proofs.YtohpibjjlfpaaaaGreatDoor
open Go Go.ChangeShapes Go.WideShapes Go.ChangeAt Go.RowKit Go.PlainAid
set_option linter.unusedVariables false
set_option maxRecDepth 100000

theorem text_len {x : En} (h : EnOk x) : (plainT x).length ≤ 330 := by rw [← preT_all]; exact preT_len h _
theorem itoa_cks_len (l : List UInt8) : (Lib.itoa (cks l)).length ≤ 6 := itoa_len _ 5 (by omega) (by have := cks_lt l; omega)
theorem ck_all (l : List UInt8) : ckI ⟨l.toArray⟩ (⟨l.toArray⟩ : ByteArray).size = (cks l : Nat) := by
  rw [sz_mk]; unfold ckI cks; rw [ub_mk]
set_option maxRecDepth 100000 in
set_option maxHeartbeats 1600000 in
theorem lwrite_ok (x : En) (A : Option Addr) (n c : Nat) (w : World) (hx : Lq w A n c x.ls) (hks : x.key.size ≤ maxLen) (ht : Tb w) (he : enc x = 0) :
    Calls Tryz.prog 8 #[.agg #[.string x.key, .int .i64 x.day, .slice A n c]] w fun e w' => e = .returned (.tuple #[.string (textB x), .int .i64 0]) ∧ Mor w w' := by
  have HCk := Lib.hid (fun w' (h : Mor w w') => check_any x.key x.day A n c x.ls w' hks (hx.si.mor h) hx.length hx.le (Nat.le_trans hx.le hx.max) hx.str)
  have HPl := Lib.hid (fun w' (h : Mor w w') => plain_lg x A n c w' (hx.mor h) (ht.mor h) he)
  rw [show entc x.key x.day x.ls = 0 from he] at HCk
  have hlen := text_len (enOk_of he)
  have hil := itoa_cks_len (plainT x)
  have hcl := cks_lt (plainT x)
  have HSu := Lib.hid (fun w' => lsum_any ⟨(plainT x).toArray⟩ w' (by rw [sz_mk]; omega))
  rw [ck_all] at HSu
  have HIt := Lib.hid (fun w' (h : Mor w w') => itoa_any (cks (plainT x)) w' (by omega) (by omega) (ht.mor h))
  have HTx := Lib.hid (show (⟨(plainT x).toArray⟩ : ByteArray) ++ { data := #[32, 61] } ++ ⟨(Lib.itoa (cks (plainT x))).toArray⟩ ++ { data := #[10] } = textB x by
    apply ub_inj
    rw [ub_app, ub_app, ub_app, ub_mk, ub_mk, textB_ub]
    unfold textT sumT
    simp [ub])
  generalize plainT x = P at *
  have s0 : (⟨P.toArray⟩ : ByteArray).size = P.length := sz_mk P
  have s1 : P.length + 2 ≤ 9223372036854775807 := by omega
  have s2 : P.length + 2 + (Lib.itoa (cks P)).length ≤ 9223372036854775807 := by omega
  have s3 : P.length + 2 + (Lib.itoa (cks P)).length + 1 ≤ 9223372036854775807 := by omega
  generalize x.key = ky at *
  generalize x.day = dy at *
  generalize hst : textB x = st at *
  clear hx ht he hst
  go_enter Tryz.func8, Tryz.ntmps8
  go_wp2_with fail
  have hE := Bk.new w 28 #[.string ky, .int .i64 dy, .slice A n c]
  obtain ⟨bE, hbE⟩ : ∃ g, g = w.heap.size := ⟨_, rfl⟩
  rw [← hbE] at hE ⊢
  have hM := (Mor.refl w).alloc (o := .cells #[.string ky, .int .i64 dy, .slice A n c] 28)
  generalize w.alloc (.cells #[.string ky, .int .i64 dy, .slice A n c] 28) = w1 at *
  have HE := Lib.hid (fun w' (h : Mor w1 w') => hE.mor h)
  have HM := Lib.hid hM
  clear hE hM hbE
  refine (HCk.out _ HM.out).mono ?_
  rintro e w2 ⟨rfl, hm⟩
  have HM2 := Lib.hid hm
  have hE := HE.out _ hm
  have p0 := hE.cell 0
  have p1 := hE.cell 1
  have p2 := hE.cell 2
  have pl := hE.lt
  simp at p0 p1 p2
  clear hm hE
  go_wp2_with fail
  refine (HPl.out _ (HM.out.trans' HM2.out)).mono ?_
  rintro e w3 ⟨rfl, hm⟩
  have HM3 := Lib.hid ((HM.out.trans' HM2.out).trans' hm)
  clear hm p0 p1 p2 pl
  go_wp2_with (first | (go_at_call 38; (with_reducible refine (HSu.out _).mono ?_); rintro e w4 ⟨rfl, rfl⟩) | (go_at_call 37; (with_reducible refine (HIt.out _ HM3.out).mono ?_); rintro e w5 ⟨rfl, hm5⟩; have HM5 := Lib.hid hm5; clear hm5))
  go_returns
  exact ⟨by rw [← HTx.out] <;> rfl, HM3.out.trans' HM5.out⟩

set_option maxRecDepth 100000 in
set_option maxHeartbeats 1600000 in
theorem lwrite_no (x : En) (A : Option Addr) (n c : Nat) (w : World) (hx : Lq w A n c x.ls) (hks : x.key.size ≤ maxLen) (he : enc x ≠ 0) :
    Calls Tryz.prog 8 #[.agg #[.string x.key, .int .i64 x.day, .slice A n c]] w fun e w' => e = .returned (.tuple #[.string { data := #[] }, .int .i64 (enc x)]) ∧ Mor w w' := by
  have HCk := Lib.hid (fun w' (h : Mor w w') => check_any x.key x.day A n c x.ls w' hks (hx.si.mor h) hx.length hx.le (Nat.le_trans hx.le hx.max) hx.str)
  rw [show entc x.key x.day x.ls = enc x from rfl] at HCk
  generalize enc x = r at *
  have hb : (r != 0) = true := by simpa using he
  generalize x.key = ky at *
  generalize x.day = dy at *
  clear hx he
  go_enter Tryz.func8, Tryz.ntmps8
  go_wp2_with (go_at_call 35; (with_reducible refine (HCk.out _ (Mor.refl _).alloc).mono ?_); rintro e w2 ⟨rfl, hm⟩; have HM := Lib.hid hm; clear hm)
  go_returns
  exact ⟨rfl, (Mor.refl _).alloc.trans' HM.out⟩

end Go.Proofs.YtohpibjjlfpaaaaGreatDoor
