/- talkeep.copied: a book of one's own, with room behind its lists (printed by gkop.py from the walk of book.Copied). -/
import Derived.Test.YtohpibjjlfpaaaaGreatDoorPBookOwnZ1
import Derived.Test.YtohpibjjlfpaaaaGreatDoorPBookOwnZ2
import Derived.Test.YtohpibjjlfpaaaaGreatDoorPBookOwnZ3
import Derived.Test.YtohpibjjlfpaaaaGreatDoorPBookOwnZ4
import Derived.Test.YtohpibjjlfpaaaaGreatDoorPBookOwnZ5
import Derived.Test.YtohpibjjlfpaaaaGreatDoorPBookOwnZ6
import Derived.Test.YtohpibjjlfpaaaaGreatDoorPBookOwnZ9
import Derived.Test.YtohpibjjlfpaaaaGreatDoorPBookOwnZ10
import Derived.Test.YtohpibjjlfpaaaaGreatDoorPBookOwnZ11
import Derived.Test.YtohpibjjlfpaaaaGreatDoorPBookOwnZ12
import Derived.Test.YtohpibjjlfpaaaaGreatDoorPBookOwnZ13
import Derived.Test.YtohpibjjlfpaaaaGreatDoorPBookOwnZ15
import Derived.Test.YtohpibjjlfpaaaaGreatDoorPBookOwnZ19
import Derived.Test.YtohpibjjlfpaaaaGreatDoorPBookOwnZ20
import Derived.Test.YtohpibjjlfpaaaaGreatDoorPBookOwnZ21
import Derived.Test.YtohpibjjlfpaaaaGreatDoorPBookOwnZ35
import Derived.Test.YtohpibjjlfpaaaaGreatDoorPBookOwnZ40
import Derived.Test.YtohpibjjlfpaaaaGreatDoorPBookOwnZ41
import Derived.Test.YtohpibjjlfpaaaaGreatDoorPBookOwnZ42
import Derived.Test.YtohpibjjlfpaaaaGreatDoorPBookOwnZ43
import Derived.Test.YtohpibjjlfpaaaaGreatDoorRows
import Derived.BigQuiet
import Derived.DataElems
import Derived.Deep.AppendSrc
import Derived.Deep.DeepAppendRoom
import Derived.Deep.DeepCutAuto
import Derived.Deep.LoopGhost
import Derived.Deep.OwnRows
import Derived.Deep.QuietTactic
import Derived.Deep.RegionHeld3
import Derived.Deep.RegionLaw
import Derived.Deep.RegionWith
import Derived.Deep.SlicePairs
import Derived.Deep.Slices
import Derived.Deep.Strs
import Derived.Handy
import Derived.Laws.AppendOwn
import Derived.Laws.Cover1
import Derived.Lib.Bytealg
import Derived.Lib.Hide
import Derived.Lib.SliceRun
import Derived.Lib.Walk
import Derived.Maps.Own
import Derived.Maps.OwnSet
import Derived.Maps.Views
import Derived.OpenShut
import Derived.Outline
import Derived.OwnWalk
import Derived.PlainAid
import Derived.ProofKit
import Derived.RegionTactic
import Derived.Shelf.Abstract
import Derived.Sort.Walk0
import Derived.StringKeys
import Derived.WalkKit
import Derived.WalkSpells
namespace Go.Proofs.YtohpibjjlfpaaaaGreatDoor
open Go.ChangeShapes Go.WideShapes Go.ChangeAt Go.RowKit Go.PlainAid
set_option linter.unusedVariables false
set_option maxRecDepth 100000

/-- a row of one's own, of two cells each, with room of three behind it -/
def OwnK (w : World) (B : Nat) (T : TypeId) (v : Value) (n : Nat) (cs us : List Value) : Prop :=
  ∃ g, v = .slice (some ⟨g, 0, none⟩) n (n + 3) ∧ B ≤ g ∧ cs.length = n * 2 ∧ us.length = 2 ∧ n + 3 ≤ maxLen ∧ w.heap[g]? = some (.cells (room3 cs us).toArray T (0, 0))
theorem OwnK.new {w : World} {B g n : Nat} {T : TypeId} {cs us : List Value} (hg : B ≤ g) (hl : cs.length = n * 2) (hu : us.length = 2) (hn : n ≤ 9000000000000) (h : Blk w g T (room3 cs us).toArray) : OwnK w B T (.slice (some ⟨g, 0, none⟩) n (n + 3)) n cs us :=
  ⟨g, rfl, hg, hl, hu, by unfold maxLen; omega, h⟩
theorem OwnK.at_ {w w' : World} {B n : Nat} {T : TypeId} {v : Value} {cs us : List Value} (h : OwnK w B T v n cs us) (hb : ∀ (g : Nat) (cur : Array Value), w.heap[g]? = some (Obj.cells cur T (0, 0)) → w'.heap[g]? = w.heap[g]?) : OwnK w' B T v n cs us := by
  obtain ⟨g, h1, h2, h3, h4, h5, h6⟩ := h
  exact ⟨g, h1, h2, h3, h4, h5, (hb g _ h6).trans h6⟩
theorem OwnK.own {w : World} {B n : Nat} {T : TypeId} {v : Value} {cs us : List Value} (h : OwnK w B T v n cs us) : w.ownsRow B T 2 v n cs := by
  obtain ⟨g, h1, h2, h3, h4, h5, h6⟩ := h
  refine ⟨h3, .inr ⟨g, n + 3, _, h1, h2, h6, by omega, h5, by simp [room3_len, h3, h4]; omega, ?_⟩⟩
  rw [← h3]; unfold room3; simp
theorem OwnK.mor {w w' : World} {B n : Nat} {T : TypeId} {v : Value} {cs us : List Value} (h : OwnK w B T v n cs us) (hm : Mor w w') : OwnK w' B T v n cs us :=
  h.at_ fun g cur hg => hm.below.block g (Array.getElem?_eq_some_iff.1 hg).1
theorem OwnK.base {w : World} {B B' n : Nat} {T : TypeId} {v : Value} {cs us : List Value} (h : OwnK w B T v n cs us) (hB : B' ≤ B) : OwnK w B' T v n cs us := by
  obtain ⟨g, h1, h2, h3⟩ := h
  exact ⟨g, h1, Nat.le_trans hB h2, h3⟩
theorem OwnK.setT {w : World} {B n g i : Nat} {T T' : TypeId} {v u : Value} {xs us : List Value} {cs : Array Value} (h : OwnK w B T v n xs us) (hb : Bk w g T' cs) (hT : T ≠ T') : OwnK (w.setCell ⟨g, i, none⟩ u) B T v n xs us :=
  h.at_ fun g2 cur hg => Below.heap_setCell _ _ _ _ (by
    intro e
    simp only at e
    subst e
    unfold Bk at hb
    rw [hb] at hg
    injection hg with hg
    injection hg with _ hg _
    exact hT hg.symm)
theorem OwnK.grows {w w' : World} {B B' s' n n' : Nat} {T T' : TypeId} {v v' : Value} {xs us xs' : List Value} (h : OwnK w B T v n xs us) (hv : w.ownsRow B' T' s' v' n' xs') (hg : w.grownBy w' v'.ownBlock) (hT : T ≠ T') : OwnK w' B T v n xs us :=
  h.at_ fun g cur hc => hg.block g (Array.getElem?_eq_some_iff.1 hc).1 (fun e => by
    obtain ⟨_, _, cur2, hc2⟩ := own_blk hv e.symm
    rw [hc] at hc2
    injection hc2 with hc2
    injection hc2 with _ hc2 _
    exact hT hc2)
theorem OwnK.swap {w0 : World} {c1 c2 : Array Value} {T' : TypeId} {bs : List Obj} {dk : Nat} {B n : Nat} {T : TypeId} {v : Value} {xs us : List Value} (hT : T ≠ T') (h : OwnK (more (w0.alloc (.cells c1 T')).drew bs dk) B T v n xs us) : OwnK (more (w0.alloc (.cells c2 T')) bs dk) B T v n xs us := by
  obtain ⟨g, h1, h2, h3, h4, h5, h6⟩ := h
  refine ⟨g, h1, h2, h3, h4, h5, ?_⟩
  have hz : (more (w0.alloc (.cells c1 T')).drew bs dk).ownsRow B T 2 (.slice (some ⟨g, 0, none⟩) n (n + 3)) n xs := OwnK.own ⟨g, rfl, h2, h3, h4, h5, h6⟩
  have h6' := h6
  have e1 : ∀ c, (w0.alloc (.cells c T')).heap.size = w0.heap.size + 1 := fun c => (sz1 _ _).symm
  by_cases hl : g < w0.heap.size + 1
  · rw [block_more _ _ _ _ (by rw [e1]; exact hl)]
    rw [block_more _ _ _ _ (by show g < (w0.alloc _).heap.size; rw [e1]; exact hl)] at h6
    by_cases he : g = w0.heap.size
    · subst he
      have hg' : (w0.alloc (.cells c1 T')).heap[w0.heap.size]? = some (.cells _ T (0, 0)) := h6
      rw [heap_alloc_new w0 _] at hg'
      injection hg' with hg'
      injection hg' with _ hg' _
      exact absurd hg'.symm hT
    · refine Eq.trans ?_ h6
      show (w0.alloc _).heap[g]? = (w0.alloc _).heap[g]?
      rw [Below.heap_alloc w0 _ g (by omega), Below.heap_alloc w0 _ g (by omega)]
  · obtain ⟨j, rfl⟩ : ∃ j, g = (w0.heap.size + 1) + j := ⟨g - (w0.heap.size + 1), by omega⟩
    have h1 := block_more_new (w0.alloc (.cells c2 T')) bs dk j
    have h2 := block_more_new (w0.alloc (.cells c1 T')).drew bs dk j
    rw [e1] at h1
    rw [show (w0.alloc (.cells c1 T')).drew.heap.size = w0.heap.size + 1 from e1 _] at h2
    rw [h1, ← h2]; exact h6
/-- an entry of one's own, with room behind its lines -/
structure OwnEk (w : World) (base : Nat) (q : Ev) (x : En) : Prop where
  key : q.key = x.key
  day : q.day = x.day
  row : OwnK w base 34 (.slice q.A q.n q.c) q.n (flat pc x.ls) [.string { data := #[] }, .int .i64 78]
  len : x.ls.length = q.n
  ks : x.key.size ≤ maxLen
  str : ∀ i, i < q.n → (cd x.ls i).size ≤ maxLen
theorem OwnEk.mor {w w' : World} {base : Nat} {q : Ev} {x : En} (h : OwnEk w base q x) (hm : Mor w w') : OwnEk w' base q x := ⟨h.key, h.day, h.row.mor hm, h.len, h.ks, h.str⟩
structure OwnBk (w : World) (base : Nat) (vA vX : Value) (n m : Nat) (b : Bok) (qs : List Ev) : Prop where
  ac : OwnK w base 58 vA n (flat pc b.ac) [.string { data := #[] }, .int .i64 77]
  al : b.ac.length = n
  astr : ∀ i, i < n → (cd b.ac i).size ≤ maxLen
  row : w.ownsRow base 28 3 vX m (flat ec qs)
  ql : qs.length = m
  el : b.en.length = m
  ent : ∀ i, i < m → OwnEk w base (qe qs i) (ne b.en i)
theorem OwnBk.mor {w w' : World} {base : Nat} {vA vX : Value} {n m : Nat} {b : Bok} {qs : List Ev} (h : OwnBk w base vA vX n m b qs) (hm : Mor w w') : OwnBk w' base vA vX n m b qs :=
  ⟨h.ac.mor hm, h.al, h.astr, own_mor h.row hm, h.ql, h.el, fun i hi => (h.ent i hi).mor hm⟩
theorem OwnBk.own {w : World} {base : Nat} {vA vX : Value} {n m : Nat} {b : Bok} {qs : List Ev} (h : OwnBk w base vA vX n m b qs) : OwnB w base vA vX n m b :=
  ⟨h.ac.own, h.al, h.astr, qs, h.row, h.ql, h.el, fun i hi => ⟨(h.ent i hi).key, (h.ent i hi).day, (h.ent i hi).row.own, (h.ent i hi).len, (h.ent i hi).ks, (h.ent i hi).str⟩⟩
def KopPost (w : World) (n m : Nat) (b : Bok) (e : Ending) (w' : World) : Prop :=
  ∃ vA vX qs, e = .returned (.agg #[vA, vX, .int .i64 b.shut]) ∧ OwnBk w' w.heap.size vA vX n m b qs ∧ Mor w w'

set_option maxRecDepth 100000 in
set_option maxHeartbeats 3200000 in
theorem kopied_any (A : Option Addr) (n c : Nat) (X : Option Addr) (m k : Nat) (b : Bok) (w : World) (h : Bq w A n c X m k b) (hn : n ≤ 5864062014700) (hm : m ≤ 2932031007390) (hls : ∀ x ∈ b.en, x.ls.length ≤ 5864062014700) :
    Calls Tryz.prog 5 #[bv A n c X m k b.shut] w (KopPost w n m b) := by
  obtain ⟨i0, hi, hz0, hz1, hz2⟩ := info_parts info_entry
  have HQ := Lib.hid h
  have HCa := Lib.hid (fun w' (hm : Mor w w') => show Calls Tryz.prog 34 #[.slice A n c, .agg #[.string { data := #[] }, .int .i64 77]] w' fun e w2 => ∃ A' c', e = .returned (.slice A' n c') ∧ OwnK w2 w.heap.size 58 (.slice A' n c') n (flat pc b.ac) [.string { data := #[] }, .int .i64 77] ∧ Mor w' w2 from
    (roomy_ac A n c (flat pc b.ac) { data := #[] } 77 w' (fun W hW y hy j u hu => si_flat (by have := (h.ac.mor (hm.trans' hW)).si; rw [hy] at this; exact this) j u hu) (flat_one b.ac) (by rw [flat_len pc 2 pc_len, h.ac.length]) h.ac.nil (by omega)).mono (by
      rintro e w2 ⟨g, rfl, hg, hm2, hb⟩
      exact ⟨_, _, rfl, OwnK.new (Nat.le_trans hm.below.size hg) (by rw [flat_len pc 2 pc_len, h.ac.length]) rfl (by omega) hb, hm2⟩))
  generalize hsh : b.shut = s at *
  have HSH := Lib.hid hsh
  clear h hsh
  go_enter Tryz.func5, Tryz.ntmps5
  go_wp2_with fail
  have hP0 := (Bk.new w 25 #[.slice A n c, .slice X m k, .int .i64 s]).alloc (.cells #[.slice none 0 0, .slice none 0 0, .int .i64 0] 25)
  have hR0 := Bk.new (w.alloc (.cells #[.slice A n c, .slice X m k, .int .i64 s] 25)) 25 #[.slice none 0 0, .slice none 0 0, .int .i64 0]
  have hM0 := (Mor.refl w).alloc (o := .cells #[.slice A n c, .slice X m k, .int .i64 s] 25) |>.alloc (o := .cells #[.slice none 0 0, .slice none 0 0, .int .i64 0] 25)
  rw [← sz1] at hR0
  obtain ⟨bP, hbP⟩ : ∃ b, b = w.heap.size := ⟨_, rfl⟩
  rw [← hbP] at hP0 hR0 ⊢
  obtain ⟨bR, hbR⟩ : ∃ b, b = bP + 1 := ⟨_, rfl⟩
  rw [← hbR] at hR0 ⊢
  generalize (w.alloc (.cells #[.slice A n c, .slice X m k, .int .i64 s] 25)).alloc (.cells #[.slice none 0 0, .slice none 0 0, .int .i64 0] 25) = w0 at *
  have c0 := hP0.cell 0
  have c2 := hP0.cell 2
  have cl := hP0.lt
  simp at c0 c2
  have HP0 := Lib.hid hP0
  have HR0 := Lib.hid hR0
  have HM0 := Lib.hid hM0
  have HbP := Lib.hid hbP
  have HbR := Lib.hid hbR
  clear hP0 hR0 hM0 hbP hbR
  go_cut [3] (fun u wx => ∃ g A' c', u = .pointer (some ⟨g, 0, none⟩) ∧ Hid (Bk wx g 25 #[.slice A' n c', .slice none 0 0, .int .i64 s] ∧ OwnK wx w.heap.size 58 (.slice A' n c') n (flat pc b.ac) [.string { data := #[] }, .int .i64 77] ∧ Mor w0 wx ∧ w0.heap.size ≤ g))
  case first =>
    have HKp := Lib.hid (fun w' (h : Mor w0 w') => show w'.cell? ⟨bP, 0, none⟩ = some (.slice A n c) ∧ w'.cell? ⟨bP, 2, none⟩ = some (.int .i64 s) from ⟨by rw [(HP0.out.mor h).cell]; rfl, by rw [(HP0.out.mor h).cell]; rfl⟩)
    go_region_held3 (fun w' => w'.cell? ⟨bP, 0, none⟩ = some (.slice A n c) ∧ w'.cell? ⟨bP, 2, none⟩ = some (.int .i64 s)) (exact HKp.out _ (by repeat (first | exact Mor.refl _ | apply Mor.alloc | apply Mor.more | apply Mor.drewN | apply Mor.drew))) (first | (go_at_call 34; (with_reducible refine (HCa.out _ (by repeat (first | exact HM0.out | apply Mor.alloc | apply Mor.more | apply Mor.drewN | apply Mor.drew))).mono ?_); rintro e w1 ⟨A', c', rfl, ho, bs, dk, rfl⟩))
    all_goals (go_wp2_with fail; go_meet; refine ⟨_, A', c', rfl, ?_⟩)
    · refine Lib.hid ⟨?_, OwnK.mor ho (Mor.refl _).alloc, (Mor.refl _).more.alloc, Nat.le_add_right _ _⟩
      have h := Bk.new (more w0 bs dk) 25 #[.slice A' n c', .slice none 0 0, .int .i64 s]
      rwa [size_more] at h
    · exact Lib.hid ⟨(Bk.new w0 25 _).mor (Mor.refl _).more, OwnK.swap (by decide) ho, (Mor.refl _).alloc.more, Nat.le_refl _⟩
  case rest =>
    obtain ⟨g, A', c', rfl, HH⟩ := hcut
    obtain ⟨hG, hA, hMc, hgs⟩ := HH.out
    have HG := Lib.hid hG
    have HA := Lib.hid hA
    have HMc := Lib.hid hMc
    have hPc := HP0.out.mor hMc
    have d1 := hPc.cell 1
    have dl := hPc.lt
    simp at d1
    have HPc := Lib.hid hPc
    have HRc := Lib.hid (HR0.out.mor hMc)
    have HGR := Lib.hid (show bR < g by have := HR0.out.lt; omega)
    have HbRw := Lib.hid (show w.heap.size ≤ bR by have := HbR.out; have := HbP.out; omega)
    clear hG hA hMc hgs hPc HH HCa c0 c2 cl
    have HN := Lib.hid (show b.en.length = m from HQ.out.length)
    go_wp2_with fail
    go_loopw [16] (fun i wr => ∃ j : Nat, j ≤ m ∧ i = .int .i64 j ∧ Hid (∃ v qs, Bk wr g 25 #[.slice A' n c', v, .int .i64 s] ∧ wr.ownsRow wc.heap.size 28 3 v j (flat ec qs) ∧ qs.length = j ∧ (∀ i, i < j → OwnEk wr wc.heap.size (qe qs i) (ne b.en i)) ∧ OwnK wr w.heap.size 58 (.slice A' n c') n (flat pc b.ac) [.string { data := #[] }, .int .i64 77] ∧ Bk wr bR 25 #[.slice none 0 0, .slice none 0 0, .int .i64 0] ∧ Below w.heap.size w wr ∧ wc.heap.size ≤ wr.heap.size)) (fun i _ => m - (intOf i).toNat)
    case atStart => exact ⟨0, Nat.zero_le _, rfl, Lib.hid ⟨.slice none 0 0, [], HG.out, World.ownsRow_nil _ _ _ _, rfl, fun i hi => absurd hi (Nat.not_lt_zero _), HA.out, HRc.out, (HM0.out.trans' HMc.out).below, Nat.le_refl _⟩⟩
    case round =>
      obtain ⟨j, hj, rfl, HI⟩ := hrel
      obtain ⟨v, qs, bg, ho, hql, hent, hac, br, hX, hsz⟩ := HI.out
      obtain ⟨X', k', rfl, -, -, -⟩ := own_shape ho
      have hgc : g < wc.heap.size := HG.out.lt
      have b1 := bg.cell 1
      have bl := bg.lt
      simp at b1
      by_cases hlt : j < m
      · have hji : (j : Int) < (m : Int) := by omega
        have hj0 : (0 : Int) ≤ (j : Int) := by omega
        have hMr := Mor.of_below hX
        obtain ⟨x, B, p, q, hXx, hxb, hks, d0, d1, d2, hq⟩ := (HQ.out.es.mor hMr).at_ j (by rw [HN.out]; exact hlt)
        subst hXx
        have HCl := Lib.hid (fun w' (hm : Mor wr w') => show Calls Tryz.prog 6 #[.slice B p q, .agg #[.string { data := #[] }, .int .i64 78]] w' fun e w2 => ∃ A2 c2, e = .returned (.slice A2 p c2) ∧ OwnK w2 wr.heap.size 34 (.slice A2 p c2) p (flat pc (ne b.en j).ls) [.string { data := #[] }, .int .i64 78] ∧ Mor w' w2 from by
          have hle : p ≤ 5864062014700 := by rw [← hq.length]; exact hls _ (by rw [ne_eq _ _ (by rw [HN.out]; exact hlt)]; exact List.getElem_mem _)
          exact (roomy_ln B p q (flat pc (ne b.en j).ls) { data := #[] } 78 w' (fun W hW y hy j u hu => si_flat (by have := (hq.mor (hm.trans' hW)).si; rw [hy] at this; exact this) j u hu) (flat_one _) (by rw [flat_len pc 2 pc_len, hq.length]) hq.nil (by omega)).mono (by
            rintro e w2 ⟨g, rfl, hg, hm2, hb⟩
            exact ⟨_, _, rfl, OwnK.new (Nat.le_trans hm.below.size hg) (by rw [flat_len pc 2 pc_len, hq.length]) rfl (by omega) hb, hm2⟩))
        have HKs := Lib.hid hks
        have HQj := Lib.hid hq
        have HBg := Lib.hid bg
        have HO := Lib.hid ho
        have HE := Lib.hid hent
        have HAc := Lib.hid hac
        have HBr := Lib.hid br
        have HX := Lib.hid hX
        have HQL := Lib.hid hql
        have HSz := Lib.hid hsz
        clear hks hq bg ho hent hac br hX hMr hql hsz HI
        obtain ⟨gE, hgE⟩ : ∃ b, b = wr.heap.size := ⟨_, rfl⟩
        generalize hky : (ne b.en j).key = ky at *
        generalize hdy : (ne b.en j).day = dy at *
        have HEQ := Lib.hid (And.intro hky hdy)
        clear hky hdy
        go_wp2_with fail
        refine (HCl.out _ ((Mor.refl _).alloc)).mono ?_
        rintro e w1 ⟨A2, c2, rfl, hrow, hm1⟩
        have hEb := (Bk.new wr 28 #[.string ky, .int .i64 dy, .slice B p q]).mor hm1
        have hgb := (HBg.out.alloc (.cells #[.string ky, .int .i64 dy, .slice B p q] 28)).mor hm1
        have hM1 : Mor wr w1 := (Mor.refl _).alloc.trans' hm1
        have hgE2 : g ≠ gE := by have := HBg.out.lt; omega
        have hgE3 : gE ≠ g := fun e => hgE2 e.symm
        rw [← hgE] at hEb ⊢
        have f0 := hEb.cell 0
        have f1 := hEb.cell 1
        have f2 := hEb.cell 2
        have fz := hEb.frozen 2
        have fl := hEb.lt
        have g1 := hgb.cell 1
        have gl := hgb.lt
        simp at f0 f1 f2 g1
        have HRow := Lib.hid hrow
        have HM1 := Lib.hid hM1
        have HEb := Lib.hid hEb
        have HGb := Lib.hid hgb
        have HgE := Lib.hid hgE
        clear hrow hM1 hm1 hEb hgb hgE b1 bl d0 d1 d2 hxb HCl
        have HM3 := Lib.hid (show Mor wr ((w1.setCell ⟨gE, 2, none⟩ (.slice A2 p c2)).alloc (.cells #[.string ky, .int .i64 dy, .slice A2 p c2] 28)) from (Mor.of_below ((HM1.out.below).setCell (p := ⟨gE, 2, none⟩) (by show wr.heap.size ≤ gE; rw [HgE.out]; exact Nat.le_refl _) _)).alloc)
        go_wp2_with (at_builtin; refine wpList_append_own _ rfl _ _ 23 rfl wc.heap.size 28 i0 (.agg #[.string { data := #[] }, .int .i64 0, .slice none 0 0]) 3 48 Tryz.underlying23 hi hz0 hz1 hz2 rfl (by decide) _ _ _ rfl (own_mor HO.out HM3.out) ⟨w1.heap.size, 0, none⟩ 1 1 [.string ky, .int .i64 dy, .slice A2 p c2] rfl rfl ?_ ?_ ?_ ?_ ?_ ?_)
        case refine_6 =>
          intro v' w4 ho4 hg4 _
          obtain ⟨X4, k4, rfl, -, -, -⟩ := own_shape ho4
          have hO3 := own_mor HO.out HM3.out
          have hG4 := (HBg.out.mor HM3.out).grows hO3 hg4 (by omega)
          have hR4 := (HBr.out.mor HM3.out).grows hO3 hg4 (by have := HGR.out; omega)
          have hA4 := OwnK.grows (OwnK.mor HAc.out HM3.out) hO3 hg4 (by decide)
          have hX4 : Below w.heap.size w w4 := (HX.out.trans (Below.mono HM3.out.below HX.out.size)).grown hg4 (Nat.le_trans HX.out.size HM3.out.below.size) (fun b hb => by have := (own_blk hO3 hb).2.1; have := HbRw.out; have := HGR.out; omega)
          have hE4 : ∀ i, i < j → OwnEk w4 wc.heap.size (qe qs i) (ne b.en i) := fun i hi => by
            have h := (HE.out i hi).mor HM3.out
            exact ⟨h.key, h.day, OwnK.grows h.row hO3 hg4 (by decide), h.len, h.ks, h.str⟩
          have hN4 : OwnK w4 wc.heap.size 34 (.slice A2 p c2) p (flat pc (ne b.en j).ls) [.string { data := #[] }, .int .i64 78] := by
            refine OwnK.grows (OwnK.base (OwnK.mor (OwnK.setT HRow.out HEb.out (by decide)) (Mor.refl _).alloc) (show wc.heap.size ≤ wr.heap.size from HSz.out)) hO3 hg4 (by decide)
          have hSz4 : wc.heap.size ≤ w4.heap.size := Nat.le_trans HSz.out (Nat.le_trans HM3.out.below.size hg4.size)
          have g1 := hG4.cell 1
          have gz := hG4.frozen 1
          have gl := hG4.lt
          simp at g1
          have HG4 := Lib.hid hG4
          have HR4 := Lib.hid hR4
          have HA4 := Lib.hid hA4
          have HX4 := Lib.hid hX4
          have HE4 := Lib.hid hE4
          have HN4 := Lib.hid hN4
          have HO4 := Lib.hid ho4
          have HSz4 := Lib.hid hSz4
          clear hG4 hR4 hA4 hX4 hE4 hN4 ho4 hg4 hSz4 hO3 f0 f1 f2 fz fl
          go_wp2_with fail
          go_roundw
          case rel => exact ⟨j + 1, by omega, by go_num, Lib.hid ⟨.slice X4 (j + 1) k4, qs ++ [⟨ky, dy, A2, p, c2⟩], by simpa using HG4.out.set_ 1 (.slice X4 (j + 1) k4), own_setT (by rw [flat_snoc]; exact HO4.out) HG4.out (by decide), by rw [List.length_append, HQL.out]; rfl, fun i hi => by
              by_cases e : i < j
              · rw [qe_old _ _ _ (by rw [HQL.out]; exact e)]
                have h := HE4.out i e
                exact ⟨h.key, h.day, OwnK.setT h.row HG4.out (by decide), h.len, h.ks, h.str⟩
              · have e : i = j := by omega
                subst e
                have e2 := HQL.out
                subst e2
                rw [qe_last]
                exact ⟨HEQ.out.1.symm, HEQ.out.2.symm, OwnK.setT HN4.out HG4.out (by decide), HQj.out.length, by rw [HEQ.out.1]; exact HKs.out, HQj.out.str⟩,
            OwnK.setT HA4.out HG4.out (by decide), HR4.out.set_other _ _ _ (by have := HGR.out; omega), HX4.out.setCell (p := ⟨g, 1, none⟩) (show w.heap.size ≤ g by have := HbRw.out; have := HGR.out; omega) _, by simpa [World.setCell] using HSz4.out⟩⟩
          case measure => simp [intOf]; omega
        all_goals try (first | (exact rfl) | (intro u hu; simp at hu; rcases hu with rfl | rfl | rfl <;> rfl) | (unfold maxLen; omega) | omega | (exact Nat.le_trans HSz.out HM3.out.below.size) | (exact lit_at _ _ _ rfl (by simp [World.setCell])))
      · obtain rfl : j = m := by omega
        have c0 := bg.cell 0
        have c1 := bg.cell 1
        have c2 := bg.cell 2
        have r0 := br.cell 0
        have r1 := br.cell 1
        have r2 := br.cell 2
        have z0 := br.frozen 0
        have z1 := br.frozen 1
        have z2 := br.frozen 2
        have rl := br.lt
        simp at c0 c1 c2 r0 r1 r2
        have hne : g ≠ bR := by have := HGR.out; omega
        have hne' : bR ≠ g := fun e => hne e.symm
        have q0 := (br.set_ 0 (.slice A' n c')).cell 0
        have q1 := ((br.set_ 0 (.slice A' n c')).set_ 1 (.slice X' j k')).cell 1
        have q2 := (((br.set_ 0 (.slice A' n c')).set_ 1 (.slice X' j k')).set_ 2 (.int .i64 s)).cell 2
        simp at q0 q1 q2
        have HO := Lib.hid ho
        have HE := Lib.hid hent
        have HAc := Lib.hid hac
        have HBr := Lib.hid br
        have HX := Lib.hid hX
        have HQL := Lib.hid hql
        clear bg ho hent hac br hX hql hsz HI
        go_wp2_with fail
        (try simp only [Exit.inBlock, Exit.then])
        refine bodyPost_ret (by simp [results, Tryz.results5, go_sem, q0, q1, q2]; try rfl) rfl ?_
        refine ⟨.slice A' n c', .slice X' j k', qs, by rw [HSH.out], ⟨?_, HQ.out.ac.length, HQ.out.ac.str, ?_, HQL.out, HN.out, fun i hi => ?_⟩, ?_⟩
        · exact OwnK.setT (OwnK.setT (OwnK.setT HAc.out HBr.out (by decide)) (HBr.out.set_ _ _) (by decide)) ((HBr.out.set_ _ _).set_ _ _) (by decide)
        · exact own_base (own_setT (own_setT (own_setT HO.out HBr.out (by decide)) (HBr.out.set_ _ _) (by decide)) ((HBr.out.set_ _ _).set_ _ _) (by decide)) (HM0.out.trans' HMc.out).below.size
        · have h := HE.out i hi
          exact ⟨h.key, h.day, OwnK.base (OwnK.setT (OwnK.setT (OwnK.setT h.row HBr.out (by decide)) (HBr.out.set_ _ _) (by decide)) ((HBr.out.set_ _ _).set_ _ _) (by decide)) (HM0.out.trans' HMc.out).below.size, h.len, h.ks, h.str⟩
        · exact Mor.of_below (((HX.out.setCell (p := ⟨bR, 0, none⟩) HbRw.out _).setCell (p := ⟨bR, 1, none⟩) HbRw.out _).setCell (p := ⟨bR, 2, none⟩) HbRw.out _)

end Go.Proofs.YtohpibjjlfpaaaaGreatDoor
