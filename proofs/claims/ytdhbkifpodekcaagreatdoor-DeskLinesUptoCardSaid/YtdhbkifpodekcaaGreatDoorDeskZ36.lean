/- Texts of this claim. -/
import Derived.Test.YtdhbkifpodekcaaGreatDoorDeskZ7
import Derived.Test.YtdhbkifpodekcaaGreatDoorDeskZ35
namespace Go.Proofs.YtdhbkifpodekcaaGreatDoor
open Go.ChangeShapes Go.WideShapes Go.ChangeAt Go.RowKit Go.PlainAid
set_option linter.unusedVariables false
set_option maxRecDepth 100000
set_option maxHeartbeats 400000 in
theorem clo_kn (g:Nat) (A:Option Addr) (n c:Nat) (ac:List Ln) (s:ByteArray) (a:Int) (w:World) (hc:w.cell? ⟨g,0,none⟩=some (.slice A n c)) (hg:g < w.heap.size) (hr:Si w A ac) (hn:ac.length=n) (hl:n≤1000) :
    Calls Tryz.prog 167 #[.agg #[.string s,.int .i64 a],.pointer (some ⟨g,0,none⟩)] w fun e w'=>e=.returned (.bool (decide (findA ac s < 0)))∧Mor w w':=by
  have HF:=Lib.hid (fun w (h:Si w A ac)=>find_ac A n c ac s w h hn hl)
  have HR:=Lib.hid hr
  clear hr hn
  generalize findA ac s=r at *
  go_enter Tryz.func167,Tryz.ntmps167
  go_wp2_with fail
  refine (HF.out _ (HR.out.mor (Mor.refl _).alloc)).mono ?_
  rintro e w1 ⟨rfl,hm⟩
  have HM:=Lib.hid ((Mor.refl w).alloc.trans' hm)
  clear hm
  by_cases h:r < 0
  · go_wp2_with fail
    go_ret
    exact ⟨by simp [h],HM.out⟩
  · go_wp2_with fail
    go_ret
    exact ⟨by simp,HM.out⟩
theorem known_eq (ac:List Ln) (x:En) (n:Nat) (h:x.ls.length=n):(!(List.range n).any fun i=>decide (findA ac (cd x.ls i) < 0))=knownB ac x:=by
  unfold knownB
  cases hk:x.ls.all fun l=>hasB ac l.1
  · rw [List.all_eq_false] at hk
    obtain ⟨l,hl,hb⟩:=hk
    obtain ⟨i,hi,rfl⟩:=List.mem_iff_getElem.1 hl
    have:((List.range n).any fun i=>decide (findA ac (cd x.ls i) < 0))=true:=by
      rw [List.any_eq_true]
      refine ⟨i,List.mem_range.2 (by omega),?_⟩
      rw [(cd_at x.ls i hi).1,decide_eq_true_iff,findA_neg]
      simpa using hb
    rw [this];rfl
  · rw [List.all_eq_true] at hk
    have:((List.range n).any fun i=>decide (findA ac (cd x.ls i) < 0))=false:=by
      rw [List.any_eq_false]
      intro i hi
      have hi:=List.mem_range.1 hi
      rw [(cd_at x.ls i (by omega)).1,decide_eq_true_iff,findA_neg,hk _ (List.getElem_mem _)]
      simp
    rw [this];rfl
theorem says_kn (W:World) (A:Option Addr) (n c:Nat) (X:Option Addr) (m k:Nat) (sh:Int) (ac xs:List Ln) (hr:Si W A ac) (hn:ac.length=n) (hl:n≤1000) (W2:World) (hW:Mor (W.alloc (.cells #[.slice A n c,.slice X m k,.int .i64 sh] 37)) W2) :
    SaysL W2 167 #[.pointer (some ⟨W.heap.size,0,none⟩)] xs (fun j=>decide (findA ac (cd xs j) < 0)):=by
  intro i w1 hi hm
  have hB:=(Bk.new W 37 #[.slice A n c,.slice X m k,.int .i64 sh]).mor (hW.trans' hm)
  exact clo_kn W.heap.size A n c ac (cd xs i) (am xs i) w1 (by rw [hB.cell];rfl) hB.lt (hr.mor (((Mor.refl _).alloc.trans' hW).trans' hm)) hn hl
set_option maxHeartbeats 400000 in
theorem known_any (A:Option Addr) (n c:Nat) (X:Option Addr) (m k:Nat) (sh:Int) (B:Option Addr) (p q:Nat) (ac:List Ln) (x:En) (w:World) (hr:Si w A ac) (hn:ac.length=n) (hl:n≤1000) (hs:Si w B x.ls) (hp:x.ls.length=p) (hpl:p≤1000) :
    Calls Tryz.prog 122 #[bv A n c X m k sh,.agg #[.string x.key,.int .i64 x.day,.slice B p q]] w fun e w'=>e=.returned (.bool (knownB ac x))∧Mor w w':=by
  have HC:=Lib.hid (fun W2 (hW:Mor (w.alloc (.cells #[.slice A n c,.slice X m k,.int .i64 sh] 37)) W2)=>contains_ln 167 #[.pointer (some ⟨w.heap.size,0,none⟩)] B p q x.ls (fun j=>decide (findA ac (cd x.ls j) < 0)) W2 (fun _ _=>rfl) (hs.mor ((Mor.refl _).alloc.trans' hW)) (by omega) hpl (says_kn w A n c X m k sh ac x.ls hr hn hl W2 hW))
  have HE:=Lib.hid (known_eq ac x p hp)
  clear hr hn hs hp
  generalize ((List.range p).any fun j=>decide (findA ac (cd x.ls j) < 0))=r at *
  go_enter Tryz.func122,Tryz.ntmps122
  go_wp2_with fail
  refine (HC.out _ (Mor.refl _).alloc).mono ?_
  rintro e w1 ⟨rfl,hm⟩
  have HM:=Lib.hid (((Mor.refl w).alloc.alloc).trans' hm)
  clear hm
  go_wp2_with fail
  go_ret
  exact ⟨by rw [← HE.out] <;> rfl,HM.out⟩
theorem Bs.mor {w w':World} {b n:Nat} {f:ByteArray→Bool} (h:Bs w b n f) (hm:Mor w w'):Bs w' b n f:=by
  obtain ⟨D,h1,h2⟩:=h
  have hB:=hm.below
  exact ⟨D,h1.kept (row:=none) ⟨hB.os,hB.tape,hB.output,hB.size,fun k hk _=>hB.block k hk⟩ (by simp),h2⟩
end Go.Proofs.YtdhbkifpodekcaaGreatDoor
