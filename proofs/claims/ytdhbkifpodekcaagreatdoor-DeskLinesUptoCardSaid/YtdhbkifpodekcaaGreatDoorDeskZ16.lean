/- Texts of this claim. -/
import Derived.Test.YtdhbkifpodekcaaGreatDoorDeskZ7
import Derived.Test.YtdhbkifpodekcaaGreatDoorDeskZ14
import Derived.Laws.AppendOwn
import Derived.WalkSpells
namespace Go.Proofs.YtdhbkifpodekcaaGreatDoor
open Go.ChangeShapes Go.WideShapes Go.ChangeAt Go.RowKit Go.PlainAid
set_option linter.unusedVariables false
set_option maxRecDepth 100000
def Rs (w:World) (A:Option Addr) (xs:List ByteArray):Prop:=Rd w A (xs.map Value.string)
theorem info_str:(Tryz.prog.info? 9).map (fun i=>(i.zero,i.size,i.bytes))=some (some (.string { data:=#[] }),1,16):=by kernel_rfl
end Go.Proofs.YtdhbkifpodekcaaGreatDoor
namespace Go.Proofs.YtdhbkifpodekcaaGreatDoor
open Go.ChangeShapes Go.WideShapes Go.ChangeAt Go.RowKit
set_option linter.unusedVariables false
set_option maxRecDepth 100000
theorem rd_atS {w:World} {x:Addr} {cs:List Value} (h:Rd w (some x) cs) (j:Nat) (u:Value) (hu:cs[j]?=some u):w.cell? (x.add j)=some u:=by
  have hj:j < cs.length:=(List.getElem?_eq_some_iff.1 hu).1
  rcases h with rfl | ⟨b,o,e,hb,hc⟩
  · simp at hj
  · injection e with e
    subst e
    rw [adds,hc j hj,List.getD_eq_getElem?_getD,hu];rfl
theorem rd_str {w:World} {A:Option Addr} {xs:List ByteArray} (h:Rd w A (xs.map Value.string)) (k:Nat) (hk:k < xs.length):∃ b o,A=some ⟨b,o,none⟩∧b < w.heap.size∧w.cell? ⟨b,o+k,none⟩=some (.string (xs.getD k ByteArray.empty)):=by
  rcases h with h | ⟨b,o,e,hb,hc⟩
  · simp at h;subst h;simp at hk
  · refine ⟨b,o,e,hb,?_⟩
    rw [hc k (by simpa using hk)]
    simp [List.getD_eq_getElem?_getD,List.getElem?_eq_getElem hk]
@[go_sem] theorem eql_nil_st (w : World) (a : Option Addr) (n c : Nat) : (binOp .eql 26 (.slice a n c) (.slice none 0 0)).run Tryz.prog w = .ok (.bool a.isNone) w :=
  Lib.run_eql_slice_nil w _ 9 a n c 0 0 Tryz.underlying26
end Go.Proofs.YtdhbkifpodekcaaGreatDoor
