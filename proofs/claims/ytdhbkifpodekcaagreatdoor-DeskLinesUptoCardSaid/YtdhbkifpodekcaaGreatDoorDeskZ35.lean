/- Texts of this claim. -/
import Derived.Test.YtdhbkifpodekcaaGreatDoorDeskZ8
import Derived.Test.YtdhbkifpodekcaaGreatDoorRows
import Derived.Maps.Own
import Derived.Maps.OwnSet
import Derived.Maps.Views
import Derived.StringKeys
namespace Go.Proofs.YtdhbkifpodekcaaGreatDoor
open Go.ChangeShapes Go.WideShapes Go.ChangeAt Go.RowKit
open Go.Maps (Keyed IsMap)
set_option linter.unusedVariables false
set_option maxRecDepth 100000
theorem law_str:Keyed Tryz.prog 9:=Maps.string_keyed Tryz.underlying9
theorem zero_bool (w:World):(zeroValue 4).run Tryz.prog w=.ok (.bool false) w:=by kernel_rfl
theorem plainElem_bool_inv {P:Program} {e:TypeId} (he:P.underlying e=some .bool) {v:Value} {z:DataW Unit × List MemPlace} (h:plainElem P e v=some z):∃ x,v=.bool x∧z=(.lit (.bool x),[]):=by
  unfold plainElem at h
  rw [he] at h
  cases v <;> simp at h
  exact ⟨_,rfl,h.symm⟩
def Bs (w:World) (b n:Nat) (f:ByteArray→Bool):Prop :=
  ∃ D:DataW Unit,w.ownsMap Tryz.prog 9 (plainElem Tryz.prog 4) b n D∧∀ k:ByteArray,D.atKey (.string k.data.toList) (.lit (.bool false))=.lit (.bool (f k))
theorem Bs.made (w:World):Bs (w.alloc (.map #[] 0)) w.heap.size 0 (fun _=>false) :=
  ⟨.map [],World.ownsMap_made _ _ _ _,fun k=>rfl⟩
theorem Bs.alloc {w:World} {b n:Nat} {f:ByteArray→Bool} (h:Bs w b n f) (o:Obj):Bs (w.alloc o) b n f:=by
  obtain ⟨D,h1,h2⟩:=h
  exact ⟨D,h1.alloc o,h2⟩
theorem Bs.lt {w:World} {b n:Nat} {f:ByteArray→Bool} (h:Bs w b n f):b < w.heap.size:=by
  obtain ⟨D,h1,h2⟩:=h
  exact h1.lt
theorem Bs.look {w:World} {b n:Nat} {f:ByteArray→Bool} (h:Bs w b n f) (k:ByteArray) (hk:k.size≤maxLen):(Instr.lookup 187 (.map (some b)) (.string k) false).run Tryz.prog w=.ok (.bool (f k)) w:=by
  obtain ⟨D,h1,h2⟩:=h
  obtain ⟨v,ps,hrun,hv⟩:=h1.lookup law_str Tryz.underlying187 (zero_bool w) (plainElem_bool Tryz.underlying4 false) (WideMaps.keyOf_string_mk Tryz.underlying9 hk)
  obtain ⟨x,rfl,e⟩:=plainElem_bool_inv Tryz.underlying4 hv
  rw [h2 k] at e
  simp only [Prod.mk.injEq,DataW.lit.injEq,Lit.bool.injEq] at e
  rw [hrun,e.1]
theorem wpList_put_bs (w:World) {ops:Array Oper} {rest:List Oper} {o:Oper} {a:Act} {Q:Exit→Act→World→Prop} (hg:o.guard=none) (m x v:Operand) (hop:o.op=Op.mapUpdate 187 m x v) (b n:Nat) (f:ByteArray→Bool)
    (hm:a.eval m=.map (some b)) (hb:Bs w b n f) (hn:n < maxLen) (k:ByteArray) (u:Bool) (hx:a.eval x=.string k) (hv:a.eval v=.bool u) (hk:k.size≤maxLen)
    (hK:∀ w',Bs w' b (n+1) (fun x=>if x=k then u else f x)→w.grownBy w' (some b)→wpList Tryz.prog ops Q rest (a.put o.dst undef) w'):wpList Tryz.prog ops Q (o :: rest) a w:=by
  obtain ⟨D,h1,h2⟩:=hb
  refine wpList_mapUpdate_own w hg m x v 187 hop 9 4 law_str Tryz.underlying187 _ b n D hm h1 hn _ _ _ hx hv (WideMaps.keyOf_string_mk Tryz.underlying9 hk) _ [] (plainElem_bool Tryz.underlying4 u) fun w' h3 h4=>hK w' ⟨_,h3,fun x=>?_⟩ h4
  show _=DataW.lit (Lit.bool (if x=k then u else f x))
  by_cases e:x=k
  · subst e
    rw [Maps.atKey_put_same h1.isMap (by trivial),if_pos rfl]
  · rw [Maps.atKey_put_other (by intro h;injection h with h;exact e (Go.WideShapes.bytes_inj h)),if_neg e,h2]
end Go.Proofs.YtdhbkifpodekcaaGreatDoor
