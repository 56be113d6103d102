/- Texts of this claim. -/
import Derived.Test.YtdhbkifpodekcaaGreatDoorDeskZ5
import Derived.Test.YtdhbkifpodekcaaGreatDoorDeskZ6
import Derived.Test.YtdhbkifpodekcaaGreatDoorDeskZ10
import Derived.Deep.DeepCutAuto
import Derived.Deep.RegionHeld3
import Derived.Deep.RegionWith
namespace Go.Proofs.YtdhbkifpodekcaaGreatDoor
open Go Go.ChangeShapes Go.WideShapes Go.ChangeAt Go.RowKit Go.PlainAid
set_option linter.unusedVariables false
set_option maxRecDepth 100000
/-- the variables of the library's that are read -/
structure Tb (w : World) : Prop where
  tab : Lib.TabIs Tryz.prog w "internal/strconv.uint64pow10" .u64 Lib.pow10Tab
  len : ∃ m : Int, w.cell? ⟨0, 0, none⟩ = some (.int .i64 m)
  syn : ∃ tp p, w.var? Tryz.prog "strconv.ErrSyntax" = some #[.iface tp p]
  rng : ∃ tp p, w.var? Tryz.prog "strconv.ErrRange" = some #[.iface tp p]
theorem var_mor {P:Program} {w w':World} {name:String} {v:Array Value} (h:w.var? P name=some v) (hm:Mor w w'):w'.var? P name=some v:=by
  unfold World.var? at h ⊢
  rw [Option.bind_eq_some_iff] at h ⊢
  obtain ⟨g,hg,h⟩:=h
  refine ⟨g,hg,?_⟩
  cases hb:w.heap[g]? with
  | none=>rw [hb] at h;cases h
  | some o =>
    rw [hb] at h
    rw [(hm.below.block g (Array.getElem?_eq_some_iff.1 hb).1).trans hb]
    exact h
theorem Tb.mor {w w':World} (h:Tb w) (hm:Mor w w'):Tb w':=by
  obtain ⟨h1,⟨m,h2⟩,⟨a,b,h3⟩,c,d,h4⟩:=h
  exact ⟨var_mor h1 hm,⟨m,(hm.below.cell (World.block_lt_of_cell? _ _ h2)).trans h2⟩,⟨a,b,var_mor h3 hm⟩,c,d,var_mor h4 hm⟩
theorem itoa_any (n:Int) (w:World) (h0:-9223372036854775808≤n) (h1:n≤9223372036854775807) (ht:Tb w) :
    Calls Tryz.prog 22 #[.int .i64 n] w fun e w'=>e=.returned (.string ⟨(Lib.itoa n).toArray⟩)∧Mor w w':=by
  refine (Sh.strconv_Itoa n h0 h1 w ht.tab).mono ?_
  rintro e w' ⟨rfl,k,os,rfl⟩
  exact ⟨rfl,⟨os.toList,(w.drewN k).drawn,by simp [Go.Proofs.YtdhbkifpodekcaaGreatDoor.more,Go.Sort.grow,World.drewN]⟩⟩
theorem ub_app (a b:ByteArray):ub (a++b)=ub a++ub b:=by simp [ub]
theorem ub_mk (l:List UInt8):ub ⟨l.toArray⟩=l:=by simp [ub]
theorem sz_mk (l:List UInt8):(⟨l.toArray⟩:ByteArray).size=l.length:=by rw [← ub_len,ub_mk]
theorem keyB_size {s:ByteArray} (h:keyB s=true):s.size≤12:=by
  unfold keyB at h
  simp only [Bool.and_eq_true,decide_eq_true_eq] at h
  exact h.1.2
theorem BuilderAtF.mor {T e:TypeId} {B b:Nat} {p:Value} {bs:List Value} {w w':World} (h:Lib.BuilderAtF T e B b p bs w) (hm:Mor w w'):Lib.BuilderAtF T e B b p bs w':=by
  obtain ⟨h1,v,h2,h3,h4⟩:=h
  exact ⟨h1,v,(hm.below.block b (Array.getElem?_eq_some_iff.1 h2).1).trans h2,h3.kept (grown_mor hm none) (by cases hv:v.ownBlock with | none=>exact .inl rfl | some k=>exact .inr (by simp)),h4⟩
theorem IsBuilderF.mor {T e:TypeId} {B b:Nat} {bs:List Value} {w w':World} (h:Lib.IsBuilderF T e B b bs w) (hm:Mor w w'):Lib.IsBuilderF T e B b bs w':=by
  rcases h with h | h
  · exact .inl (BuilderAtF.mor h hm)
  · exact .inr (BuilderAtF.mor h hm)
end Go.Proofs.YtdhbkifpodekcaaGreatDoor
