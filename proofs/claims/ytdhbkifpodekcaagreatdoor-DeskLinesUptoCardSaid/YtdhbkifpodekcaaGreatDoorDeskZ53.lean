/- Texts of this claim. -/
import Derived.Test.YtdhbkifpodekcaaGreatDoorDeskZ11
import Derived.Test.YtdhbkifpodekcaaGreatDoorDeskZ24
import Derived.Test.YtdhbkifpodekcaaGreatDoorCards
import Derived.Deep.DeepLaidRun
import Derived.LaidLaws
import Derived.RowKit3
import Derived.Shelf.Vars
import Derived.Stop.LaidErr
import GoSem.PinnedTables
namespace Go.Proofs.YtdhbkifpodekcaaGreatDoor.Lgc
open Go Go.ChangeShapes Go.WideShapes Go.ChangeAt Go.RowKit Go.Shelf
set_option linter.unusedVariables false
set_option maxRecDepth 100000
/-- the list that every card of the log's laws has -/
def lgLaid : List (String × DataW Unit) := [("math/bits.deBruijn32tab", Rows.laid_math_bits_deBruijn32tab), ("math/bits.deBruijn64tab", Rows.laid_math_bits_deBruijn64tab), ("internal/strconv.uint64pow10", Rows.laid_internal_strconv_uint64pow10), ("tallage/cal.lengths", Rows.laid_tallage_cal_lengths), ("unicode/utf8.acceptRanges", Rows.laid_unicode_utf8_acceptRanges), ("strconv.ErrRange", Rows.laid_strconv_ErrRange), ("strconv.ErrSyntax", Rows.laid_strconv_ErrSyntax), ("unicode/utf8.first", Rows.laid_unicode_utf8_first)]
theorem gP : Tryz.prog.globalNamed "internal/strconv.uint64pow10" = some 4 := by kernel_rfl
theorem gPT:(Tryz.prog.globals[4]?).map (·.type)=some 211:=by kernel_rfl
theorem cP:Tryz.prog.cellsOf 211=20:=by kernel_rfl
theorem cU:Tryz.prog.cellsOf 55=1:=by kernel_rfl
theorem gES : Tryz.prog.globalNamed "strconv.ErrSyntax" = some 5 := by kernel_rfl
theorem gEST:(Tryz.prog.globals[5]?).map (·.type)=some 46:=by kernel_rfl
theorem gER : Tryz.prog.globalNamed "strconv.ErrRange" = some 6 := by kernel_rfl
theorem gERT:(Tryz.prog.globals[6]?).map (·.type)=some 46:=by kernel_rfl
theorem cE:Tryz.prog.cellsOf 239=1:=by kernel_rfl
theorem cS:Tryz.prog.cellsOf 9=1:=by kernel_rfl
theorem star : "*" ++ "errors.errorString" = "*errors.errorString" := by decide
theorem rowE (u : TypeId) (h : Tryz.prog.typeName? 3 u = some "*errors.errorString") : u = 237 :=
  typeName_ptr_named (nm := "errors.errorString") (by rw [star]; kernel_rfl) (by kernel_rfl) (by decide) u (by rw [star]; exact h)
theorem len_of {W:World} (hS:W.ShapedOpen Tryz.prog):∃ m:Int,W.cell? ⟨0,0,none⟩=some (.int .i64 m) :=
  cell_of_shapedOpen_int (g:=0) (t:=3) (zero:=#[.int .i64 0]) hS (of_decide_eq_true (by kernel_rfl)) (by kernel_rfl) rfl (by kernel_rfl) (by kernel_rfl) Tryz.underlying3
theorem tb {W:World} (h:laidMetH Tryz.prog lgLaid W) (hS:W.ShapedOpen Tryz.prog):Tb W:=by
  have hL:laidMet Tryz.prog lgLaid W:=h
  refine ⟨?_,len_of hS,?_,?_⟩
  · exact Lib.tabIs_of_head gP gPT Tryz.underlying211 Tryz.underlying55 cU cP hL.tail.tail
  · obtain ⟨a,s,hv,_⟩:=laid_sentinel hL.tail.tail.tail.tail.tail.tail gES gEST Tryz.underlying46 rowE Tryz.underlying237 Tryz.underlying239 rfl rfl Tryz.underlying9 cE cS
    exact ⟨_,_,hv⟩
  · obtain ⟨a,s,hv,_⟩:=laid_sentinel hL.tail.tail.tail.tail.tail gER gERT Tryz.underlying46 rowE Tryz.underlying237 Tryz.underlying239 rfl rfl Tryz.underlying9 cE cS
    exact ⟨_,_,hv⟩
theorem gTab : Tryz.prog.globalNamed "tallage/cal.lengths" = some 1 := by kernel_rfl
theorem gTabType:(Tryz.prog.globals[1]?).map (·.type)=some 183:=by kernel_rfl
theorem cellsT:Tryz.prog.cellsOf 183=13:=by kernel_rfl
theorem cellsI:Tryz.prog.cellsOf 3=1:=by kernel_rfl
theorem tab {W : World} (h : laidMetH Tryz.prog lgLaid W) : Tab W :=
  have hL : laidMet Tryz.prog lgLaid W := h
  have hT : Lib.TabIs Tryz.prog W "tallage/cal.lengths" .i64 mtab := Lib.tabIs_of_head gTab gTabType Tryz.underlying183 Tryz.underlying3 cellsI cellsT hL.tail.tail.tail
  have hc := fun (i : Nat) (hi : i < 13) => hT.cell gTab i hi
  ⟨World.block_lt_of_cell? _ _ (hc 0 (by decide)), hc⟩
abbrev synS:ByteArray:={ data:=#[105,110,118,97,108,105,100,32,115,121,110,116,97,120] }
abbrev rngS:ByteArray:={ data:=#[118,97,108,117,101,32,111,117,116,32,111,102,32,114,97,110,103,101] }
noncomputable def low:Nat:=(World.holding Tryz.prog default ⟨#[],#[],[]⟩).heap.size
def put (h:Array Obj) (g:Nat) (cs:Array Value):Array Obj:=h.modify g fun
  | .cells _ t frozen=>.cells cs t frozen
  | o=>o
noncomputable def laidWorld (os:Os):World :=
  let w0:=World.holding Tryz.prog os ⟨#[.cells #[.string synS] 239,.cells #[.string rngS] 239],#[],[]⟩
  let h1:=put w0.heap 5 #[.iface 237 (.pointer (some ⟨low,0,none⟩))]
  let h2:=put h1 6 #[.iface 237 (.pointer (some ⟨low+1,0,none⟩))]
  let h3:=put h2 4 (([1,10,100,1000,10000,100000,1000000,10000000,100000000,1000000000,10000000000,100000000000,1000000000000,10000000000000,100000000000000,1000000000000000,10000000000000000,100000000000000000,1000000000000000000,10000000000000000000]:List Int).map fun z=>Value.int .u64 z).toArray
  let h4:=put h3 7 (([0,1,28,2,29,14,24,3,30,22,20,15,25,17,4,8,31,27,13,23,21,19,16,7,26,12,18,6,11,5,10,9]:List Int).map fun z=>Value.int .u8 z).toArray
  let h5:=put h4 8 (([0,1,56,2,57,49,28,3,61,58,42,50,38,29,17,4,62,47,59,36,45,43,51,22,53,39,33,30,24,18,12,5,63,55,48,27,60,41,37,16,46,35,44,21,52,32,23,11,54,26,40,15,34,20,31,10,25,14,19,9,13,8,7,6]:List Int).map fun z=>Value.int .u8 z).toArray
  let h6:=put h5 2 ((List.replicate 128 240++List.replicate 66 241++List.replicate 30 2++[19]++List.replicate 12 3++[35,3,3,52,4,4,4,68]++List.replicate 11 241:List Int).map fun z=>Value.int .u8 z).toArray
  let h7:=put h6 3 (([128,191,160,191,128,159,144,191,128,143,0,0,0,0,0,0,0,0,0,0,0,0,0,0,0,0,0,0,0,0,0,0]:List Int).map fun z=>Value.int .u8 z).toArray
  let h8:=put h7 1 (([0,31,28,31,30,31,30,31,31,30,31,30,31]:List Int).map fun z=>Value.int .i64 z).toArray
  { w0 with heap:=h8 }
theorem laid_met (os:Os) (args:Array Value):laidMet Tryz.prog lgLaid ((laidWorld os).forCall (fun _ _=>0) ⟨#[],args,[]⟩).memory :=
  laidMet_of_run3 8 (by kernel_rfl) (by kernel_rfl) (by kernel_rfl)
theorem laid_metH (os:Os) (args:Array Value):laidMetH Tryz.prog lgLaid ((laidWorld os).forCall (fun _ _=>0) ⟨#[],args,[]⟩).memory:=laid_met os args
end Go.Proofs.YtdhbkifpodekcaaGreatDoor.Lgc
