/- Texts of this claim. -/
import Derived.Test.YtdhbkifpodekcaaGreatDoorDeskZ11
import Derived.Test.YtdhbkifpodekcaaGreatDoorDeskZ12
namespace Go.Proofs.YtdhbkifpodekcaaGreatDoor
open Go Go.ChangeShapes Go.WideShapes Go.ChangeAt Go.RowKit Go.PlainAid
set_option linter.unusedVariables false
set_option maxRecDepth 100000
theorem atoi_any (s:ByteArray) (w:World) (hs:s.size≤281474976710656) (ht:Tb w) :
    Calls Tryz.prog 111 #[.string s] w fun e w'=>∃ er,e=.returned (.tuple #[.int .i64 (atoiV (ub s)),er])∧Mor w w' ∧
      ((∃ v,Lib.atoiAll (ub s)=.ok v∧er=.nilIface)∨((∀ v,Lib.atoiAll (ub s)≠.ok v)∧∃ N,er=.iface 219 (.pointer (some ⟨N,0,none⟩)))):=by
  cases h:Lib.atoiAll (ub s) with
  | ok v =>
    refine (Sh.strconv_Atoi_ok s (by omega) v h w).mono ?_
    rintro e w' ⟨rfl,hw⟩
    refine ⟨_,by unfold atoiV;rw [h],?_,.inl ⟨v,rfl,rfl⟩⟩
    rcases hw with rfl | ⟨t,rfl⟩
    · exact Mor.refl _
    · exact Mor.of_below (Lib.bytesWorld_below ..)
  | range =>
    obtain ⟨tp,p,hv⟩:=ht.rng
    refine (Sh.strconv_Atoi_range_var s hs h tp p w hv).mono ?_
    rintro e w' ⟨N,rfl,_,_,hb⟩
    exact ⟨_,by unfold atoiV;rw [h],Mor.of_below hb,.inr ⟨fun v=>by simp,N,rfl⟩⟩
  | _ =>
    obtain ⟨tp,p,hv⟩:=ht.syn
    refine (Sh.strconv_Atoi_syntax_var s hs (h.trans (by rfl)) tp p w hv).mono ?_
    rintro e w' ⟨N,rfl,_,_,hb⟩
    exact ⟨_,by unfold atoiV;rw [h],Mor.of_below hb,.inr ⟨fun v=>by simp,N,rfl⟩⟩
theorem cut_len (l:List UInt8):(Lib.cut l [58]).1.length≤l.length∧(Lib.cut l [58]).2.1.length≤l.length:=by
  unfold Lib.cut
  split
  · simp only [List.length_take,List.length_drop];omega
  · simp
def wd (ws:List ByteArray) (j:Nat):ByteArray:=ws.getD j ByteArray.empty
theorem Mor.setC' {w w':World} {g i:Nat} {u:Value} (h:Mor w w') (hg:w.heap.size≤g):Mor w (w'.setCell ⟨g,i,none⟩ u):=Mor.of_below (h.below.setCell hg u)
end Go.Proofs.YtdhbkifpodekcaaGreatDoor
