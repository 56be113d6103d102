/- Texts of this claim. -/
import Derived.Test.YtdhbkifpodekcaaGreatDoorDeskZ1
import Derived.Test.YtdhbkifpodekcaaGreatDoorRows
import Derived.Laws.StandIn
import Derived.Lib.Bytealg
namespace Go.Proofs.YtdhbkifpodekcaaGreatDoor
open Go.ChangeShapes Go.WideShapes Go.ChangeAt Go.RowKit
set_option linter.unusedVariables false
set_option maxRecDepth 100000
def dashB (s:ByteArray):Bool:=decide (0≤Lib.indexByte s.data.toList 45)
abbrev dash:ByteArray:={ data:=#[45] }
set_option maxHeartbeats 800000 in
theorem indexb_any (s:ByteArray) (w:World):Calls Tryz.prog 144 #[.string s,.int .u8 45] w fun e w'=>e=.returned (.int .i64 (Lib.indexByte s.data.toList 45))∧w=w':=by
  have hcf:=fun args w=>run_callFunc_indexByte (P:=Tryz.prog) (f:=177) Tryz.func177 rfl rfl rfl rfl args w
  have hib:=fun w=>Lib.run_indexByteString (P:=Tryz.prog) s 45 w
  rw [show (45:Int).toNat.toUInt8=45 from rfl] at hib
  go_enter Tryz.func144,Tryz.ntmps144
  go_wp2
  go_ret
  exact ⟨rfl,rfl⟩
set_option maxHeartbeats 800000 in
theorem index_dash (s:ByteArray) (w:World) (hs:s.size≤maxLen):Calls Tryz.prog 85 #[.string s,.string dash] w fun e w'=>(∃ r:Int,e=.returned (.int .i64 r)∧decide (0≤r)=dashB s)∧w=w':=by
  have HI:=Lib.hid (fun w=>indexb_any s w)
  have HD:=Lib.hid (show decide (0≤Lib.indexByte s.data.toList 45)=dashB s from rfl)
  have HE:=Lib.hid (fun h:([45] == s.toList)=true=>show true=dashB s by
    have:s.data.toList=[45]:=by rw [← ByteArray.toList_eq];exact (eq_of_beq h).symm
    unfold dashB;rw [this];rfl)
  generalize Lib.indexByte s.data.toList 45=r at *
  generalize dashB s=b at *
  cases hcb:([45] == s.toList)
  · clear HE
    go_enter Tryz.func85,Tryz.ntmps85
    go_wp2_with ((go_at_call 144;(refine (HI.out _).mono ?_);rintro e w5 ⟨rfl,rfl⟩))
    go_ret
    exact ⟨⟨r,rfl,HD.out⟩,rfl⟩
  · have HF:=Lib.hid (HE.out hcb)
    clear HE
    go_enter Tryz.func85,Tryz.ntmps85
    go_wp2_with fail
    go_ret
    exact ⟨⟨0,rfl,HF.out⟩,rfl⟩
set_option maxHeartbeats 400000 in
theorem contains_dash (s:ByteArray) (w:World) (hs:s.size≤maxLen):Calls Tryz.prog 171 #[.string s,.string dash] w fun e w'=>e=.returned (.bool (dashB s))∧w=w':=by
  have HI:=Lib.hid (fun w=>index_dash s w hs)
  have HJ:=Lib.hid (fun w=>show Calls Tryz.prog 31 #[.string s,.string dash] w fun e w'=>(∃ r:Int,e=.returned (.int .i64 r)∧decide (0≤r)=dashB s)∧w=w' by
    go_enter Tryz.func31,Tryz.ntmps31
    go_wp2_with ((go_at_call 85;(with_reducible refine (HI.out _).mono ?_);rintro e w5 ⟨⟨r,rfl,hr⟩,rfl⟩))
    go_ret
    exact ⟨⟨r,rfl,hr⟩,rfl⟩)
  generalize dashB s=b at *
  go_enter Tryz.func171,Tryz.ntmps171
  go_wp2_with ((go_at_call 31;(with_reducible refine (HJ.out _).mono ?_);rintro e w5 ⟨⟨r,rfl,hr⟩,rfl⟩;have HR:=Lib.hid hr;clear hr))
  go_ret
  exact ⟨by rw [← HR.out];rfl,rfl⟩
end Go.Proofs.YtdhbkifpodekcaaGreatDoor
