/- Texts of this claim. -/
import Derived.Test.YtdhbkifpodekcaaGreatDoorDeskZ1
import Derived.Test.YtdhbkifpodekcaaGreatDoorRows
namespace Go.Proofs.YtdhbkifpodekcaaGreatDoor
open Go.ChangeShapes Go.WideShapes Go.ChangeAt Go.RowKit Go.PlainAid
set_option linter.unusedVariables false
set_option maxRecDepth 100000
theorem str_empty {s:ByteArray} (h:s.size=0):s={ data:=#[] }:=by
  cases s with
  | mk d=>congr 1;exact Array.eq_empty_of_size_eq_zero h
theorem str_ne {s:ByteArray} (h:1≤s.size):s.toList.isEmpty=false:=by
  rw [ByteArray.toList_eq]
  cases hl:s.data.toList with
  | nil =>
    have e:s.size=0:=by rw [← ByteArray.size_data,← Array.length_toList,hl];rfl
    omega
  | cons _ _=>rfl
theorem str_ne2 {s:ByteArray} (h:1≤s.size):¬ s.toList=[]:=fun e=>by
  have:=str_ne h;rw [e] at this;cases this
theorem str_eq (a b:ByteArray):(a.toList == b.toList)=decide (a=b):=by
  rw [ByteArray.toList_eq,ByteArray.toList_eq]
  by_cases h:a=b
  · subst h;simp
  · rw [decide_eq_false h];exact beq_eq_false_iff_ne.2 (fun e=>h (bytes_inj e))
set_option maxHeartbeats 1600000 in
theorem code_any (s:ByteArray) (w:World) (hs:s.size≤maxLen) :
    Calls Tryz.prog 160 #[.string s] w fun e w'=>e=.returned (.bool (codeB s))∧w=w':=by
  unfold maxLen at hs
  have hb:=get_bt s
  by_cases h0:s.size=0
  · have e:=str_empty h0
    subst e
    go_enter Tryz.func160,Tryz.ntmps160
    go_wp2
    go_ret
    exact ⟨rfl,rfl⟩
  · have h1:1≤s.size:=by omega
    have hne:=str_ne h1
    have hne2:=str_ne2 h1
    by_cases h8:s.size≤8
    · have HC:=Lib.hid (show codeB s=allB digB s s.size by unfold codeB;simp [h1,h8])
      obtain ⟨n,hn⟩:∃ n,n=s.size:=⟨_,rfl⟩
      subst hn
      go_enter Tryz.func160,Tryz.ntmps160
      go_wp2
      go_loop [13] (fun i=>∃ k:Nat,k≤s.size∧i=.int .i64 k∧Hid (allB digB s k=true)) (fun i=>s.size - (intOf i).toNat)
      case atStart=>exact ⟨0,Nat.zero_le _,rfl,Lib.hid rfl⟩
      case round =>
        obtain ⟨k,hk,rfl,HA⟩:=hrel
        by_cases hlt:k < s.size
        · have hki:(k:Int) < (s.size:Int):=by omega
          have hk0:(0:Int)≤(k:Int):=by omega
          have b1:=bt_nonneg s k
          have b2:=bt_le s k
          have hks:k < s.size:=by omega
          have HS:=Lib.hid (allB_succ digB s k)
          have HBad:=Lib.hid (fun h:digB (bt s k)=false=>allB_bad (n:=s.size) h hlt)
          by_cases c1:bt s k < 48
          · have HF:=Lib.hid (HBad.out (by unfold digB;simp;omega))
            go_wp2
            go_ret
            exact ⟨by rw [HC.out,HF.out] <;> rfl,rfl⟩
          · by_cases c2:57 < bt s k
            · have HF:=Lib.hid (HBad.out (by unfold digB;simp;omega))
              go_wp2
              go_ret
              exact ⟨by rw [HC.out,HF.out] <;> rfl,rfl⟩
            · have HG:=Lib.hid (show allB digB s (k+1)=true by rw [HS.out,HA.out];unfold digB;simp;omega)
              go_wp2
              go_round
              case rel=>exact ⟨k+1,by omega,by go_num,HG⟩
              case measure=>simp [intOf];omega
        · have hkn:k=s.size:=by omega
          subst hkn
          go_wp2
          go_ret
          exact ⟨by rw [HC.out,HA.out] <;> rfl,rfl⟩
    · have HC:=Lib.hid (show codeB s=false by unfold codeB;simp [h8])
      go_enter Tryz.func160,Tryz.ntmps160
      go_wp2
      go_ret
      exact ⟨by rw [HC.out] <;> rfl,rfl⟩
set_option maxHeartbeats 3200000 in
theorem key_any (s:ByteArray) (w:World) (hs:s.size≤maxLen) :
    Calls Tryz.prog 161 #[.string s] w fun e w'=>e=.returned (.bool (keyB s))∧w=w':=by
  unfold maxLen at hs
  have hb:=get_bt s
  by_cases h0:s.size=0
  · have e:=str_empty h0
    subst e
    go_enter Tryz.func161,Tryz.ntmps161
    go_wp2
    go_ret
    exact ⟨rfl,rfl⟩
  · have h1:1≤s.size:=by omega
    have hne:=str_ne h1
    have hne2:=str_ne2 h1
    by_cases h8:s.size≤12
    · have HC:=Lib.hid (show keyB s=allB keyC s s.size by unfold keyB;simp [h1,h8])
      obtain ⟨n,hn⟩:∃ n,n=s.size:=⟨_,rfl⟩
      subst hn
      go_enter Tryz.func161,Tryz.ntmps161
      go_wp2
      go_loop [14] (fun i=>∃ k:Nat,k≤s.size∧i=.int .i64 k∧Hid (allB keyC s k=true)) (fun i=>s.size - (intOf i).toNat)
      case atStart=>exact ⟨0,Nat.zero_le _,rfl,Lib.hid rfl⟩
      case round =>
        obtain ⟨k,hk,rfl,HA⟩:=hrel
        by_cases hlt:k < s.size
        · have hki:(k:Int) < (s.size:Int):=by omega
          have hk0:(0:Int)≤(k:Int):=by omega
          have b1:=bt_nonneg s k
          have b2:=bt_le s k
          have hks:k < s.size:=by omega
          have HS:=Lib.hid (allB_succ keyC s k)
          have HBad:=Lib.hid (fun h:keyC (bt s k)=false=>allB_bad (n:=s.size) h hlt)
          have hcase:(97≤bt s k∧bt s k≤122)∨(122 < bt s k)∨(48≤bt s k∧bt s k≤57)∨(57 < bt s k∧bt s k < 97)∨(bt s k=45)∨(bt s k < 48∧bt s k≠45):=by omega
          rcases hcase with ⟨c1,c2⟩ | c1 | ⟨c1,c2⟩ | ⟨c1,c2⟩ | c1 | ⟨c1,c2⟩
          · have t1:decide (97≤bt s k)=true:=by simp;omega
            have t2:decide (bt s k≤122)=true:=by simp;omega
            have t3:decide (48≤bt s k)=true:=by simp;omega
            have t4:decide (bt s k≤57)=false:=by simp;omega
            have t5:(bt s k == 45)=false:=by simp;omega
            have HG:=Lib.hid (show allB keyC s (k+1)=true by rw [HS.out,HA.out];unfold keyC;simp;omega)
            go_wp2
            go_round
            case rel=>exact ⟨k+1,by omega,by go_num,HG⟩
            case measure=>simp [intOf];omega
          · have t1:decide (97≤bt s k)=true:=by simp;omega
            have t2:decide (bt s k≤122)=false:=by simp;omega
            have t3:decide (48≤bt s k)=true:=by simp;omega
            have t4:decide (bt s k≤57)=false:=by simp;omega
            have t5:(bt s k == 45)=false:=by simp;omega
            have HF:=Lib.hid (HBad.out (by unfold keyC;simp;omega))
            go_wp2
            go_ret
            exact ⟨by rw [HC.out,HF.out] <;> rfl,rfl⟩
          · have t1:decide (97≤bt s k)=false:=by simp;omega
            have t2:decide (bt s k≤122)=true:=by simp;omega
            have t3:decide (48≤bt s k)=true:=by simp;omega
            have t4:decide (bt s k≤57)=true:=by simp;omega
            have t5:(bt s k == 45)=false:=by simp;omega
            have HG:=Lib.hid (show allB keyC s (k+1)=true by rw [HS.out,HA.out];unfold keyC;simp;omega)
            go_wp2
            go_round
            case rel=>exact ⟨k+1,by omega,by go_num,HG⟩
            case measure=>simp [intOf];omega
          · have t1:decide (97≤bt s k)=false:=by simp;omega
            have t2:decide (bt s k≤122)=true:=by simp;omega
            have t3:decide (48≤bt s k)=true:=by simp;omega
            have t4:decide (bt s k≤57)=false:=by simp;omega
            have t5:(bt s k == 45)=false:=by simp;omega
            have HF:=Lib.hid (HBad.out (by unfold keyC;simp;omega))
            go_wp2
            go_ret
            exact ⟨by rw [HC.out,HF.out] <;> rfl,rfl⟩
          · have t1:decide (97≤bt s k)=false:=by simp;omega
            have t2:decide (bt s k≤122)=true:=by simp;omega
            have t3:decide (48≤bt s k)=false:=by simp;omega
            have t4:decide (bt s k≤57)=true:=by simp;omega
            have t5:(bt s k == 45)=true:=by simp;omega
            have HG:=Lib.hid (show allB keyC s (k+1)=true by rw [HS.out,HA.out];unfold keyC;simp;omega)
            go_wp2
            go_round
            case rel=>exact ⟨k+1,by omega,by go_num,HG⟩
            case measure=>simp [intOf];omega
          · have t1:decide (97≤bt s k)=false:=by simp;omega
            have t2:decide (bt s k≤122)=true:=by simp;omega
            have t3:decide (48≤bt s k)=false:=by simp;omega
            have t4:decide (bt s k≤57)=true:=by simp;omega
            have t5:(bt s k == 45)=false:=by simp;omega
            have HF:=Lib.hid (HBad.out (by unfold keyC;simp;omega))
            go_wp2
            go_ret
            exact ⟨by rw [HC.out,HF.out] <;> rfl,rfl⟩
        · have hkn:k=s.size:=by omega
          subst hkn
          go_wp2
          go_ret
          exact ⟨by rw [HC.out,HA.out] <;> rfl,rfl⟩
    · have HC:=Lib.hid (show keyB s=false by unfold keyB;simp [h8])
      go_enter Tryz.func161,Tryz.ntmps161
      go_wp2
      go_ret
      exact ⟨by rw [HC.out] <;> rfl,rfl⟩
end Go.Proofs.YtdhbkifpodekcaaGreatDoor
