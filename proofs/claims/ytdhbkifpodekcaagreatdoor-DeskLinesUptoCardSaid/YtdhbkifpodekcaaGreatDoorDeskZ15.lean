/- Texts of this claim. -/
import Derived.Test.YtdhbkifpodekcaaGreatDoorDeskZ13
import Derived.Test.YtdhbkifpodekcaaGreatDoorDeskZ14
namespace Go.Proofs.YtdhbkifpodekcaaGreatDoor
open Go Go.ChangeShapes Go.WideShapes Go.ChangeAt Go.RowKit Go.PlainAid
set_option linter.unusedVariables false
set_option maxRecDepth 100000
def bang (c:Int):Ending:=.panicked [{ v:=.iface 59 (.agg #[.int .i64 c]),recovered:=false }]
theorem bad_any (c:Int) (w:World):Calls Tryz.prog 66 #[.int .i64 c] w fun e w'=>e=bang c∧w=w':=by
  go_enter Tryz.func66,Tryz.ntmps66
  go_wp2
  exact ⟨rfl,rfl,rfl⟩
theorem must_ok (w:World):Calls Tryz.prog 57 #[.int .i64 0] w fun e w'=>e=.returned (.tuple #[])∧w=w':=by
  go_enter Tryz.func57,Tryz.ntmps57
  go_wp2
  go_end0
  exact ⟨rfl,rfl⟩
theorem must_no (c:Int) (w:World) (h:c≠0):Calls Tryz.prog 57 #[.int .i64 c] w fun e w'=>e=bang c∧w=w':=by
  have hc:(c != 0)=true:=by simpa using h
  have HB:=Lib.hid (fun w=>bad_any c w)
  clear h
  go_enter Tryz.func57,Tryz.ntmps57
  go_wp2_with (go_at_call 66;(with_reducible refine (HB.out _).mono ?_);rintro e w' ⟨he,rfl⟩;rw [bang] at he;subst he)
  exact ⟨rfl,rfl,rfl⟩
def I64 (x:Int):Prop:=-9223372036854775808≤x∧x≤9223372036854775807
def tolT (l:List Int):List UInt8:=[111,107]++l.flatMap fun n=>32 :: Lib.itoa n
def tolB (l:List Int):ByteArray:=⟨(tolT l).toArray⟩
theorem tolB_ub (l:List Int):ub (tolB l)=tolT l:=by simp [tolB,ub]
theorem tolT_snoc (l:List Int) (n:Int):tolT (l++[n])=tolT l++32 :: Lib.itoa n:=by simp [tolT]
theorem tolB_take (l:List Int) (i:Nat) (h:i < l.length):tolB (l.take i)++({ data:=#[32] }++⟨(Lib.itoa (l.getD i 0)).toArray⟩)=tolB (l.take (i+1)):=by
  apply ub_inj
  rw [List.take_succ_eq_append_getElem h,ub_app,ub_app,tolB_ub,tolB_ub,ub_mk,tolT_snoc,List.getD_eq_getElem?_getD,List.getElem?_eq_getElem h]
  rfl
theorem tolT_len {l:List Int} (h:∀ x∈l,I64 x):(tolT l).length≤2+21*l.length:=by
  have:(l.flatMap fun n=>(32:UInt8) :: Lib.itoa n).length≤21*l.length:=by
    induction l with
    | nil=>simp
    | cons x l ih =>
      have h1:=itoa_len x 19 (by omega) (by have:=(h x (List.mem_cons_self ..)).1;have:=(h x (List.mem_cons_self ..)).2;omega)
      have h2:=ih fun y hy=>h y (List.mem_cons_of_mem _ hy)
      rw [List.flatMap_cons,List.length_append,List.length_cons,List.length_cons]
      omega
  unfold tolT
  rw [List.length_append]
  simp only [List.length_cons,List.length_nil]
  omega
theorem tolB_sz {l:List Int} (h:∀ x∈l,I64 x):(tolB l).size≤2+21*l.length:=by rw [← ub_len,tolB_ub];exact tolT_len h
set_option maxHeartbeats 1600000 in
theorem told_any (A:Option Addr) (n c:Nat) (xs:List Int) (w:World) (hr:Ri w A xs) (hn:xs.length=n) (hl:n≤1000) (hnc:n≤c) (hb:∀ x∈xs,I64 x) (ht:Tb w) :
    Calls Tryz.prog 58 #[.slice A n c] w fun e w'=>e=.returned (.string (tolB xs))∧Mor w w':=by
  have HR:=Lib.hid (fun w' (h:Mor w w')=>hr.mor h)
  have HN:=Lib.hid hn
  have HT:=Lib.hid (fun w' (h:Mor w w')=>ht.mor h)
  have HB:=Lib.hid (fun i (hi:i < n)=>hb _ (getD_mem xs i (by omega)))
  have HZ:=Lib.hid (fun i (hi:i≤n)=>show (tolB (xs.take i)).size≤30000 from by
    have:=tolB_sz (l:=xs.take i) (fun x hx=>hb x (List.mem_of_mem_take hx))
    have h2:(xs.take i).length≤1000:=by rw [List.length_take];omega
    omega)
  have HF:=Lib.hid (show xs.take n=xs by rw [← hn];exact List.take_length)
  clear hr hn hb ht
  go_enter Tryz.func58,Tryz.ntmps58
  go_wp2_with fail
  go_loopw [3,8] (fun v i wr=>∃ j:Nat,j≤n∧i=.int .i64 j∧v=.string (tolB (xs.take j))∧Hid (Mor w wr)) (fun _ i _=>n - (intOf i).toNat)
  case atStart=>exact ⟨0,Nat.zero_le _,rfl,by rw [List.take_zero];rfl,Lib.hid (Mor.refl _)⟩
  case round =>
    obtain ⟨j,hj,rfl,rfl,HM⟩:=hrel
    by_cases hlt:j < n
    · have hji:(j:Int) < (n:Int):=by omega
      have hj0:(0:Int)≤(j:Int):=by omega
      have hjc:(j:Int) < (c:Int):=by omega
      obtain ⟨x,hA,hxb,hc⟩:=(HR.out _ HM.out).at_ j (by rw [HN.out];exact hlt)
      subst hA
      have hi:=HB.out j hlt
      have HTk:=Lib.hid (tolB_take xs j (by rw [HN.out];exact hlt))
      have z1:=HZ.out j hj
      have hlen:=itoa_len (xs.getD j 0) 19 (by omega) (by have:=hi.1;have:=hi.2;omega)
      have HIt:=Lib.hid (fun w' (h:Mor w w')=>itoa_any (xs.getD j 0) w' hi.1 hi.2 (HT.out _ h))
      generalize xs.getD j 0=v at *
      generalize tolB (xs.take j)=ts at *
      have s1:1+(Lib.itoa v).length≤9223372036854775807:=by omega
      have s2:ts.size+(1+(Lib.itoa v).length)≤9223372036854775807:=by omega
      go_wp2_with (go_at_call 22;(with_reducible refine (HIt.out _ HM.out).mono ?_);rintro e w5 ⟨rfl,bs,k,rfl⟩)
      go_roundw
      case rel=>exact ⟨j+1,by omega,by go_num,by rw [HTk.out],Lib.hid (HM.out.trans' (by repeat (first | exact Mor.refl _ | apply Mor.alloc | apply Mor.more)))⟩
      case measure=>simp [intOf];omega
    · obtain rfl:j=n:=by omega
      rw [HF.out]
      go_wp2_with fail
      go_returns
      exact ⟨rfl,HM.out⟩
end Go.Proofs.YtdhbkifpodekcaaGreatDoor
