/- Texts of this claim. -/
import Derived.Test.YtdhbkifpodekcaaGreatDoorDeskZ3
import Derived.Test.YtdhbkifpodekcaaGreatDoorDeskZ8
import Derived.Lib.SliceRun
import Derived.Lib.Walk
import Derived.WalkSpells
namespace Go.Proofs.YtdhbkifpodekcaaGreatDoor
open Go.ChangeShapes Go.WideShapes Go.ChangeAt Go.RowKit Go.PlainAid
set_option linter.unusedVariables false
set_option maxRecDepth 100000
def pc (x:Ln):List Value:=[.string x.1,.int .i64 x.2]
theorem pc_len (x:Ln):(pc x).length=2:=rfl
theorem cd_get (xs:List Ln) (i:Nat) (h:i < xs.length):cd xs i=xs[i].1∧am xs i=xs[i].2:=by
  unfold cd am;rw [List.getD_eq_getElem?_getD,List.getElem?_eq_getElem h];exact ⟨rfl,rfl⟩
theorem Si.of_rd {w:World} {A:Option Addr} {xs:List Ln} (h:Rd w A (flat pc xs)):Si w A xs:=by
  by_cases h0:xs=[]
  · exact .inl h0
  · have hl:0 < xs.length:=List.length_pos_iff.2 h0
    obtain ⟨b,o,hA,hb,_⟩:=Rd.field 2 pc_len h 0 hl (by omega)
    refine .inr ⟨⟨b,o,none⟩,hA,hb,fun i hi=>?_⟩
    obtain ⟨b',o',hA',_,hc⟩:=Rd.field 2 pc_len h i hi (by omega)
    rw [hA] at hA'
    injection hA' with hA'
    injection hA' with h1 h2
    subst h1 h2
    obtain ⟨e1,e2⟩:=cd_get xs i hi
    have c0:=hc 0 (by omega)
    have c1:=hc 1 (by omega)
    rw [adds,e1,e2]
    exact ⟨by simpa [pc] using c0,by simpa [pc] using c1⟩
theorem own_set {w:World} {B:Nat} {T:TypeId} {s:Nat} {v:Value} {n:Nat} {xs:List Value} {g i:Nat} {u:Value} (h:w.ownsRow B T s v n xs) (hg:g < B):(w.setCell ⟨g,i,none⟩ u).ownsRow B T s v n xs:=by
  obtain ⟨hl,h | ⟨g',cap,cur,hv,hg',hb,hr⟩⟩:=h
  · exact ⟨hl,.inl h⟩
  · exact ⟨hl,.inr ⟨g',cap,cur,hv,hg',(Below.heap_setCell _ _ _ _ (by show g'≠g;omega)).trans hb,hr⟩⟩
theorem info_line:(Tryz.prog.info? 149).map (fun i=>(i.zero,i.size,i.bytes))=some (some (.agg #[.string { data:=#[] },.int .i64 0]),2,24):=by kernel_rfl
theorem si_flat {w:World} {x:Addr} {xs:List Ln} (h:Si w (some x) xs) (j:Nat) (u:Value) (hu:(flat pc xs)[j]?=some u):w.cell? (x.add j)=some u:=by
  have hl:=flat_len pc 2 pc_len xs
  have hj:j < xs.length*2:=by
    rcases Nat.lt_or_ge j (flat pc xs).length with h | h
    · omega
    · rw [List.getElem?_eq_none h] at hu;cases hu
  have hk:j / 2 < xs.length:=by omega
  obtain ⟨y,hy,_,c1,c2⟩:=h.at_ (j / 2) hk
  injection hy with hy
  subst hy
  have hg:=flat_get pc 2 pc_len xs (j / 2) (j % 2) hk (by omega) (.int .i64 0)
  rw [show j / 2*2+j % 2=j by omega,List.getD_eq_getElem?_getD,hu] at hg
  obtain ⟨e1,e2⟩:=cd_get xs (j / 2) hk
  rcases Nat.mod_two_eq_zero_or_one j with hr | hr
  · rw [hr] at hg
    rw [show x.add j=x.add (j / 2*2) by congr 1;omega,c1,e1]
    simpa [pc] using hg.symm
  · rw [hr] at hg
    rw [show x.add j=(x.add (j / 2*2)).add 1 by rw [Addr.add_add];congr 1;omega,Addr.add_succ' (x.add (j / 2*2)) 0]
    rw [Nat.zero_add,c2,e2]
    simpa [pc] using hg.symm
theorem flat_one (xs:List Ln):∀ u∈flat pc xs,u.oneCell'=true:=by
  intro u hu
  simp only [flat,List.mem_flatMap,pc,List.mem_cons,List.not_mem_nil,or_false] at hu
  obtain ⟨x,_,rfl | rfl⟩:=hu <;> rfl
def MadePost (w:World) (n:Nat) (ys:List Ln) (e:Ending) (w':World):Prop :=
  ∃ v,e=.returned v∧w'.ownsRow w.heap.size 149 2 v n (flat pc ys)∧Mor w w'
@[go_sem] theorem eql_nil_ln (w : World) (a : Option Addr) (n c : Nat) : (binOp .eql 109 (.slice a n c) (.slice none 0 0)).run Tryz.prog w = .ok (.bool a.isNone) w :=
  Lib.run_eql_slice_nil w _ 149 a n c 0 0 Tryz.underlying109
set_option maxHeartbeats 1600000 in
theorem clone_ln (x:Addr) (n cap:Nat) (xs:List Ln) (w:World) (hr:Si w (some x) xs) (hn:xs.length=n) (hl:n≤1000000) :
    Calls Tryz.prog 123 #[.slice (some x) n cap] w (MadePost w n xs):=by
  obtain ⟨i0,hi,hz0,hz1,hz2⟩:=info_parts info_line
  have HC:=Lib.hid (fun (W:World) (hW:Mor w W) j u hu=>si_flat (hr.mor hW) j u hu)
  have HL:=Lib.hid (show (flat pc xs).length=n*2 by rw [flat_len pc 2 pc_len,hn])
  clear hr hn
  go_enter Tryz.func123,Tryz.ntmps123
  go_wp2_with (at_builtin;refine wpList_append_own _ rfl _ _ 109 rfl w.heap.size 149 i0 (.agg #[.string { data:=#[] },.int .i64 0]) 2 24 Tryz.underlying109 hi hz0 hz1 hz2 rfl (by decide) _ 0 [] rfl ⟨by simp,.inr ⟨w.heap.size,0,#[],rfl,Nat.le_refl _,heap_alloc_new w _,Nat.le_refl _,by unfold maxLen;omega,rfl,rfl⟩⟩ x n cap (flat pc xs) rfl (by rw [HL.out]) ?_ ?_ ?_ ?_ ?_ ?_)
  case refine_6 =>
    intro v' w1 hown hgrow _
    have HO:=Lib.hid hown
    have HB:Hid (Below w.heap.size w w1):=Lib.hid (((Below.refl _ _).alloc (Nat.le_refl _) _).grown hgrow (by simp) (by intro k hk;simp [Value.ownBlock] at hk;omega))
    clear hown hgrow
    go_wp2
    go_ret
    exact ⟨v',rfl,by simpa using HO.out,Mor.of_below HB.out⟩
  all_goals try (first | (exact fun j u hu=>HC.out _ ((Mor.refl _).alloc) j u hu) | (exact flat_one xs) | (unfold maxLen;omega) | omega | simp)
abbrev s10:ByteArray:={ data:=#[49,48] }
end Go.Proofs.YtdhbkifpodekcaaGreatDoor
