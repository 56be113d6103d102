/- Texts of this claim. -/
import Derived.Test.YtdhbkifpodekcaaGreatDoorDeskZ37
import Derived.Test.YtdhbkifpodekcaaGreatDoorDeskZ38
import Derived.Laws.CopyOwn
import Derived.Laws.CopyRow
import Derived.Laws.Externs
import Derived.Laws.NewBlocks
import Derived.Lib.AppendZerosOnto
import Derived.Lib.Overlaps
import Derived.Shelf.RegionOpenPlain
namespace Go.Proofs.YtdhbkifpodekcaaGreatDoor
open Go.ChangeShapes Go.WideShapes Go.ChangeAt Go.RowKit Go.PlainAid
set_option linter.unusedVariables false
set_option maxRecDepth 100000
theorem run_copy_rowk {P:Program} (w:World) (dT sT ty elem:TypeId) (g o dLen dCap:Nat) (a:Addr) (sLen sCap:Nat) (cur:Array Value) (t:TypeId) (cs:List Value) (sz:Nat)
    (hu:P.underlying dT=some (.slice elem)) (hs:(P.info? elem).map (·.size)=some sz)
    (hg:w.heap[g]?=some (.cells cur t (0,0))) (hn:cs.length=Nat.min sLen dLen*sz)
    (hsrc:∀ (j:Nat) (v:Value),cs[j]?=some v→w.cell? (a.add j)=some v) (hfit:o+cs.length≤cur.size) (h1:∀ v∈cs,v.oneCell'=true) :
    (Builtin.copy_ #[dT,sT] ty #[.slice (some ⟨g,o,none⟩) dLen dCap,.slice (some a) sLen sCap]).run P w =
      .ok (goInt (Nat.min sLen dLen)) (w.setRow g (cur.toList.take o++cs++cur.toList.drop (o+cs.length)).toArray):=by
  have hl:=run_firstCells_some (P:=P) w sz (Nat.min sLen dLen) a sLen sCap cs hn hsrc
  have hst:=run_storeCells_at P g o t cs 0 cur w hg (by simpa using hfit) h1
  cases hq:P.info? elem with
  | none=>simp [hq] at hs
  | some i =>
    have hi:i.size=sz:=by simpa [hq] using hs
    simp [Builtin.copy_,run_underlying hu,Builtin.lenOf,sizeOf,typeInfo,hq,hi,hl,hst]
theorem wpList_copy_runI {P:Program} (w:World) {ops:Array Oper} {rest:List Oper} {o:Oper} {a:Act} {Q:Exit→Act→World→Prop} (hgd:o.guard=none) (d s:Operand) (t t':TypeId)
    (ho:o.op=.call { callee:=.builtin .copy,args:=#[d,s],argTypes:=#[t,t'] }) (v u:Value) (hd:a.eval d=v) (hs:a.eval s=u) {v':Value} {w':World}
    (hr:(Builtin.copy_ #[t,t'] o.type #[v,u]).run P w=.ok v' w') (h:wpList P ops Q rest (a.put o.dst v') w'):wpList P ops Q (o :: rest) a w :=
  wpList_plain hgd fun K hK=>by
    unfold Oper.wp execOp
    simp only [ho,resolve,invoke,builtin,Sem.run_bind,Sem.run_pure,Result.andThen_ok,List.map_toArray,List.map_cons,List.map_nil,hd,hs,hr]
    exact hK _ _ h
theorem step_copy_runI {P:Program} {ops:Array Oper} {o:Oper} {a:Act} {w:World} {K:Act→World→Prop} {Q:Exit→Act→World→Prop} {E:Prop}
    (hg:o.guard=none) (d x:Operand) (dT sT:TypeId) (hop:o.op=Op.call { callee:=Callee.builtin Builtin.copy,args:=#[d,x],argTypes:=#[dT,sT] })
    (v u:Value) (hd:a.eval d=v) (hx:a.eval x=u) {v':Value} {w':World} (hr:(Builtin.copy_ #[dT,sT] o.type #[v,u]).run P w=.ok v' w') (hK:K (a.put o.dst v') w') :
    if Region.wanted o (yielded ops a.tmps)=true then Oper.wp P o a w K Q else E:=by
  have hw:Region.wanted o (yielded ops a.tmps)=true:=by simp [Region.wanted,hg]
  rw [if_pos hw]
  unfold Oper.wp
  simp [execOp,hop,resolve,invoke,builtin,hd,hx,hr,Result.andThen]
  exact hK
def insL (xs vs:List Value) (k:Nat):List Value:=xs.take k++vs++xs.drop k
theorem insL_len (xs vs:List Value) (k:Nat):(insL xs vs k).length=xs.length+vs.length:=by
  unfold insL;rw [List.length_append,List.length_append,List.length_take,List.length_drop];omega
def InsPost (w:World) (base n:Nat) (v:Value) (ys:List Value) (e:Ending) (w':World):Prop :=
  ∃ v',e=.returned v'∧w'.ownsRow base 111 3 v' (n+1) ys∧w.grownBy w' v.ownBlock
set_option maxRecDepth 100000 in
set_option maxHeartbeats 4000000 in
theorem insert_end (base:Nat) (X:Option Addr) (n c:Nat) (xs:List Value) (vb:Nat) (vs:List Value) (w:World) (ho:w.ownsRow base 111 3 (.slice X n c) n xs) (hb:Bk w vb 111 vs.toArray) (hl:vs.length=3) (h1:∀ u∈vs,u.oneCell'=true) (hn:n≤1000) (hbw:base≤w.heap.size) :
    Calls Tryz.prog 126 #[.slice X n c,.int .i64 n,.slice (some ⟨vb,0,none⟩) 1 1] w (InsPost w base n (.slice X n c) (insL xs vs (n*3))):=by
  obtain ⟨i0,hi,hz0,hz1,hz2⟩:=info_parts info_entry
  have hx:insL xs vs (n*3)=xs++vs:=by
    unfold insL
    rw [List.take_of_length_le (by rw [ho.1];exact Nat.le_refl _),List.drop_eq_nil_of_le (by rw [ho.1];exact Nat.le_refl _),List.append_nil]
  rw [hx]
  have HO:=Lib.hid ho
  have HB:=Lib.hid hb
  obtain ⟨A',c',e,hnc,_,hsm⟩:=own_shape ho
  injection e with e1 _ e3
  subst e1 e3
  have hni:(n:Int)≤(c:Int):=by omega
  have hn0:(0:Int)≤(n:Int):=by omega
  have HSm:=Lib.hid hsm
  clear ho hb hx hsm
  cases X with
  | none =>
    have hn1:n=0:=by
      rcases Nat.eq_zero_or_pos n with h | h
      · exact h
      · obtain ⟨g,hg,_⟩:=HSm.out h;cases hg
    subst hn1
    go_enter Tryz.func126,Tryz.ntmps126
    go_wp2_with (at_builtin;refine wpList_append_own _ rfl _ _ 35 rfl base 111 i0 (.agg #[.string { data:=#[] },.int .i64 0,.slice none 0 0]) 3 48 Tryz.underlying35 hi hz0 hz1 hz2 rfl (by decide) _ _ _ rfl HO.out ⟨vb,0,none⟩ 1 1 vs rfl (by rw [hl]) ?_ ?_ ?_ ?_ ?_ ?_)
    all_goals first
      | exact fun j u hu=>by rw [HB.out.cell,List.getElem?_toArray];exact hu
      | exact fun j u hu=>by rw [adds,Nat.zero_add,HB.out.cell,List.getElem?_toArray];exact hu
      | exact h1
      | (unfold maxLen;omega)
      | omega
      | (intro v' w' ho' hg' _
         have HO':=Lib.hid ho'
         have HG':=Lib.hid hg'
         clear ho' hg'
         go_wp2_with fail
         go_ret
         exact ⟨v',rfl,HO'.out,HG'.out⟩)
  | some a =>
    obtain ⟨ab,ao,asp⟩:=a
    go_enter Tryz.func126,Tryz.ntmps126
    go_wp2_with (at_builtin;refine wpList_append_own _ rfl _ _ 35 rfl base 111 i0 (.agg #[.string { data:=#[] },.int .i64 0,.slice none 0 0]) 3 48 Tryz.underlying35 hi hz0 hz1 hz2 rfl (by decide) _ _ _ rfl HO.out ⟨vb,0,none⟩ 1 1 vs rfl (by rw [hl]) ?_ ?_ ?_ ?_ ?_ ?_)
    all_goals first
      | exact fun j u hu=>by rw [HB.out.cell,List.getElem?_toArray];exact hu
      | exact fun j u hu=>by rw [adds,Nat.zero_add,HB.out.cell,List.getElem?_toArray];exact hu
      | exact h1
      | (unfold maxLen;omega)
      | omega
      | (intro v' w' ho' hg' _
         have HO':=Lib.hid ho'
         have HG':=Lib.hid hg'
         clear ho' hg'
         go_wp2_with fail
         go_ret
         exact ⟨v',rfl,HO'.out,HG'.out⟩)
theorem blk_shape {w:World} {g:Nat} {T:TypeId} {cs:Array Value} (h:Bk w g T cs):w.shape? g=some (T,cs.size):=by
  unfold Bk at h
  simp [World.shape?,h]
theorem insL_take {cur:List Value} {xs vs:List Value} {n i:Nat} (hx:cur.take (n*3)=xs) (hl:vs.length=3) (hi:i < n) (hs:(n+1)*3≤cur.length) :
    let cur1:=cur.take ((i+1)*3)++xs.drop (i*3)++cur.drop ((i+1)*3+(xs.drop (i*3)).length)
    cur1.length=cur.length∧(cur1.take (i*3)++vs++cur1.drop (i*3+vs.length)).take ((n+1)*3)=insL xs vs (i*3):=by
  have hxl:xs.length=n*3:=by rw [← hx,List.length_take];omega
  have hdl:(xs.drop (i*3)).length=n*3 - i*3:=by rw [List.length_drop,hxl]
  intro cur1
  have hc1:cur1.length=cur.length:=by
    show (cur.take ((i+1)*3)++xs.drop (i*3)++cur.drop ((i+1)*3+(xs.drop (i*3)).length)).length=_
    simp only [List.length_append,List.length_take,List.length_drop];omega
  refine ⟨hc1,?_⟩
  have t1:cur1.take (i*3)=xs.take (i*3):=by
    show (cur.take ((i+1)*3)++xs.drop (i*3)++cur.drop ((i+1)*3+(xs.drop (i*3)).length)).take (i*3)=_
    rw [List.append_assoc,List.take_append_of_le_length (by rw [List.length_take];omega),List.take_take,← hx,List.take_take]
    congr 1;omega
  have t2:cur1.drop (i*3+vs.length)=xs.drop (i*3)++cur.drop ((i+1)*3+(xs.drop (i*3)).length):=by
    show (cur.take ((i+1)*3)++xs.drop (i*3)++cur.drop ((i+1)*3+(xs.drop (i*3)).length)).drop (i*3+vs.length)=_
    rw [List.append_assoc,List.drop_append,List.drop_eq_nil_of_le (by rw [List.length_take];omega),List.nil_append,List.length_take]
    rw [show i*3+vs.length - min ((i+1)*3) cur.length=0 by omega];rfl
  rw [t1,t2,← List.append_assoc]
  unfold insL
  rw [List.take_append_of_le_length (by rw [List.length_append,List.length_append,List.length_take,hdl];omega)]
  exact List.take_of_length_le (by rw [List.length_append,List.length_append,List.length_take,hdl];omega)
set_option maxRecDepth 100000 in
set_option maxHeartbeats 4000000 in
theorem insert_room (base g n c i:Nat) (cur:Array Value) (xs:List Value) (vb:Nat) (vs:List Value) (w:World) (hB:base≤g) (hg:Bk w g 111 cur) (hnc:n+1≤c) (hcm:c≤maxLen) (hsz:cur.size=c*3) (hx:cur.toList.take (n*3)=xs)
    (hb:Bk w vb 111 vs.toArray) (hl:vs.length=3) (h1:∀ u∈vs,u.oneCell'=true) (h1x:∀ u∈xs,u.oneCell'=true) (hi:i < n) (hn:n≤1000) (hvb:vb≠g) :
    Calls Tryz.prog 126 #[.slice (some ⟨g,0,none⟩) n c,.int .i64 i,.slice (some ⟨vb,0,none⟩) 1 1] w (InsPost w base n (.slice (some ⟨g,0,none⟩) n c) (insL xs vs (i*3))):=by
  have hcl:cur.toList.length=cur.size:=by simp
  have hxl:xs.length=n*3:=by rw [← hx,List.length_take,hcl];omega
  have hdl:(xs.drop (i*3)).length=(n - i)*3:=by rw [List.length_drop,hxl];omega
  obtain ⟨z1,z2⟩:=insL_take (cur:=cur.toList) (vs:=vs) hx hl hi (by rw [hcl];omega)
  have hz:(Tryz.prog.info? 111).map (·.size)=some 3:=by kernel_rfl
  have hov:∀ lb cb,(callFunc 169 #[.slice (some ⟨vb,0,none⟩) 1 1,.slice (some ⟨g,(i+1)*3,none⟩) lb cb]).run Tryz.prog w=.ok (.value (.bool false)) w:=fun lb cb=>by
    rw [run_callFunc_extern Tryz.func169 (by kernel_rfl) (by kernel_rfl) (by kernel_rfl) (e:=Extern.SlicesOverlaps.overlaps #[35,35] #[4]) (by kernel_rfl),
      Lib.run_overlaps_apart w 35 4 111 Tryz.underlying35 3 (fun w=>by kernel_rfl) ⟨vb,0,none⟩ ⟨g,(i+1)*3,none⟩ 1 1 lb cb hvb _ _ _ _ (blk_shape hb) (blk_shape hg) (by omega) (hb.frozen _) (hb.frozen _)]
    rfl
  obtain ⟨cur1,hcur1⟩:∃ c1,c1=cur.toList.take ((i+1)*3)++xs.drop (i*3)++cur.toList.drop ((i+1)*3+(xs.drop (i*3)).length):=⟨_,rfl⟩
  have hc1l:cur1.length=cur.size:=by rw [hcur1,← hcl];exact z1
  obtain ⟨W1,hW1⟩:∃ W1,W1=w.drew.setRow g cur1.toArray:=⟨_,rfl⟩
  have hc1:∀ ty dc sc,(Builtin.copy_ #[35,35] ty #[.slice (some ⟨g,(i+1)*3,none⟩) (n - i) dc,.slice (some ⟨g,i*3,none⟩) (n+1 - i) sc]).run Tryz.prog w.drew=.ok (goInt (n - i:Nat)) W1:=fun ty dc sc=>by
    have h:=run_copy_rowk (P:=Tryz.prog) w.drew 35 35 ty 111 g ((i+1)*3) (n - i) dc ⟨g,i*3,none⟩ (n+1 - i) sc cur 111 (xs.drop (i*3)) 3 Tryz.underlying35 hz hg (by rw [hdl];congr 1;simp only [Nat.min_def];split <;> omega)
      (fun j v hj=>by
        rw [adds,show w.drew.cell? ⟨g,i*3+j,none⟩=w.cell? ⟨g,i*3+j,none⟩ from rfl,hg.cell]
        rw [List.getElem?_drop,← hx,List.getElem?_take] at hj
        split at hj
        · rw [← Array.getElem?_toList];exact hj
        · cases hj)
      (by rw [hdl];omega) (fun u hu=>h1x u (List.mem_of_mem_drop hu))
    rw [hW1,hcur1,h]
    congr 2
    simp only [Nat.min_def];split <;> omega
  have hg1:Bk W1 g 111 cur1.toArray:=by rw [hW1];exact setRow_heap w.drew g cur _ _ _ hg
  have hb1:Bk W1 vb 111 vs.toArray:=by rw [hW1];exact (setRow_other w.drew g vb _ hvb).trans hb
  obtain ⟨W2,hW2⟩:∃ W2,W2=W1.setRow g (cur1.take (i*3)++vs++cur1.drop (i*3+vs.length)).toArray:=⟨_,rfl⟩
  have hc2:∀ ty dc,(Builtin.copy_ #[35,35] ty #[.slice (some ⟨g,i*3,none⟩) (n+1 - i) dc,.slice (some ⟨vb,0,none⟩) 1 1]).run Tryz.prog W1=.ok (goInt (1:Nat)) W2:=fun ty dc=>by
    have h:=run_copy_rowk (P:=Tryz.prog) W1 35 35 ty 111 g (i*3) (n+1 - i) dc ⟨vb,0,none⟩ 1 1 cur1.toArray 111 vs 3 Tryz.underlying35 hz hg1 (by rw [hl];simp only [Nat.min_def];split <;> omega)
      (fun j v hj=>by rw [adds,Nat.zero_add,hb1.cell,List.getElem?_toArray];exact hj)
      (by rw [hl,List.size_toArray,hc1l];omega) h1
    rw [hW2,h]
    congr 2
    simp only [Nat.min_def];split <;> omega
  have hFin:InsPost w base n (.slice (some ⟨g,0,none⟩) n c) (insL xs vs (i*3)) (.returned (.slice (some ⟨g,0,none⟩) (n+1) c)) W2:=by
    refine ⟨_,rfl,⟨by rw [insL_len,hxl,hl];omega,.inr ⟨g,c,_,rfl,hB,show W2.heap[g]?=_ by rw [hW2];exact setRow_heap W1 g _ _ _ _ hg1,hnc,hcm,?_,?_⟩⟩,?_⟩
    · have e1:(cur1.take (i*3)++vs++cur1.drop (i*3+vs.length)).length=cur.size:=by
        simp only [List.length_append,List.length_take,List.length_drop,hl,hc1l];omega
      rw [List.size_toArray,e1];exact hsz
    · rw [hcur1];exact z2
    · refine ⟨by rw [hW2,hW1];rfl,by rw [hW2,hW1];rfl,by rw [hW2,hW1];rfl,by rw [hW2,hW1];simp only [World.setRow,Array.size_modify];exact Nat.le_refl _,fun k hk hne=>?_⟩
      have hne':k≠g:=fun e=>hne (by subst e;rfl)
      rw [hW2,setRow_other W1 g k _ hne',hW1,setRow_other w.drew g k _ hne'];rfl
  have HFin:=Lib.hid hFin
  have mixed:Tryz.prog.follows Departure.mixedOrders=true:=by kernel_rfl
  have hw1:IntKind.i64.wrap ((i:Int)+1)=(i:Int)+1:=IntWalk.i64_in _ (by omega)
  have hb0:(0:Int)≤(i:Int)+1:=by omega
  have htn:((i:Int)+1).toNat=i+1:=by omega
  have hb2:¬ (c=i+1):=by omega
  have hb4:¬ (c=i):=by omega
  have hb3:(i:Int)≤(n:Int)+1:=by omega
  have hin:i≤n:=by omega
  have hz2:¬ ((i:Int)=(n:Int)):=by omega
  clear hFin hg1 hb1 hW2 hcur1 hc1l z1 z2 hdl hxl hcl hx hsz hg hb h1 h1x hz hW1
  go_enter Tryz.func126,Tryz.ntmps126
  go_wp2_with (simp only [hov])
  go_region_law_o (refine step_copy_runI rfl _ _ 35 35 rfl _ _ (by simp [Act.eval,Act.put]) (by simp [Act.eval,Act.put]) (hc1 _ _ _) ?_)
  go_wp2_with (at_builtin;refine wpList_copy_runI _ rfl _ _ 35 35 rfl _ _ rfl rfl (hc2 _ _) ?_)
  go_ret
  exact HFin.out
theorem insL_new {R:List Value} {xs vs:List Value} {n i:Nat} (hx:xs.length=n*3) (hR:R.take (i*3)=xs.take (i*3)) (hl:vs.length=3) (hi:i < n) (hs:(n+1)*3≤R.length) :
    (R.take (i*3)++vs++R.drop (i*3+vs.length)).length=R.length ∧
    (((R.take (i*3)++vs++R.drop (i*3+vs.length)).take ((i+1)*3)++xs.drop (i*3)++(R.take (i*3)++vs++R.drop (i*3+vs.length)).drop ((i+1)*3+(xs.drop (i*3)).length)).take ((n+1)*3)=insL xs vs (i*3)) ∧
    ((R.take (i*3)++vs++R.drop (i*3+vs.length)).take ((i+1)*3)++xs.drop (i*3)++(R.take (i*3)++vs++R.drop (i*3+vs.length)).drop ((i+1)*3+(xs.drop (i*3)).length)).length=R.length:=by
  have h1:(R.take (i*3)++vs++R.drop (i*3+vs.length)).length=R.length:=by
    simp only [List.length_append,List.length_take,List.length_drop];omega
  have h2:(R.take (i*3)++vs++R.drop (i*3+vs.length)).take ((i+1)*3)=xs.take (i*3)++vs:=by
    rw [hR,List.take_append_of_le_length (by simp only [List.length_append,List.length_take];omega)]
    exact List.take_of_length_le (by simp only [List.length_append,List.length_take];omega)
  refine ⟨h1,?_,?_⟩
  · rw [h2]
    unfold insL
    rw [List.take_append_of_le_length (by simp only [List.length_append,List.length_take,List.length_drop];omega)]
    exact List.take_of_length_le (by simp only [List.length_append,List.length_take,List.length_drop];omega)
  · rw [h2]
    rw [List.length_append,List.length_append,List.length_drop (l:=R.take (i*3)++vs++R.drop (i*3+vs.length)),h1]
    simp only [List.length_append,List.length_take,List.length_drop];omega
set_option maxRecDepth 100000 in
set_option maxHeartbeats 4000000 in
theorem insert_grow (base g n i:Nat) (cur:Array Value) (xs:List Value) (vb:Nat) (vs:List Value) (w:World) (hB:base≤g) (hbw:base≤w.heap.size) (hg:Bk w g 111 cur) (hsz:cur.size=n*3) (hx:cur.toList.take (n*3)=xs)
    (hb:Bk w vb 111 vs.toArray) (hl:vs.length=3) (h1:∀ u∈vs,u.oneCell'=true) (h1x:∀ u∈xs,u.oneCell'=true) (hi:i < n) (hn:n≤1000) :
    Calls Tryz.prog 126 #[.slice (some ⟨g,0,none⟩) n n,.int .i64 i,.slice (some ⟨vb,0,none⟩) 1 1] w (InsPost w base n (.slice (some ⟨g,0,none⟩) n n) (insL xs vs (i*3))):=by
  obtain ⟨i0,hi0,hz0,hz1,hz2⟩:=info_parts info_entry
  have hcl:cur.toList.length=cur.size:=by simp
  have hxc:cur.toList=xs:=by rw [← hx];exact (List.take_of_length_le (by rw [hcl];omega)).symm
  have hxl:xs.length=n*3:=by rw [← hxc,hcl,hsz]
  have hdl:(xs.drop (i*3)).length=(n - i)*3:=by rw [List.length_drop,hxl];omega
  have hz:(Tryz.prog.info? 111).map (·.size)=some 3:=by kernel_rfl
  have hcell:∀ j,w.cell? ⟨g,j,none⟩=xs[j]?:=fun j=>by rw [hg.cell,← hxc,Array.getElem?_toList]
  have hold:(Builtin.firstCells i0.size i (.slice (some ⟨g,0,none⟩) i n)).run Tryz.prog w.drew=.ok (xs.take (i*3)).toArray w.drew:=by
    rw [hz1]
    exact run_firstCells_some w.drew 3 i ⟨g,0,none⟩ i n (xs.take (i*3)) (by rw [List.length_take];omega) (fun j v hj=>by
      rw [adds,Nat.zero_add,show w.drew.cell? ⟨g,j,none⟩=w.cell? ⟨g,j,none⟩ from rfl,hcell]
      rw [List.getElem?_take] at hj
      split at hj
      · exact hj
      · cases hj)
  have hkk:(n:Int)+1 - (i:Int)=((n+1 - i:Nat):Int):=by omega
  have hik:i+(n+1 - i)=n+1:=by omega
  have hrz:∀ ty,(Builtin.append_ #[35,3] ty #[.slice (some ⟨g,0,none⟩) i n,.int .i64 ((n:Int)+1 - (i:Int))]).run Tryz.prog w =
      .ok (.slice (some ⟨w.heap.size,0,none⟩) (n+1) (grownCap w (n+1) n 111)) (w.drew.alloc (.cells ((xs.take (i*3)).toArray++Builtin.zeroCells (Value.agg #[.string { data:=#[] },.int .i64 0,.slice none 0 0]).cells (n+1 - i)++Builtin.zeroCells (Value.agg #[.string { data:=#[] },.int .i64 0,.slice none 0 0]).cells (grownCap w (n+1) n 111 - (n+1))) 111)):=fun ty=>by
    have h:=Lib.run_append_grow_zeros w 35 3 ty 111 i0 _ .i64 .i64 Tryz.underlying35 Tryz.underlying3 hi0 hz0 (some ⟨g,0,none⟩) i n (xs.take (i*3)) hold (n+1 - i) (by omega) (by omega) (by omega) (by omega) (by rw [hz2];omega) (by rw [hz2,hik];exact growslice_fits (by omega) (by omega))
    rw [hik] at h
    rw [hkk]
    exact h
  obtain ⟨G,hG⟩:∃ G,G=grownCap w (n+1) n 111:=⟨_,rfl⟩
  have hGn:n+1≤G:=by rw [hG];exact grownCap_ge w _ _ _
  have hGm:G≤maxLen:=by rw [hG];exact grownCap_le_maxLen w (n+1) n 111 (by unfold maxLen;omega)
  rw [← hG] at hrz
  obtain ⟨ROW,hROW⟩:∃ ROW:Array Value,ROW=(xs.take (i*3)).toArray++Builtin.zeroCells (Value.agg #[.string { data:=#[] },.int .i64 0,.slice none 0 0]).cells (n+1 - i)++Builtin.zeroCells (Value.agg #[.string { data:=#[] },.int .i64 0,.slice none 0 0]).cells (G - (n+1)):=⟨_,rfl⟩
  rw [← hROW] at hrz
  have hRs:ROW.size=G*3:=by
    rw [hROW,Array.size_append,Array.size_append,size_zeroCells,size_zeroCells,List.size_toArray,List.length_take]
    simp [Value.cells]
    omega
  have hRl:ROW.toList.length=G*3:=by simp [hRs]
  have hRt:ROW.toList.take (i*3)=xs.take (i*3):=by
    rw [hROW,Array.toList_append,Array.toList_append,List.append_assoc,List.take_append_of_le_length (by simp;omega)]
    exact List.take_of_length_le (by simp;omega)
  obtain ⟨z1,z2,z3⟩:=insL_new (R:=ROW.toList) (vs:=vs) hxl hRt hl hi (by rw [hRl];omega)
  obtain ⟨R1,hR1⟩:∃ R1,R1=ROW.toList.take (i*3)++vs++ROW.toList.drop (i*3+vs.length):=⟨_,rfl⟩
  rw [← hR1] at z1 z2 z3
  obtain ⟨R2,hR2⟩:∃ R2,R2=R1.take ((i+1)*3)++xs.drop (i*3)++R1.drop ((i+1)*3+(xs.drop (i*3)).length):=⟨_,rfl⟩
  rw [← hR2] at z2 z3
  have hgw:g < w.heap.size:=hg.lt
  have hvw:vb < w.heap.size:=hb.lt
  obtain ⟨W1,hW1⟩:∃ W1,W1=w.drew.alloc (.cells ROW 111):=⟨_,rfl⟩
  rw [← hW1] at hrz
  have hN1:Bk W1 w.heap.size 111 ROW:=by rw [hW1];exact Bk.new w.drew _ _
  have hb1:Bk W1 vb 111 vs.toArray:=by rw [hW1];exact hb.drew.alloc _
  have hg1:Bk W1 g 111 cur:=by rw [hW1];exact hg.drew.alloc _
  obtain ⟨W2,hW2⟩:∃ W2,W2=W1.setRow w.heap.size R1.toArray:=⟨_,rfl⟩
  have hN2:Bk W2 w.heap.size 111 R1.toArray:=by rw [hW2];exact setRow_heap W1 _ _ _ _ _ hN1
  have hg2:Bk W2 g 111 cur:=by rw [hW2];exact (setRow_other W1 _ g _ (by omega)).trans hg1
  obtain ⟨W3,hW3⟩:∃ W3,W3=W2.drew.setRow w.heap.size R2.toArray:=⟨_,rfl⟩
  have hcpA:∀ ty dc,(Builtin.copy_ #[35,35] ty #[.slice (some ⟨w.heap.size,i*3,none⟩) (n+1 - i) dc,.slice (some ⟨vb,0,none⟩) 1 1]).run Tryz.prog W1=.ok (goInt (1:Nat)) W2:=fun ty dc=>by
    have h:=run_copy_rowk (P:=Tryz.prog) W1 35 35 ty 111 w.heap.size (i*3) (n+1 - i) dc ⟨vb,0,none⟩ 1 1 ROW 111 vs 3 Tryz.underlying35 hz hN1 (by rw [hl];simp only [Nat.min_def];split <;> omega)
      (fun j v hj=>by rw [adds,Nat.zero_add,hb1.cell,List.getElem?_toArray];exact hj)
      (by rw [hl,hRs];omega) h1
    rw [hW2,hR1,h]
    congr 2
    simp only [Nat.min_def];split <;> omega
  have hcpB:∀ ty dc sc,(Builtin.copy_ #[35,35] ty #[.slice (some ⟨w.heap.size,(i+1)*3,none⟩) (n - i) dc,.slice (some ⟨g,i*3,none⟩) (n - i) sc]).run Tryz.prog W2.drew=.ok (goInt (n - i:Nat)) W3:=fun ty dc sc=>by
    have h:=run_copy_rowk (P:=Tryz.prog) W2.drew 35 35 ty 111 w.heap.size ((i+1)*3) (n - i) dc ⟨g,i*3,none⟩ (n - i) sc R1.toArray 111 (xs.drop (i*3)) 3 Tryz.underlying35 hz hN2 (by rw [hdl];congr 1;simp only [Nat.min_def];split <;> omega)
      (fun j v hj=>by
        rw [adds,show W2.drew.cell? ⟨g,i*3+j,none⟩=W2.cell? ⟨g,i*3+j,none⟩ from rfl,hg2.cell,← Array.getElem?_toList,hxc]
        rw [List.getElem?_drop] at hj;exact hj)
      (by rw [hdl,List.size_toArray,z1,hRl];omega) (fun u hu=>h1x u (List.mem_of_mem_drop hu))
    rw [hW3,hR2]
    rw [h]
    congr 2
    simp only [Nat.min_def];split <;> omega
  have hFin:InsPost w base n (.slice (some ⟨g,0,none⟩) n n) (insL xs vs (i*3)) (.returned (.slice (some ⟨w.heap.size,0,none⟩) (n+1) G)) W3:=by
    refine ⟨_,rfl,⟨by rw [insL_len,hxl,hl];omega,.inr ⟨w.heap.size,G,R2.toArray,rfl,hbw,show W3.heap[w.heap.size]?=_ by rw [hW3];exact setRow_heap W2.drew _ _ _ _ _ hN2,hGn,hGm,by rw [List.size_toArray,z3,hRl],?_⟩⟩,?_⟩
    · exact z2
    · refine ⟨by rw [hW3,hW2,hW1];rfl,by rw [hW3,hW2,hW1];rfl,by rw [hW3,hW2,hW1];rfl,?_,fun k hk hne=>?_⟩
      · rw [hW3,hW2,hW1]
        simp only [World.setRow,Array.size_modify]
        show w.heap.size≤((w.heap.push _).modify _ _).size
        rw [Array.size_modify,Array.size_push];omega
      · rw [hW3,setRow_other W2.drew _ k _ (by omega)]
        show W2.heap[k]?=_
        rw [hW2,setRow_other W1 _ k _ (by omega),hW1]
        exact Below.heap_alloc w.drew _ k hk
  have HFin:=Lib.hid hFin
  have mixed:Tryz.prog.follows Departure.mixedOrders=true:=by kernel_rfl
  have hw1:IntKind.i64.wrap ((i:Int)+1)=(i:Int)+1:=IntWalk.i64_in _ (by omega)
  have hb0:(0:Int)≤(i:Int)+1:=by omega
  have htn:((i:Int)+1).toNat=i+1:=by omega
  have hG63:G≤9223372036854775807:=by unfold maxLen at hGm;omega
  have hGi:¬ (G=i):=by omega
  have hGi1:¬ (G=i+1):=by omega
  have hni:¬ (n=i):=by omega
  have hin:i≤n:=by omega
  have hb3:(i:Int)≤(n:Int):=by omega
  have hz2':¬ ((i:Int)=(n:Int)):=by omega
  have hlt:(n:Int) < (n:Int)+1:=by omega
  obtain ⟨N,hN⟩:∃ N,N=w.heap.size:=⟨_,rfl⟩
  rw [← hN] at hcpA hcpB hrz HFin
  clear hFin hN1 hb1 hg1 hN2 hg2 hW1 hW2 hW3 hR1 hR2 z1 z2 z3 hRt hRl hRs hROW hG hGm hik hkk hold hcell hdl hxl hxc hcl hx hsz hg hb h1 h1x hz hN
  go_enter Tryz.func126,Tryz.ntmps126
  go_wp2_with (first
    | (at_builtin;refine Lib.wpList_append_run _ rfl _ _ _ _ rfl _ _ rfl rfl _ _ (hrz _) ?_)
    | (at_builtin;refine wpList_copy_runI _ rfl _ _ 35 35 rfl _ _ rfl rfl (hcpA _ _) ?_))
  go_region_law_o (refine step_copy_runI rfl _ _ 35 35 rfl _ _ (by simp [Act.eval,Act.put]) (by simp [Act.eval,Act.put]) (hcpB _ _ _) ?_)
  go_wp2_with fail
  go_ret
  exact HFin.out
theorem ec_one (qs:List Ev):∀ u∈flat ec qs,u.oneCell'=true:=by
  intro u hu
  simp only [flat,List.mem_flatMap,ec,List.mem_cons,List.not_mem_nil,or_false] at hu
  obtain ⟨x,_,rfl | rfl | rfl⟩:=hu <;> rfl
theorem insert_any (base:Nat) (v:Value) (n i:Nat) (qs:List Ev) (vb:Nat) (q:Ev) (w:World) (ho:w.ownsRow base 111 3 v n (flat ec qs)) (hq:qs.length=n) (hb:Bk w vb 111 (ec q).toArray) (hvb:v.ownBlock≠some vb) (hi:i≤n) (hn:n≤1000) (hbw:base≤w.heap.size) :
    Calls Tryz.prog 126 #[v,.int .i64 i,.slice (some ⟨vb,0,none⟩) 1 1] w (InsPost w base n v (flat ec (qs.take i++q :: qs.drop i))):=by
  have hone:∀ u∈ec q,u.oneCell'=true:=fun u hu=>ec_one [q] u (by simpa [flat] using hu)
  have hfl:flat ec (qs.take i++q :: qs.drop i)=insL (flat ec qs) (ec q) (i*3):=by
    have ht:∀ (l:List Ev) (k:Nat),(flat ec l).take (k*3)=flat ec (l.take k)∧(flat ec l).drop (k*3)=flat ec (l.drop k):=by
      intro l
      induction l with
      | nil=>intro k;simp [flat]
      | cons a l ih =>
        intro k
        cases k with
        | zero=>simp [flat]
        | succ k =>
          have e:flat ec (a :: l)=ec a++flat ec l:=by simp [flat]
          rw [e,show (k+1)*3=(ec a).length+k*3 by rw [ec_len];omega,List.take_length_add_append,List.drop_length_add_append,(ih k).1,(ih k).2]
          exact ⟨by simp [flat],by simp⟩
    unfold insL
    rw [(ht qs i).1,(ht qs i).2]
    simp [flat]
  rw [hfl]
  have ho':=ho
  obtain ⟨hlen,hh | ⟨g,c,cur,rfl,hg,hb2,h1,h2,h3,h4⟩⟩:=ho'
  · obtain ⟨rfl,rfl⟩:=hh
    obtain rfl:i=0:=by omega
    exact insert_end base none 0 0 (flat ec qs) vb (ec q) w ho hb (ec_len q) hone (by omega) hbw
  · by_cases hin:i=n
    · subst hin
      exact insert_end base _ i c (flat ec qs) vb (ec q) w ho hb (ec_len q) hone hn hbw
    · have hvg:vb≠g:=fun e=>hvb (by rw [e];rfl)
      by_cases hc:n+1≤c
      · exact insert_room base g n c i cur (flat ec qs) vb (ec q) w hg hb2 hc h2 h3 h4 hb (ec_len q) hone (ec_one qs) (by omega) hn hvg
      · obtain rfl:c=n:=by omega
        exact insert_grow base g c i cur (flat ec qs) vb (ec q) w hg hbw hb2 h3 h4 hb (ec_len q) hone (ec_one qs) (by omega) hn
set_option maxHeartbeats 1600000 in
theorem esame_any (x y:En) (A A':Option Addr) (n c n' c':Nat) (w:World) (hx:Lq w A n c x.ls) (hy:Lq w A' n' c' y.ls) :
    Calls Tryz.prog 120 #[.agg #[.string x.key,.int .i64 x.day,.slice A n c],.agg #[.string y.key,.int .i64 y.day,.slice A' n' c']] w fun e w'=>e=.returned (.bool (decide (x=y)))∧Mor w w':=by
  have HE:=Lib.hid (fun w' (h:Mor w w')=>equal_dec A A' n c n' c' x.ls y.ls w' (hx.si.mor h) (hy.si.mor h) hx.length hy.length (Nat.le_trans hx.le hx.max))
  have HD:=Lib.hid (en_eq x y)
  clear hx hy
  generalize decide (x=y)=r at *
  generalize decide (x.ls=y.ls)=b at *
  generalize x.key=s at *
  generalize y.key=t at *
  generalize x.day=d at *
  generalize y.day=d' at *
  by_cases h1:s=t
  · subst h1
    by_cases h2:d=d'
    · subst h2
      go_enter Tryz.func120,Tryz.ntmps120
      go_wp2_with ((go_at_call 165;(with_reducible refine (HE.out _ ((Mor.refl _).alloc.alloc)).mono ?_);rintro e w1 ⟨rfl,m,rfl⟩))
      go_ret
      exact ⟨by rw [HD.out] <;> simp,(Mor.refl _).alloc.alloc.drewN⟩
    · have hd:(d == d')=false:=by simpa using h2
      go_enter Tryz.func120,Tryz.ntmps120
      go_wp2_with fail
      go_ret
      exact ⟨by rw [HD.out] <;> simp [h2],(Mor.refl _).alloc.alloc⟩
  · have hst:(s.toList == t.toList)=false:=by rw [str_eq];exact decide_eq_false h1
    go_enter Tryz.func120,Tryz.ntmps120
    go_wp2_with fail
    go_ret
    exact ⟨by rw [HD.out] <;> simp [h1],(Mor.refl _).alloc.alloc⟩
theorem put3 {w W w9:World} {bR:Nat} {T:TypeId} {a b c:Value} (u0 u1 u2:Value) (hM:Mor w W) (hR:Bk W bR T #[a,b,c]) (hb:w.heap.size≤bR) (h:w9=((W.setCell ⟨bR,0,none⟩ u0).setCell ⟨bR,1,none⟩ u1).setCell ⟨bR,2,none⟩ u2) :
    (w9.cell? ⟨bR,0,none⟩=some u0∧w9.cell? ⟨bR,1,none⟩=some u1∧w9.cell? ⟨bR,2,none⟩=some u2)∧Mor w w9:=by
  have hB:=((hR.set_ 0 u0).set_ 1 u1).set_ 2 u2
  rw [← h] at hB
  refine ⟨⟨by rw [hB.cell];rfl,by rw [hB.cell];rfl,by rw [hB.cell];rfl⟩,?_⟩
  rw [h]
  exact Mor.of_below (((hM.below.setCell (p:=⟨bR,0,none⟩) hb _).setCell (p:=⟨bR,1,none⟩) hb _).setCell (p:=⟨bR,2,none⟩) hb _)
theorem OwnE.setlt {w:World} {base g i:Nat} {u:Value} {q:Ev} {x:En} (h:OwnE w base q x) (hg:g < base):OwnE (w.setCell ⟨g,i,none⟩ u) base q x:=⟨h.key,h.day,own_set h.row hg,h.len,h.ks,h.str⟩
theorem OwnE.setT {w:World} {base g i:Nat} {u:Value} {q:Ev} {x:En} {T:TypeId} {cs:Array Value} (h:OwnE w base q x) (hb:Bk w g T cs) (hT:149≠T):OwnE (w.setCell ⟨g,i,none⟩ u) base q x:=⟨h.key,h.day,own_setT h.row hb hT,h.len,h.ks,h.str⟩
theorem OwnEs.setlt {w:World} {base g i m:Nat} {u v:Value} {qs:List Ev} {es:List En} (h:OwnEs w base v m qs es) (hg:g < base):OwnEs (w.setCell ⟨g,i,none⟩ u) base v m qs es:=⟨own_set h.row hg,h.ql,h.el,fun i hi=>(h.ent i hi).setlt hg⟩
theorem OwnEs.setT {w:World} {base g i m:Nat} {u v:Value} {qs:List Ev} {es:List En} {cs:Array Value} (h:OwnEs w base v m qs es) (hb:Bk w g 37 cs):OwnEs (w.setCell ⟨g,i,none⟩ u) base v m qs es:=⟨own_setT h.row hb (by decide),h.ql,h.el,fun i hi=>(h.ent i hi).setT hb (by decide)⟩
theorem OwnB.setlt {w:World} {base g i n m:Nat} {u vA vX:Value} {b:Bok} (h:OwnB w base vA vX n m b) (hg:g < base):OwnB (w.setCell ⟨g,i,none⟩ u) base vA vX n m b:=by
  obtain ⟨qs,hq⟩:=h.es
  exact ⟨own_set h.ac hg,h.al,h.astr,qs,hq.setlt hg⟩
theorem OwnB.setT {w:World} {base g i n m:Nat} {u vA vX:Value} {b:Bok} {cs:Array Value} (h:OwnB w base vA vX n m b) (hb:Bk w g 37 cs):OwnB (w.setCell ⟨g,i,none⟩ u) base vA vX n m b:=by
  obtain ⟨qs,hq⟩:=h.es
  exact ⟨own_setT h.ac hb (by decide),h.al,h.astr,qs,hq.setT hb⟩
theorem OwnE.base {w:World} {base base':Nat} {q:Ev} {x:En} (h:OwnE w base q x) (hb:base'≤base):OwnE w base' q x:=⟨h.key,h.day,own_base h.row hb,h.len,h.ks,h.str⟩
theorem OwnEs.base {w:World} {base base' m:Nat} {v:Value} {qs:List Ev} {es:List En} (h:OwnEs w base v m qs es) (hb:base'≤base):OwnEs w base' v m qs es:=⟨own_base h.row hb,h.ql,h.el,fun i hi=>(h.ent i hi).base hb⟩
theorem OwnB.base {w:World} {base base' n m:Nat} {vA vX:Value} {b:Bok} (h:OwnB w base vA vX n m b) (hb:base'≤base):OwnB w base' vA vX n m b:=by
  obtain ⟨qs,hq⟩:=h.es
  exact ⟨own_base h.ac hb,h.al,h.astr,qs,hq.base hb⟩
theorem getD_ins {α:Type} (l:List α) (x d:α) (i k:Nat) (hi:i≤l.length):(l.take i++x :: l.drop i).getD k d=if k < i then l.getD k d else if k=i then x else l.getD (k - 1) d:=by
  have ht:(l.take i).length=i:=by rw [List.length_take];omega
  rw [List.getD_eq_getElem?_getD]
  by_cases h1:k < i
  · rw [if_pos h1,List.getElem?_append_left (by omega),List.getElem?_take,if_pos h1,List.getD_eq_getElem?_getD]
  · rw [if_neg h1,List.getElem?_append_right (by omega),ht]
    by_cases h2:k=i
    · subst h2;rw [if_pos rfl,Nat.sub_self];rfl
    · rw [if_neg h2]
      obtain ⟨j,hj⟩:∃ j,k - i=j+1:=⟨k - i - 1,by omega⟩
      rw [hj,List.getElem?_cons_succ,List.getElem?_drop,List.getD_eq_getElem?_getD,show i+j=k - 1 by omega]
theorem OwnEs.insert {w:World} {base m:Nat} {v':Value} {qs:List Ev} {es:List En} {q:Ev} {x:En} (i:Nat) (hi:i≤m) (hq:qs.length=m) (he:es.length=m) (hrow:w.ownsRow base 111 3 v' (m+1) (flat ec (qs.take i++q :: qs.drop i))) (hent:∀ k,k < m→OwnE w base (qe qs k) (ne es k)) (hx:OwnE w base q x) :
    OwnEs w base v' (m+1) (qs.take i++q :: qs.drop i) (es.take i++x :: es.drop i):=by
  refine ⟨hrow,?_,?_,fun k hk=>?_⟩
  · rw [List.length_append,List.length_cons,List.length_take,List.length_drop];omega
  · rw [List.length_append,List.length_cons,List.length_take,List.length_drop];omega
  · have e1:qe (qs.take i++q :: qs.drop i) k=if k < i then qe qs k else if k=i then q else qe qs (k - 1):=getD_ins qs q ev0 i k (by omega)
    have e2:ne (es.take i++x :: es.drop i) k=if k < i then ne es k else if k=i then x else ne es (k - 1):=getD_ins es x en0 i k (by omega)
    rw [e1,e2]
    by_cases h1:k < i
    · rw [if_pos h1,if_pos h1];exact hent k (by omega)
    · rw [if_neg h1,if_neg h1]
      by_cases h2:k=i
      · rw [if_pos h2,if_pos h2];exact hx
      · rw [if_neg h2,if_neg h2];exact hent (k - 1) (by omega)
end Go.Proofs.YtdhbkifpodekcaaGreatDoor
