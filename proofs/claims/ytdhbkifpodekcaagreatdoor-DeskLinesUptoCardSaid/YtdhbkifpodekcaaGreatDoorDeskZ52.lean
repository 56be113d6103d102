/- Texts of this claim. -/
import Derived.Test.YtdhbkifpodekcaaGreatDoorDeskZ50
import Derived.Test.YtdhbkifpodekcaaGreatDoorDeskZ51
namespace Go.Proofs.YtdhbkifpodekcaaGreatDoor
open Go Go.ChangeShapes Go.WideShapes Go.ChangeAt Go.RowKit Go.PlainAid
set_option linter.unusedVariables false
set_option maxRecDepth 100000
theorem errB_ub (c:Int):ub (errB c)=[101,114,114,111,114,32]++Lib.itoa c:=by simp [errB,ub]
theorem good_err {c:Int} (hc:CB c):Good (ub (errB c)):=by
  rw [errB_ub]
  refine ⟨?_,fun h=>?_,.inr ⟨_,rfl⟩⟩
  · have:=itoa_len c 2 (by omega) (by have:=hc.1;have:=hc.2;omega)
    simp;omega
  · rcases List.mem_append.1 h with h | h
    · exact absurd h (by decide)
    · exact absurd rfl (fine_itoa c 10 h).1
/-- "add 0 1", "date 0", "date -1" -/
def wA : List ByteArray := [{ data := #[97, 100, 100] }, { data := #[48] }, { data := #[49] }]
def wD0:List ByteArray:=[{ data:=#[100,97,116,101] },{ data:=#[48] }]
def wD1:List ByteArray:=[{ data:=#[100,97,116,101] },{ data:=#[45,49] }]
theorem dk0:dk 0=0∧dm 0=1:=by
  have h:IsD 0 0 1:=⟨by omega,by omega,by omega,by decide +kernel,by decide +kernel⟩
  exact ⟨h.dk,h.dm⟩
theorem ad01:ad 0 1=31:=by
  obtain ⟨h1,h2⟩:=dk0
  unfold ad
  rw [h1,h2]
  decide +kernel
theorem numA1:numR wA 1=some 0:=by decide +kernel
theorem numA2:numR wA 2=some 1:=by decide +kernel
theorem numD0:numR wD0 1=some 0:=by decide +kernel
theorem numD1:numR wD1 1=some (-1):=by decide +kernel
theorem rkA:RkR wA rk_add (0,[31]):=by
  refine ⟨⟨cb0,lb1 (by unfold I64;omega)⟩,fun ⟨i,hi,hn⟩=>?_,fun h=>(by cases h),fun h=>absurd rfl h,fun _ _ _ w g n c B m k h hc=>?_⟩
  · obtain rfl | rfl:i=0∨i=1:=by have:i < 2:=hi;omega
    · rw [show 1+0=1 from rfl,numA1] at hn;cases hn
    · rw [show 1+1=2 from rfl,numA2] at hn;cases hn
  · have e:numL wA 1 rk_add.n=[0,1]:=by show numL wA 1 2=_;simp [numL,List.range_succ,numA1,numA2]
    rw [e] at h
    refine rec_add_of 0 1 31 0 _ (by unfold I64;omega) cb0 (fun w ht=>?_) w g n c B m k h hc
    have:=add_yes 0 1 w (by omega) (by omega) (by omega) (by omega) (by rw [dk0.1];omega) (by rw [dk0.1];omega) ht
    rw [ad01] at this
    exact this
theorem rkD0:RkR wD0 rk_date (0,[1600,1,1]):=by
  refine ⟨⟨cb0,by simp,by intro x hx;simp at hx;unfold I64;omega⟩,fun ⟨i,hi,hn⟩=>?_,fun h=>(by cases h),fun h=>absurd rfl h,fun _ _ _ w g n c B m k h hc=>?_⟩
  · obtain rfl:i=0:=by have:i < 1:=hi;omega
    rw [show 1+0=1 from rfl,numD0] at hn;cases hn
  · have e:numL wD0 1 rk_date.n=[0]:=by show numL wD0 1 1=_;simp [numL,List.range_succ,numD0]
    rw [e] at h
    refine rec_date_of 0 1600 1 1 0 _ (by unfold I64;omega) (by unfold I64;omega) (by unfold I64;omega) cb0 (fun w ht=>?_) w g n c B m k h hc
    have:=date_yes 0 w (by omega) (by omega) ht
    rw [show yr 0=1600 by unfold yr;rw [dk0.1];rfl,show mo 0=1 by unfold mo;rw [dk0.1];rfl,dk0.2] at this
    exact this
theorem rkD1:RkR wD1 rk_date (1,[0,0,0]):=by
  refine ⟨⟨by unfold CB;omega,by simp,by intro x hx;simp at hx;unfold I64;omega⟩,fun ⟨i,hi,hn⟩=>?_,fun h=>(by cases h),fun h=>absurd rfl h,fun _ _ _ w g n c B m k h hc=>?_⟩
  · obtain rfl:i=0:=by have:i < 1:=hi;omega
    rw [show 1+0=1 from rfl,numD1] at hn;cases hn
  · have e:numL wD1 1 rk_date.n=[-1]:=by show numL wD1 1 1=_;simp [numL,List.range_succ,numD1]
    rw [e] at h
    exact rec_date_of (-1) 0 0 0 1 _ (by unfold I64;omega) (by unfold I64;omega) (by unfold I64;omega) (by unfold CB;omega) (fun w ht=>date_no (-1) w (by omega)) w g n c B m k h hc
def fixR (ws:List ByteArray):Option (Int × List Int):=if ws=wA then some (0,[31]) else if ws=wD0 then some (0,[1600,1,1]) else if ws=wD1 then some (1,[0,0,0]) else none
theorem fixR_ok {ws:List ByteArray} {rr:Int × List Int} (h:fixR ws=some rr):∃ r,tabF (wdd ws 0).data.toList=some r∧RkR ws r rr:=by
  unfold fixR at h
  split at h
  · rename_i e;subst e;injection h with h;subst h;exact ⟨rk_add,by rfl,rkA⟩
  · split at h
    · rename_i e;subst e;injection h with h;subst h;exact ⟨rk_date,by rfl,rkD0⟩
    · split at h
      · rename_i e;subst e;injection h with h;subst h;exact ⟨rk_date,by rfl,rkD1⟩
      · cases h
def AnsIs (ws:List ByteArray) (F:St→ByteArray × St):Prop :=
  (∀ s,Kst s→Good (ub (F s).1)∧Kst (F s).2)∧(∀ w0 w D s A n c,In w A n c ws→Dk w D s→Tb w0→Mor w0 w→w0.heap.size≤D →
    Calls Tryz.prog 13 #[.pointer (some ⟨D,0,none⟩),.slice A n c] w fun e w'=>e=.returned (.string (F s).1)∧Dk w' D (F s).2∧On D w w') ∧
    ∀ rr,fixR ws=some rr→∀ s,F s=(ansB rr,s)
theorem ans_tab {ws:List ByteArray} {r:Rk} {rr:Int × List Int} (hr:tabF (wdd ws 0).data.toList=some r) (hrr:RkR ws r rr) (hf:∀ rr',fixR ws=some rr'→rr'=rr):∃ F,AnsIs ws F:=by
  refine ⟨fun s=>(ansB rr,s),fun s hs=>⟨?_,hs⟩,fun w0 w D s A n c h hd ht hm hD=>(ans_rk ws r rr hr hrr w D A n c h).mono fun e w' hh=>⟨hh.1,hd.mor hh.2,On.of_mor hh.2⟩,fun rr' h s=>by rw [hf rr' h]⟩
  dsimp only
  unfold ansB
  split
  · exact good_tol hrr.rb.2
  · exact good_err hrr.rb.1
theorem ans_any (ws:List ByteArray) (h1:1≤ws.length) (hsz:∀ s∈ws,s.size≤100000):∃ F,AnsIs ws F:=by
  cases hf:fixR ws with
  | some rr =>
    obtain ⟨r,hr,hrr⟩:=fixR_ok hf
    exact ans_tab hr hrr (fun rr' h=>by rw [hf] at h;exact (Option.some.inj h).symm)
  | none =>
  cases hr:tabF (wdd ws 0).data.toList with
  | some r =>
    obtain ⟨rr,hrr⟩:=rkR_ex ws r (tabF_ok hr).1
    exact ans_tab hr hrr (fun rr' h=>by rw [hf] at h;cases h)
  | none =>
    obtain ⟨R,hB,hR⟩:=rd_any (wdd ws 0) ws h1 hsz
    refine ⟨ansR R ws.length,fun s hs=>?_,fun w0 w D s A n c h hd ht hm hD=>by have:=ans_rd ws R hr hB hR w0 w D s A n c h hd ht hm hD;rw [← h.len] at this;rw [← h.len];exact this,fun rr h=>by rw [hf] at h;cases h⟩
    have h11:Good (ub (errB 11)):=good_err (by unfold CB;omega)
    cases R with
    | none=>exact ⟨h11,hs⟩
    | some r =>
      have hb:=hB r rfl s hs
      unfold ansR
      dsimp only
      split
      · split
        · exact ⟨hb.good (by assumption),hb.kst (by assumption)⟩
        · exact ⟨good_err hb.cb,hs⟩
      · exact ⟨h11,hs⟩
open Classical in
noncomputable def ansF (s:St) (ws:List ByteArray):List UInt8 × St :=
  if h:1≤ws.length∧∀ s∈ws,s.size≤100000 then (ub ((ans_any ws h.1 h.2).choose s).1,((ans_any ws h.1 h.2).choose s).2) else ([111,107],s)
theorem ansF_good (s:St) (ws:List ByteArray) (hs:Kst s):Good (ansF s ws).1∧Kst (ansF s ws).2:=by
  unfold ansF
  split
  · rename_i h
    exact (ans_any ws h.1 h.2).choose_spec.1 s hs
  · exact ⟨by have:=good_ok;exact this,hs⟩
theorem ansF_fix (s:St) (ws:List ByteArray) (h:1≤ws.length∧∀ s∈ws,s.size≤100000) {rr:Int × List Int} (hf:fixR ws=some rr):ansF s ws=(ub (ansB rr),s):=by
  unfold ansF
  rw [dif_pos h,(ans_any ws h.1 h.2).choose_spec.2.2 rr hf s]
theorem ansF_any (ws:List ByteArray) (w0 w:World) (D:Nat) (s:St) (A:Option Addr) (n c:Nat) (h:In w A n c ws) (hd:Dk w D s) (ht:Tb w0) (hm:Mor w0 w) (hD:w0.heap.size≤D) :
    Calls Tryz.prog 13 #[.pointer (some ⟨D,0,none⟩),.slice A n c] w fun e w'=>e=.returned (.string ⟨(ansF s ws).1.toArray⟩)∧Dk w' D (ansF s ws).2∧On D w w':=by
  have hh:1≤ws.length∧∀ s∈ws,s.size≤100000:=⟨by rw [h.len];exact h.one,h.sz⟩
  have:=(ans_any ws hh.1 hh.2).choose_spec.2.1 w0 w D s A n c h hd ht hm hD
  unfold ansF
  rw [dif_pos hh]
  simpa [ub] using this
end Go.Proofs.YtdhbkifpodekcaaGreatDoor
namespace Go.Proofs.YtdhbkifpodekcaaGreatDoor
open Go Go.ChangeShapes Go.WideShapes Go.ChangeAt Go.RowKit Go.PlainAid
set_option linter.unusedVariables false
set_option maxRecDepth 100000
def lns (s:ByteArray):List ByteArray:=if (pcs 10 s).getD ((pcs 10 s).length - 1) ByteArray.empty=ByteArray.empty then (pcs 10 s).take ((pcs 10 s).length - 1) else pcs 10 s
def wds (s:ByteArray):List ByteArray:=(pcs 32 s).filter fun u=>decide (u≠ByteArray.empty)
def keepL (ws:List ByteArray):Bool:=decide (ws≠[]) && decide (wdd ws 0≠({ data:=#[35] }:ByteArray))
def st0:St:=⟨⟨[],[],-1⟩,[]⟩
noncomputable def outT (ls:List ByteArray):List UInt8:=tx 10 (anss ansF st0 ((ls.map wds).filter keepL))
noncomputable def outS (ls:List ByteArray):St:=ends ansF st0 ((ls.map wds).filter keepL)
def err2:ByteArray:={ data:=#[101,114,114,111,114,32,50,10] }
theorem own_oth {w w':World} {B s n b:Nat} {T U Tb':TypeId} {v:Value} {xs:List Value} {cs:Array Value} (h:w.ownsRow B T s v n xs) (hb:Bk w b Tb' cs) (ho:Lib.OthersKept U (some b) w w') (h1:T≠Tb') (h2:T≠U):w'.ownsRow B T s v n xs :=
  own_at h fun g cur hg=>(ho g _ hg (fun e=>by
    injection e with e
    subst e
    unfold Bk at hb
    rw [hb] at hg
    injection hg with hg
    injection hg with _ hg _
    exact h1 hg.symm) (fun c fz e=>by injection e with _ e _;exact h2 e)).trans hg.symm
theorem bk_oth {w w':World} {b g:Nat} {T U:TypeId} {cs:Array Value} (h:Bk w g T cs) (ho:Lib.OthersKept U (some b) w w') (hg:g≠b) (h2:T≠U):Bk w' g T cs :=
  ho g _ h (fun e=>hg (by injection e)) (fun c fz e=>by injection e with _ e _;exact h2 e)
theorem Dk.oth {w w':World} {D b:Nat} {s:St} {cs:Array Value} (h:Dk w D s) (hb:Bk w b 44 cs) (ho:Lib.OthersKept 5 (some b) w w') (hD:D≠b):Dk w' D s:=by
  obtain ⟨A,n,c,X,m,k,P,p,q,h⟩:=h
  obtain ⟨qs,hq⟩:=h.ob.es
  exact ⟨A,n,c,X,m,k,P,p,q,bk_oth h.bk ho hD (by decide),⟨own_oth h.ob.ac hb ho (by decide) (by decide),h.ob.al,h.ob.astr,qs,own_oth hq.row hb ho (by decide) (by decide),hq.ql,hq.el,fun i hi=>by
    have:=hq.ent i hi
    exact ⟨this.key,this.day,own_oth this.row hb ho (by decide) (by decide),this.len,this.ks,this.str⟩⟩,own_oth h.op hb ho (by decide) (by decide),h.pl,h.kst⟩
theorem bld_bk {T e:TypeId} {B b:Nat} {bs:List Value} {w:World} (h:Lib.IsBuilderF T e B b bs w):∃ cs,Bk w b T cs:=by
  rcases h with ⟨_,v,h,_⟩ | ⟨_,v,h,_⟩
  · exact ⟨_,h⟩
  · exact ⟨_,h⟩
theorem bldAt_on {T e:TypeId} {B b D:Nat} {p:Value} {bs:List Value} {w w':World} (h:Lib.BuilderAtF T e B b p bs w) (ho:On D w w') (hD:D < B):Lib.BuilderAtF T e B b p bs w':=by
  obtain ⟨h1,v,h2,h3,h4⟩:=h
  have hg:w.grownBy w' (some D):=⟨ho.os,ho.tape,ho.output,ho.size,fun k hk hne=>ho.block k (fun e=>hne (by rw [e])) hk⟩
  exact ⟨h1,v,(ho.block b (by omega) (Array.getElem?_eq_some_iff.1 h2).1).trans h2,h3.kept hg (by cases hv:v.ownBlock with
    | none=>exact .inl rfl
    | some k=>exact .inr fun e=>by injection e with e;have:=(h3.lt k hv).1;omega),h4⟩
theorem bld_on {T e:TypeId} {B b D:Nat} {bs:List Value} {w w':World} (h:Lib.IsBuilderF T e B b bs w) (ho:On D w w') (hD:D < B):Lib.IsBuilderF T e B b bs w' :=
  h.elim (fun x=>.inl (bldAt_on x ho hD)) (fun x=>.inr (bldAt_on x ho hD))
theorem fresh_bld (T e:TypeId) (w:World):Lib.IsBuilderF T e w.heap.size w.heap.size (Lib.byteCells []) (w.alloc (.cells #[.pointer none,.slice none 0 0] T)) :=
  Lib.IsBuilderF.of (Lib.fresh_isBuilder T e w)
theorem anss_small:∀ (L:List (List ByteArray)) (s:St),Kst s→Kst (ends ansF s L)∧(tx 10 (anss ansF s L)).length≤4001*L.length
  | [],s,h=>⟨h,by simp [anss,tx_nil]⟩
  | ws :: L,s,h=>by
    obtain ⟨h1,h2⟩:=ansF_good s ws h
    obtain ⟨h3,h4⟩:=anss_small L _ h2
    rw [ends,anss]
    refine ⟨h3,?_⟩
    rw [tx_cons,List.length_append,List.length_cons,List.length_cons]
    have:=h1.len
    omega
theorem kst0:Kst st0:=⟨fun x hx=>(by cases hx),by decide,by decide,by decide,fun i hi=>absurd hi (Nat.not_lt_zero _)⟩
theorem outS_kst (ls:List ByteArray):Kst (outS ls):=(anss_small _ st0 kst0).1
theorem outT_len (ls:List ByteArray):(outT ls).length≤4001*ls.length:=by
  refine Nat.le_trans (anss_small _ st0 kst0).2 (Nat.mul_le_mul_left _ ?_)
  refine Nat.le_trans (List.length_filter_le _ _) ?_
  rw [List.length_map]
  exact Nat.le_refl _
theorem outT_skip {ls:List ByteArray} {u:ByteArray} (hk:keepL (wds u)=false):outT (ls++[u])=outT ls∧outS (ls++[u])=outS ls:=by
  unfold outT outS
  rw [List.map_append,List.filter_append,List.map_singleton,List.filter_cons,hk]
  simp
theorem outT_step {ls:List ByteArray} {u:ByteArray} (hk:keepL (wds u)=true):outT (ls++[u])=outT ls++((ansF (outS ls) (wds u)).1++[10])∧outS (ls++[u])=(ansF (outS ls) (wds u)).2:=by
  unfold outT outS
  rw [List.map_append,List.filter_append,List.map_singleton,List.filter_cons,hk,if_pos rfl,List.filter_nil,anss_app,ends_app,tx_app]
  refine ⟨?_,rfl⟩
  rw [anss,anss,tx_cons,tx_nil]
theorem mkSz (l:List UInt8):(⟨l.toArray⟩:ByteArray).size=l.length:=by simp [ByteArray.size]
def fil (l:List ByteArray):List ByteArray:=l.filter fun u=>decide (u≠ByteArray.empty)
theorem fil_snoc_no {l:List ByteArray} {u:ByteArray} (h:u=ByteArray.empty):fil (l++[u])=fil l:=by simp [fil,h]
theorem fil_snoc_yes {l:List ByteArray} {u:ByteArray} (h:u≠ByteArray.empty):fil (l++[u])=fil l++[u]:=by simp [fil,h]
theorem fil_len (l:List ByteArray):(fil l).length≤l.length:=List.length_filter_le _ _
theorem fil_mem {l:List ByteArray} {u:ByteArray} (h:u∈fil l):u∈l:=(List.mem_filter.1 h).1
theorem isE {u:ByteArray}:(u=ByteArray.empty∧u.toList.isEmpty=true)∨(u≠ByteArray.empty∧u.toList.isEmpty=false):=by
  by_cases h:u=ByteArray.empty
  · exact .inl ⟨h,by rw [h,ByteArray.toList_eq];rfl⟩
  · refine .inr ⟨h,str_ne ?_⟩
    rcases Nat.eq_zero_or_pos u.size with h2 | h2
    · exact absurd (ByteArray.size_eq_zero_iff.1 h2) h
    · exact h2
structure RunInv (w wr:World) (us ls:List ByteArray) (D:Nat):Prop where
  mor:Mor w wr
  dD:D=w.heap.size+1
  row:Bk wr w.heap.size 9 (us.map Value.string).toArray
  dk:Dk wr D (outS ls)
  bld:Lib.IsBuilderF 44 5 (D+1) (D+1) (Lib.byteCells (outT ls)) wr
theorem RunInv.to {w wr w':World} {us ls:List ByteArray} {D:Nat} (h:RunInv w wr us ls D) (hm:Mor wr w'):RunInv w w' us ls D :=
  ⟨h.mor.trans' hm,h.dD,h.row.mor hm,h.dk.mor hm,IsBuilderF.mor h.bld hm⟩
theorem runInv0 (w:World) (us:List ByteArray):RunInv w (((w.alloc (.cells (us.map Value.string).toArray 9)).alloc (.cells #[.slice none 0 0,.slice none 0 0,.int .i64 (-1),.slice none 0 0] 40)).alloc (.cells #[.pointer none,.slice none 0 0] 44)) us [] (w.heap.size+1):=by
  have e1:(w.alloc (.cells (us.map Value.string).toArray 9)).heap.size=w.heap.size+1:=by simp
  have e2:((w.alloc (.cells (us.map Value.string).toArray 9)).alloc (.cells #[.slice none 0 0,.slice none 0 0,.int .i64 (-1),.slice none 0 0] 40)).heap.size=w.heap.size+1+1:=by simp
  have b1:=Bk.new w 9 (us.map Value.string).toArray
  have b2:=Bk.new (w.alloc (.cells (us.map Value.string).toArray 9)) 40 #[.slice none 0 0,.slice none 0 0,.int .i64 (-1),.slice none 0 0]
  have b3:=fresh_bld 44 5 ((w.alloc (.cells (us.map Value.string).toArray 9)).alloc (.cells #[.slice none 0 0,.slice none 0 0,.int .i64 (-1),.slice none 0 0] 40))
  rw [e1] at b2
  rw [e2] at b3
  refine ⟨((mor_new _ _).trans' (mor_new _ _)).trans' (mor_new _ _),rfl,b1.mor ((mor_new _ _).trans' (mor_new _ _)),?_,b3⟩
  exact ⟨none,0,0,none,0,0,none,0,0,b2.mor (mor_new _ _),⟨World.ownsRow_nil _ _ _ _,rfl,fun i hi=>absurd hi (Nat.not_lt_zero _),[],World.ownsRow_nil _ _ _ _,rfl,rfl,fun i hi=>absurd hi (Nat.not_lt_zero _)⟩,World.ownsRow_nil _ _ _ _,rfl,kst0⟩
theorem mor_bel {w0 w w':World} {B:Nat} (h:Mor w0 w) (hb:Below B w w') (hB:w0.heap.size≤B):Mor w0 w':=by
  have hm:=h.below
  exact Mor.of_below ⟨hb.os.trans hm.os,hb.tape.trans hm.tape,hb.output.trans hm.output,Nat.le_trans hm.size hb.size,fun k hk=>(hb.block k (Nat.lt_of_lt_of_le hk hB)).trans (hm.block k hk)⟩
theorem RunInv.step {w wx w5 w6 w7:World} {us ls:List ByteArray} {u:ByteArray} {D:Nat} (h:RunInv w wx us ls D) (hk:keepL (wds u)=true) (hd:Dk w5 D (ansF (outS ls) (wds u)).2) (ho:On D wx w5)
    (hb6:Below (D+1) w5 w6) (ho6:Lib.OthersKept 5 (some (D+1)) w5 w6) (hi6:Lib.BuilderAtF 44 5 (D+1) (D+1) (.pointer (some ⟨D+1,0,none⟩)) (Lib.byteCells (outT ls)++Lib.strCells ⟨(ansF (outS ls) (wds u)).1.toArray⟩) w6)
    (hb7:Below (D+1) w6 w7) (ho7:Lib.OthersKept 5 (some (D+1)) w6 w7) (hi7:Lib.BuilderAtF 44 5 (D+1) (D+1) (.pointer (some ⟨D+1,0,none⟩)) (Lib.byteCells (outT ls)++Lib.strCells ⟨(ansF (outS ls) (wds u)).1.toArray⟩++[.int .u8 10]) w7) :
    RunInv w w7 us (ls++[u]) D:=by
  obtain ⟨e1,e2⟩:=outT_step (ls:=ls) hk
  have hD:=h.dD
  obtain ⟨c5,k5⟩:=bld_bk (bld_on h.bld ho (Nat.lt_succ_self D))
  obtain ⟨c6,k6⟩:=bld_bk (.inr hi6)
  refine ⟨mor_bel (mor_bel (On.to_mor h.mor ho (by omega)) hb6 (by omega)) hb7 (by omega),hD,((bk_on h.row ho (by omega)).below hb6 (by omega)).below hb7 (by omega),?_,?_⟩
  · rw [e2]
    exact (hd.oth k5 ho6 (by omega)).oth k6 ho7 (by omega)
  · rw [e1,Lib.byteCells_append,Lib.byteCells_append,← List.append_assoc]
    rw [Lib.strCells_eq] at hi7
    exact .inr hi7
theorem RunInv.skip {w wr:World} {us ls:List ByteArray} {u:ByteArray} {D:Nat} (h:RunInv w wr us ls D) (hk:keepL (wds u)=false):RunInv w wr us (ls++[u]) D:=by
  obtain ⟨e1,e2⟩:=outT_skip (ls:=ls) hk
  exact ⟨h.mor,h.dD,h.row,by rw [e2];exact h.dk,by rw [e1];exact h.bld⟩
theorem lns_cases (s:ByteArray):∃ (N:Nat) (u:ByteArray) (eb:Bool) (k:Nat),(pcs 10 s).length=N∧1≤N∧(pcs 10 s)[N - 1]?=some u∧u.toList.isEmpty=eb∧lns s=(pcs 10 s).take k∧k=(lns s).length∧((eb=true∧k=N - 1)∨(eb=false∧k=N)):=by
  have hl:=pcs_len 10 s
  refine ⟨_,(pcs 10 s).getD ((pcs 10 s).length - 1) ByteArray.empty,_,(lns s).length,rfl,by omega,?_,rfl,?_⟩
  · rw [List.getD_eq_getElem?_getD,List.getElem?_eq_getElem (by omega)];rfl
  unfold lns
  generalize hu:(pcs 10 s).getD ((pcs 10 s).length - 1) ByteArray.empty=u
  by_cases hE:u=ByteArray.empty
  · rw [if_pos hE]
    have h2:((pcs 10 s).take ((pcs 10 s).length - 1)).length=(pcs 10 s).length - 1:=by rw [List.length_take];omega
    rw [h2]
    exact ⟨rfl,rfl,.inl ⟨by rw [hE,ByteArray.toList_eq];rfl,rfl⟩⟩
  · rw [if_neg hE]
    refine ⟨by rw [List.take_length],rfl,.inr ⟨str_ne ?_,rfl⟩⟩
    rcases Nat.eq_zero_or_pos u.size with h | h
    · exact absurd (ByteArray.size_eq_zero_iff.1 h) hE
    · exact h
set_option maxHeartbeats 6400000 in
theorem dRun_no (s:ByteArray) (w:World) (hs:s.size≤1048576) (ht:Tb w) (hb:65536 < s.size∨200 < (lns s).length) :
    Calls Tryz.prog 5 #[.string s] w fun e w'=>e=.returned (.string err2)∧Mor w w':=by
  obtain ⟨N,u,eb,k,hN,h1,hu,hE,hL,hk,hc⟩:=lns_cases s
  rw [← hk] at hb
  have hm:N≤1048577:=by have:=pcs_few 10 s;omega
  have hcell:(w.alloc (.cells ((pcs 10 s).map Value.string).toArray 9)).cell? ⟨w.heap.size,N - 1,none⟩=some (.string u):=by
    rw [(Bk.new w 9 ((pcs 10 s).map Value.string).toArray).cell (N - 1),List.getElem?_toArray,List.getElem?_map,hu];rfl
  have HS:=Lib.hid (splitC_any 10 s w (by omega) ht)
  have hm0:(0:Int)≤(N:Int) - 1:=by omega
  have hm1:(N:Int) - 1 < (N:Int):=by omega
  rw [hN] at HS
  generalize ((pcs 10 s).map Value.string).toArray=L at *
  clear ht hu hL hN hk
  rcases hc with ⟨rfl,rfl⟩ | ⟨rfl,rfl⟩
  all_goals (
    by_cases hsz:(65536:Int) < (s.size:Int)
    all_goals (
      go_enter Tryz.func5,Tryz.ntmps5
      go_wp2_with fail
      refine HS.out.mono ?_
      rintro e w1 ⟨rfl,rfl⟩
      go_wp2_with fail))
  all_goals (go_returns;exact ⟨rfl,mor_new _ _⟩)
set_option maxHeartbeats 6400000 in
theorem dRun_yes (s:ByteArray) (w:World) (hs:s.size≤65536) (ht:Tb w) (htab:Tab w) (hb:(lns s).length≤200) :
    Calls Tryz.prog 5 #[.string s] w fun e w'=>e=.returned (.string ⟨(outT (lns s)).toArray⟩)∧Mor w w':=by
  obtain ⟨N,u,eb,k,hN,h1,hu,hE,hL,hk,hc⟩:=lns_cases s
  rw [← hk] at hb
  have hm:N≤1048577:=by have:=pcs_few 10 s;omega
  have hcell:(w.alloc (.cells ((pcs 10 s).map Value.string).toArray 9)).cell? ⟨w.heap.size,N - 1,none⟩=some (.string u):=by
    rw [(Bk.new w 9 ((pcs 10 s).map Value.string).toArray).cell (N - 1),List.getElem?_toArray,List.getElem?_map,hu];rfl
  have HS:=Lib.hid (splitC_any 10 s w (by omega) ht)
  have hm0:(0:Int)≤(N:Int) - 1:=by omega
  have hm1:(N:Int) - 1 < (N:Int):=by omega
  rw [hN] at HS
  have HT:=Lib.hid ht
  have HTab:=Lib.hid htab
  have HL:=Lib.hid hL
  have HN:=Lib.hid hN
  have HSz:=Lib.hid (fun u (hu:u∈pcs 10 s)=>show u.size≤65536 by have:=pcs_size 10 hu;omega)
  obtain ⟨us,hus⟩:∃ us,us=pcs 10 s:=⟨_,rfl⟩
  obtain ⟨L,hLL⟩:∃ L,L=((pcs 10 s).map Value.string).toArray:=⟨_,rfl⟩
  have HLL:=Lib.hid hLL
  rw [← hLL] at HS hcell
  rw [← hus] at HL HN HSz HLL
  clear ht hu hL hN htab hus hLL
  have hs1:¬ (65536:Int) < (s.size:Int):=by omega
  have hk1:¬ (200:Int) < (k:Int):=by omega
  have HK:=Lib.hid hk
  have hkN:k≤N:=by omega
  clear hk
  generalize lns s=ls at *
  rcases hc with ⟨rfl,rfl⟩ | ⟨rfl,rfl⟩
  all_goals (
    go_enter Tryz.func5,Tryz.ntmps5
    go_wp2_with fail
    refine HS.out.mono ?_
    rintro e w1 ⟨rfl,rfl⟩
    go_wp2_with fail)
  all_goals (
    (try generalize N - 1=k at *)
    clear hcell HS
    have HI0:=runInv0 w us
    rw [← HLL.out] at HI0
    obtain ⟨wI,hwI⟩:∃ x,x=(((w.alloc (.cells L 9)).alloc (.cells #[.slice none 0 0,.slice none 0 0,.int .i64 (-1),.slice none 0 0] 40)).alloc (.cells #[.pointer none,.slice none 0 0] 44)):=⟨_,rfl⟩
    rw [← hwI] at HI0 ⊢
    clear hwI
    have HI:=Lib.hid HI0
    clear HI0
    go_loopw [39] (fun i wr=>∃ j:Nat,j≤k∧i=.int .i64 j∧Hid (RunInv w wr us (us.take j) (w.heap.size+1))) (fun i _=>k - (intOf i).toNat)
    case atStart=>exact ⟨0,Nat.zero_le _,rfl,HI⟩
    case round =>
      obtain ⟨j,hj,rfl,HJ⟩:=hrel
      clear HI
      by_cases hlt:j < k
      · have hji:(j:Int) < (k:Int):=by omega
        have hj0:(0:Int)≤(j:Int):=by omega
        have hjl:j < us.length:=by have:=HN.out;omega
        obtain ⟨u',hu'⟩:∃ u',u'=us[j]:=⟨_,rfl⟩
        have hcl:wr.cell? ⟨w.heap.size,j,none⟩=some (.string u'):=by
          rw [HJ.out.row.cell j,List.getElem?_toArray,List.getElem?_map,List.getElem?_eq_getElem hjl,hu'];rfl
        have hsl:=HJ.out.row.lt
        have hsz:u'.size≤65536:=HSz.out u' (by rw [hu'];exact List.getElem_mem hjl)
        have HTk:=Lib.hid (show us.take (j+1)=us.take j++[u'] by rw [List.take_succ_eq_append_getElem hjl,hu'])
        have HSp:=Lib.hid (splitC_any 32 u' wr (by omega) (HT.out.mor HJ.out.mor))
        clear hu'
        go_wp2_with fail
        refine HSp.out.mono ?_
        rintro e w2 ⟨rfl,rfl⟩
        obtain ⟨vs,hvs⟩:∃ vs,vs=pcs 32 u':=⟨_,rfl⟩
        obtain ⟨M,hM⟩:∃ M,M=vs.length:=⟨_,rfl⟩
        have hM2:M≤65537:=by have:=pcs_few 32 u';rw [hM,hvs];omega
        have HVz:=Lib.hid (show ∀ x∈vs,x.size≤65536 from fun x hx=>by rw [hvs] at hx;have:=pcs_size 32 hx;omega)
        have HV:=Lib.hid (show wds u'=fil vs by rw [hvs];rfl)
        rw [← hvs,← hM]
        have HM:=Lib.hid hM
        have HS2:=Lib.hid (Bk.new wr 9 (vs.map Value.string).toArray)
        have HM2:=Lib.hid (mor_new wr (.cells (vs.map Value.string).toArray 9))
        clear hvs hM
        generalize wr.alloc (.cells (vs.map Value.string).toArray 9)=w2 at *
        generalize wr.heap.size=bS at *
        obtain ⟨i0,hi0,hz0,hz1,hz2⟩:=info_parts info_str
        go_wp2_with fail
        go_loopw [9,46] (fun v i wx=>∃ (q:Nat) (A':Option Addr) (n' c':Nat),q≤M∧i=.int .i64 q∧v=.slice A' n' c'∧Hid (n'=(fil (vs.take q)).length∧wx.ownsRow w2.heap.size 9 1 (.slice A' n' c') n' ((fil (vs.take q)).map Value.string)∧Mor w2 wx)) (fun _ i _=>M - (intOf i).toNat)
        case atStart=>exact ⟨0,none,0,0,Nat.zero_le _,rfl,rfl,Lib.hid ⟨rfl,World.ownsRow_nil _ _ _ _,Mor.refl _⟩⟩
        case round =>
          obtain ⟨q,A',n',c',hq,rfl,rfl,HQ⟩:=hrel
          by_cases hlq:q < M
          · have hqi:(q:Int) < (M:Int):=by omega
            have hq0:(0:Int)≤(q:Int):=by omega
            have hql:q < vs.length:=by have:=HM.out;omega
            obtain ⟨x,hx⟩:∃ x,x=vs[q]:=⟨_,rfl⟩
            have hS:=HS2.out.mor HQ.out.2.2
            have hcx:wr.cell? ⟨bS,q,none⟩=some (.string x):=by
              rw [hS.cell q,List.getElem?_toArray,List.getElem?_map,List.getElem?_eq_getElem hql,hx];rfl
            have hSl:=hS.lt
            have HTq:=Lib.hid (show vs.take (q+1)=vs.take q++[x] by rw [List.take_succ_eq_append_getElem hql,hx])
            have hn':n'≤65537:=by
              have:=fil_len (vs.take q);have:=HQ.out.1;have:(vs.take q).length≤q:=by rw [List.length_take];omega
              omega
            clear hx hS
            rcases @isE x with ⟨hxe,hxt⟩ | ⟨hxe,hxt⟩
            · go_wp2_with fail
              go_roundw
              case rel=>exact ⟨q+1,A',n',c',by omega,by go_num,rfl,Lib.hid (by rw [HTq.out,fil_snoc_no hxe];exact HQ.out)⟩
              case measure=>simp [intOf] <;> omega
            · have HF:=Lib.hid (show fil (vs.take (q+1))=fil (vs.take q)++[x] by rw [HTq.out,fil_snoc_yes hxe])
              have HO1':=Lib.hid (own_mor HQ.out.2.1 (mor_new wr (.cells #[.string x] 9)))
              have hbz:w2.heap.size≤(wr.alloc (.cells #[.string x] 9)).heap.size:=by have:=HQ.out.2.2.below.size;simp;omega
              clear hxe
              go_wp2_with (at_builtin;refine wpList_append_own _ rfl _ _ 26 rfl w2.heap.size 9 i0 (.string { data:=#[] }) 1 16 Tryz.underlying26 hi0 hz0 hz1 hz2 rfl (by decide) _ n' ((fil (vs.take q)).map Value.string) rfl HO1'.out ⟨wr.heap.size,0,none⟩ 1 1 [.string x] rfl rfl (lit_at _ _ _ rfl rfl) (by intro x hx;simp at hx;subst hx;rfl) (by unfold maxLen;omega) (by omega) hbz ?_)
              intro u7 w7 hown7 hgrow7 _
              obtain ⟨A7,c7,rfl,_,_,_⟩:=own_shape hown7
              have HR7:=Lib.hid (show n'+1=(fil (vs.take (q+1))).length∧w7.ownsRow w2.heap.size 9 1 (.slice A7 (n'+1) c7) (n'+1) ((fil (vs.take (q+1))).map Value.string)∧Mor w2 w7 from by
                rw [HF.out]
                refine ⟨by rw [List.length_append,← HQ.out.1];rfl,by rw [List.map_append];exact hown7,own_step HO1'.out (HQ.out.2.2.trans' (mor_new _ _)) hgrow7⟩)
              clear hown7 hgrow7 HO1' hbz
              go_simp
              go_wp2_with fail
              go_roundw
              case rel=>exact ⟨q+1,A7,n'+1,c7,by omega,by go_num,rfl,HR7⟩
              case measure=>simp [intOf] <;> omega
          · obtain rfl:q=M:=by omega
            have HAll:=Lib.hid (show vs.take q=vs by rw [HM.out];exact List.take_length)
            have hQ:=HQ.out
            rw [HAll.out,← HV.out] at hQ
            have HQ2:=Lib.hid hQ
            clear HQ hQ
            by_cases h0:wds u'=[]
            · have hz:n'=0:=by have:=HQ2.out.1;rw [h0] at this;exact this
              have hk:keepL (wds u')=false:=by unfold keepL;rw [h0];rfl
              have HI':=Lib.hid ((HJ.out.to (HM2.out.trans' HQ2.out.2.2)).skip hk)
              clear HQ2 h0 hk
              subst hz
              go_wp2_with fail
              go_roundw
              case rel=>exact ⟨j+1,by omega,by go_num,by rw [HTk.out];exact HI'⟩
              case measure=>simp [intOf] <;> omega
            · have hn0:0 < n':=by rw [HQ2.out.1];exact List.length_pos_iff.2 h0
              have hnz:¬ n'=0:=by omega
              obtain ⟨A'',c'',e,hcc,hRd,_⟩:=own_shape HQ2.out.2.1
              injection e with e1 _ e2
              subst e1 e2
              have hRs:Rs wr A' (wds u'):=hRd
              obtain ⟨ab,ao,rfl,hab,hac⟩:=rd_str hRs 0 (by rw [← HQ2.out.1];exact hn0)
              have HIn:=Lib.hid hRs
              have HJ2:=Lib.hid (HJ.out.to (HM2.out.trans' HQ2.out.2.2))
              have HN2:=Lib.hid HQ2.out.1
              have H0:=Lib.hid h0
              have hac:wr.cell? ⟨ab,ao,none⟩=some (.string (wdd (wds u') 0)):=hac
              clear hRd hRs HQ2 h0
              obtain ⟨s0,hs0⟩:∃ x,x=wdd (wds u') 0:=⟨_,rfl⟩
              rw [← hs0] at hac
              by_cases h1:s0=({ data:=#[35] }:ByteArray)
              · have hk:keepL (wds u')=false:=by unfold keepL;rw [← hs0,h1];simp
                have HI':=Lib.hid (HJ2.out.skip hk)
                clear hk hs0 HJ2
                subst h1
                go_wp2_with fail
                go_roundw
                case rel=>exact ⟨j+1,by omega,by go_num,by rw [HTk.out];exact HI'⟩
                case measure=>simp [intOf] <;> omega
              · have hk:keepL (wds u')=true:=by unfold keepL;rw [← hs0];simp [h1,H0.out]
                have HKp:=Lib.hid hk
                have h35:=str_no (l:=[35]) h1
                clear hk hs0 h1
                go_wp2_with fail
                have hlen:n'≤65537:=by have h1:=fil_len vs;have h2:=HM.out;have h3:=HN2.out;rw [HV.out] at h3;omega
                have hsz2:w.heap.size+1+1≤wr.heap.size:=by
                  obtain ⟨cs,hb'⟩:=bld_bk HJ2.out.bld
                  have:=hb'.lt
                  omega
                have HAn:=Lib.hid (ansF_any (wds u') w wr (w.heap.size+1) (outS (us.take j)) (some ⟨ab,ao,none⟩) n' c' ⟨HIn.out,HN2.out.symm,hn0,hcc,by omega,fun x hx=>by rw [HV.out] at hx;have:=HVz.out x (fil_mem hx);omega,HT.out.mor HJ2.out.mor,HTab.out.mor HJ2.out.mor⟩ HJ2.out.dk HT.out HJ2.out.mor (by omega))
                have HLn:=Lib.hid (outT_len (us.take j))
                have hjl2:(us.take j).length≤200:=by rw [List.length_take];omega
                have hgl:=(ansF_good (outS (us.take j)) (wds u') (outS_kst _)).1.len
                refine HAn.out.mono ?_
                rintro e w5 ⟨rfl,hd5,ho5⟩
                have HD5:=Lib.hid hd5
                have HO5:=Lib.hid ho5
                have HW6:=Lib.hid (Sh.Builder_WriteString_k (w.heap.size+1+1) (w.heap.size+1+1) _ ⟨(ansF (outS (us.take j)) (wds u')).1.toArray⟩ w5 (bld_on HJ2.out.bld ho5 (Nat.lt_succ_self _)) (by rw [Lib.byteCells_length,mkSz];have:=HLn.out;omega) (by have:=ho5.size;omega))
                have hs5:=ho5.size
                clear hd5 ho5 hac
                go_wp2_with fail
                refine HW6.out.mono ?_
                rintro e w6 ⟨rfl,hi6,hb6,ho6⟩
                have HB6:=Lib.hid (And.intro hb6 (And.intro ho6 hi6))
                have HW7:=Lib.hid (Sh.Builder_WriteByte_k (w.heap.size+1+1) (w.heap.size+1+1) _ 10 w6 (.inr hi6) (by rw [List.length_append,Lib.byteCells_length,Lib.strCells_length,mkSz];have:=HLn.out;omega) (by have:=hb6.size;omega))
                clear hi6 hb6 ho6
                go_wp2_with fail
                refine HW7.out.mono ?_
                rintro e w7 ⟨rfl,hi7,hb7,ho7⟩
                have HI':=Lib.hid (HJ2.out.step HKp.out HD5.out HO5.out HB6.out.1 HB6.out.2.1 HB6.out.2.2 hb7 ho7 hi7)
                clear hi7 hb7 ho7
                go_wp2_with fail
                go_roundw
                case rel=>exact ⟨j+1,by omega,by go_num,by rw [HTk.out];exact HI'⟩
                case measure=>simp [intOf] <;> omega
      · obtain rfl:j=k:=by omega
        have hsz2:w.heap.size+1+1≤wr.heap.size:=by
          obtain ⟨cs,hb'⟩:=bld_bk HJ.out.bld
          have:=hb'.lt
          omega
        have HSg:=Lib.hid (Sh.Builder_String_any_k _ _ _ wr HJ.out.bld hsz2)
        go_wp2_with fail
        refine HSg.out.mono ?_
        rintro e w9 ⟨rfl,-,hb9,-⟩
        have HB9:=Lib.hid (mor_bel HJ.out.mor hb9 (by omega))
        clear hb9
        go_wp2_with fail
        go_returns
        exact ⟨by rw [HL.out];rfl,HB9.out⟩)
noncomputable def dRunB (s:ByteArray):ByteArray:=if s.size≤65536∧(lns s).length≤200 then ⟨(outT (lns s)).toArray⟩ else err2
theorem dRun_any (s:ByteArray) (w:World) (hs:s.size≤1048576) (ht:Tb w) (tab:Tab w) :
    Calls Tryz.prog 5 #[.string s] w fun e w'=>e=.returned (.string (dRunB s))∧Mor w w':=by
  unfold dRunB
  by_cases h:s.size≤65536∧(lns s).length≤200
  · rw [if_pos h];exact dRun_yes s w h.1 ht tab h.2
  · rw [if_neg h];exact dRun_no s w hs ht (by omega)
theorem dRunB_ub {s:ByteArray} (h:dRunB s≠err2):s.size≤65536∧(lns s).length≤200∧ub (dRunB s)=outT (lns s):=by
  unfold dRunB at h ⊢
  split
  · rename_i h2
    exact ⟨h2.1,h2.2,by simp [ub]⟩
  · rename_i h2
    rw [if_neg h2] at h
    exact absurd rfl h
theorem pcs_ub {c:UInt8} {s:ByteArray} {L:List (List UInt8)} {R:List UInt8} (h:ub s=tx c L++R) (hL:∀ l∈L,c ∉ l) (hR:c ∉ R):(pcs c s).map ub=L++[R]:=by
  have hc:Lib.countB s ⟨#[c]⟩=L.length:=by
    show Lib.count (ub s) [c]=_
    rw [h];exact count_tx c hL hR
  have:=Lib.splitB_data ⟨#[c]⟩ 0 (Lib.countB s ⟨#[c]⟩) s
  rw [hc] at this
  show ((Lib.splitB ⟨#[c]⟩ 0 (Lib.countB s ⟨#[c]⟩) s).map fun x=>x.data.toList)=_
  rw [hc,this]
  show Lib.splitK [c] 0 L.length (ub s)=_
  rw [h,splitK_tx c 0 (by omega) R hR L _ hL (Nat.le_refl _)]
  congr 1
  exact (List.map_congr_left fun l _=>(show pce c 0 l=id l by unfold pce;rw [if_pos rfl];rfl)).trans (List.map_id _)
def aft (s:ByteArray):List ByteArray:=Lib.splitB ⟨#[10]⟩ 1 (Lib.countB s ⟨#[10]⟩) s
theorem aft_ub {s:ByteArray} {L:List (List UInt8)} {R:List UInt8} (h:ub s=tx 10 L++R) (hL:∀ l∈L,(10:UInt8) ∉ l) (hR:(10:UInt8) ∉ R):(aft s).map ub=L.map (·++[10])++[R]:=by
  have hc:Lib.countB s ⟨#[10]⟩=L.length:=by
    show Lib.count (ub s) [10]=_
    rw [h];exact count_tx 10 hL hR
  have:=Lib.splitB_data ⟨#[10]⟩ 1 (Lib.countB s ⟨#[10]⟩) s
  rw [hc] at this
  unfold aft
  show ((Lib.splitB ⟨#[10]⟩ 1 (Lib.countB s ⟨#[10]⟩) s).map fun x=>x.data.toList)=_
  rw [hc,this]
  show Lib.splitK [10] 1 L.length (ub s)=_
  rw [h,splitK_tx 10 1 (by omega) R hR L _ hL (Nat.le_refl _)]
  congr 1
theorem txs (c:UInt8) (s:ByteArray):∃ L R,ub s=tx c L++R∧(∀ l∈L,c ∉ l)∧c ∉ R:=tx_of c (ub s)
theorem lns_ub {s:ByteArray} {L:List (List UInt8)} {R:List UInt8} (h:ub s=tx 10 L++R) (hL:∀ l∈L,(10:UInt8) ∉ l) (hR:(10:UInt8) ∉ R):(lns s).map ub=if R=[] then L else L++[R]:=by
  have hp:=pcs_ub h hL hR
  have hl:(pcs 10 s).length=L.length+1:=by have:=congrArg List.length hp;simpa using this
  have hlast:ub ((pcs 10 s).getD ((pcs 10 s).length - 1) ByteArray.empty)=R:=by
    rw [hl,Nat.add_sub_cancel,List.getD_eq_getElem?_getD,List.getElem?_eq_getElem (by omega),Option.getD_some]
    have e:((pcs 10 s).map ub)[L.length]?=some R:=by rw [hp];simp
    rw [List.getElem?_map,List.getElem?_eq_getElem (by omega)] at e
    simpa using e
  unfold lns
  by_cases hE:(pcs 10 s).getD ((pcs 10 s).length - 1) ByteArray.empty=ByteArray.empty
  · have hR0:R=[]:=by rw [← hlast,hE];rfl
    rw [if_pos hE,if_pos hR0,List.map_take,hp,hl,Nat.add_sub_cancel]
    simp
  · have hR0:R≠[]:=fun e=>hE (ub_inj (by rw [hlast,e];rfl))
    rw [if_neg hE,if_neg hR0,hp]
theorem map_ub_inj:∀ {a b:List ByteArray},a.map ub=b.map ub→a=b
  | [],[],_=>rfl
  | [],_ :: _,h=>by cases h
  | _ :: _,[],h=>by cases h
  | x :: a,y :: b,h=>by
    rw [List.map_cons,List.map_cons] at h
    injection h with h1 h2
    rw [ub_inj h1,map_ub_inj h2]
theorem wds_ub (u:ByteArray):(wds u).map ub=cw [] (ub u):=by
  obtain ⟨L,R,h,hL,hR⟩:=txs 32 u
  have hp:=pcs_ub h hL hR
  rw [h,cw_tx R hR L hL,← hp]
  unfold wds
  rw [List.filter_map]
  congr 1
  refine List.filter_congr fun x _=>?_
  simp only [Function.comp,decide_eq_decide]
  exact ⟨fun h e=>h (ub_inj (by rw [e];rfl)),fun h e=>h (by rw [e];rfl)⟩
theorem outT_pre (ls:List ByteArray) (k:Nat):∃ r,outT ls=outT (ls.take k)++r:=by
  unfold outT
  have e:(ls.map wds).filter keepL=((ls.take k).map wds).filter keepL++((ls.drop k).map wds).filter keepL:=by
    rw [← List.filter_append,← List.map_append,List.take_append_drop]
  rw [e,anss_app,tx_app]
  exact ⟨_,rfl⟩
theorem anss_good:∀ (L:List (List ByteArray)) (s:St),Kst s→∀ t∈anss ansF s L,Good t
  | [],s,h,t,ht=>by cases ht
  | ws :: L,s,h,t,ht=>by
    obtain ⟨h1,h2⟩:=ansF_good s ws h
    rw [anss] at ht
    rcases List.mem_cons.1 ht with e | e
    · rw [e];exact h1
    · exact anss_good L _ h2 t e
/-- "# x\n\nadd 0 1\n", "date 0\ndate -1\n" -/
def cA : ByteArray := { data := #[35, 32, 120, 10, 10, 97, 100, 100, 32, 48, 32, 49, 10] }
def cD:ByteArray:={ data:=#[100,97,116,101,32,48,10,100,97,116,101,32,45,49,10] }
theorem lnsA:(lns cA).length≤200∧((lns cA).map wds).filter keepL=[wA]:=by decide +kernel
theorem lnsD:(lns cD).length≤200∧((lns cD).map wds).filter keepL=[wD0,wD1]:=by decide +kernel
theorem dRunA:dRunB cA={ data:=#[111,107,32,51,49,10] }:=by
  unfold dRunB
  rw [if_pos ⟨by decide,lnsA.1⟩]
  unfold outT
  rw [lnsA.2,anss,anss,ansF_fix st0 wA (by decide +kernel) (rr:=(0,[31])) (by decide +kernel)]
  decide +kernel
theorem dRunD:dRunB cD={ data:=#[111,107,32,49,54,48,48,32,49,32,49,10,101,114,114,111,114,32,49,10] }:=by
  unfold dRunB
  rw [if_pos ⟨by decide,lnsD.1⟩]
  unfold outT
  rw [lnsD.2,anss,anss,anss,ansF_fix st0 wD0 (by decide +kernel) (rr:=(0,[1600,1,1])) (by decide +kernel),ansF_fix st0 wD1 (by decide +kernel) (rr:=(1,[0,0,0])) (by decide +kernel)]
  decide +kernel
theorem aft_len (s:ByteArray):(aft s).length=Lib.countB s ⟨#[10]⟩+1:=Lib.splitB_all ⟨#[10]⟩ (Nat.le_refl 1) 1 _ s rfl
theorem aft_few (s:ByteArray):(aft s).length≤s.size+1:=by
  rw [aft_len]
  have:=Lib.countB_le ⟨#[10]⟩ (Nat.le_refl 1) s.size s (Nat.le_refl _)
  omega
set_option maxHeartbeats 1600000 in
theorem after_any (s:ByteArray) (w:World) (hs:s.size≤100000000) (ht:Tb w) :
    Calls Tryz.prog 7 #[.string s,.string { data:=#[10] }] w fun e w' =>
      e=.returned (.slice (some ⟨w.heap.size,0,none⟩) (aft s).length (aft s).length)∧w'=w.alloc (.cells ((aft s).map Value.string).toArray 9):=by
  obtain ⟨m,hm⟩:=ht.len
  have hc:=Lib.countB_le ⟨#[10]⟩ (Nat.le_refl 1) s.size s (Nat.le_refl _)
  have HG:=Lib.hid (Sh.strings_genSplit s { data:=#[10] } 1 (-1) (Lib.countB s ⟨#[10]⟩+1) m w (by omega) hm (by decide) (by decide) (by decide) (by decide) (by rw [if_pos (by decide)];have e:(⟨#[10]⟩:ByteArray)={ data:=#[10] }:=rfl;rw [← e];omega))
  have hl:=aft_len s
  have HE:=Lib.hid (show Lib.cellsOf (aft s) (aft s).length=((aft s).map Value.string).toArray by unfold Lib.cellsOf;rw [Nat.sub_self];simp)
  rw [Nat.add_sub_cancel,show Lib.splitB { data:=#[10] } 1 (Lib.countB s ⟨#[10]⟩) s=aft s from rfl,← hl] at HG
  clear hm ht hc hl
  generalize aft s=P at *
  go_enter Tryz.func7,Tryz.ntmps7
  go_wp2_with fail
  refine HG.out.mono ?_
  rintro e w' ⟨rfl,rfl⟩
  go_wp2_with fail
  go_returns
  exact ⟨rfl,by rw [HE.out]⟩
def pj (P:List ByteArray):ByteArray:=⟨(P.flatMap ub).toArray⟩
theorem join_flat (P:List ByteArray):Lib.join (P.map (·.data.toList)) []=P.flatMap ub:=by
  unfold Lib.join
  have:∀ xs:List (List UInt8),([]:List UInt8).intercalate xs=xs.flatten:=by
    intro xs
    induction xs with
    | nil=>rfl
    | cons x xs ih =>
      cases xs with
      | nil=>simp [List.intercalate]
      | cons y ys=>simp [List.intercalate,List.intersperse] at ih ⊢;exact ih
  rw [this]
  rfl
theorem join_any (b k c:Nat) (P:List ByteArray) (w:World) (hb:Bk w b 9 (P.map Value.string).toArray) (hk:k≤P.length) (hc:k≤c) (hl:(P.flatMap ub).length≤100000000) (hP:P.length≤100000000) :
    Calls Tryz.prog 10 #[.slice (some ⟨b,0,none⟩) k c,.string { data:=#[] }] w fun e w'=>e=.returned (.string (pj (P.take k)))∧Mor w w':=by
  by_cases h0:k=0
  · subst h0
    refine (Sh.strings_Join_none (some ⟨b,0,none⟩) c { data:=#[] } w).mono ?_
    rintro e w' ⟨rfl,rfl⟩
    exact ⟨by rw [List.take_zero];rfl,Mor.refl _⟩
  · have e1:(P.take k).length=k:=by rw [List.length_take];omega
    have h2:((P.take k).flatMap ub).length≤100000000:=by
      have e:P.flatMap ub=(P.take k).flatMap ub++(P.drop k).flatMap ub:=by rw [← List.flatMap_append,List.take_append_drop]
      rw [e,List.length_append] at hl
      omega
    have:=Sh.strings_Join b 0 c (P.take k) { data:=#[] } w (fun j x hx=>by
      rw [Nat.zero_add,hb.cell j,List.getElem?_toArray,List.getElem?_map]
      rw [List.getElem?_take] at hx
      split at hx
      · rw [hx];rfl
      · cases hx) hb.lt (by omega) (by omega) (by rw [show ({ data:=#[] }:ByteArray).data.toList=[] from rfl,join_flat];omega)
    rw [e1] at this
    refine this.mono ?_
    rintro e w' ⟨rfl,hB⟩
    refine ⟨?_,Mor.of_below hB⟩
    rw [show ({ data:=#[] }:ByteArray).data.toList=[] from rfl,join_flat]
    rfl
theorem flat_tx (c:UInt8) (L:List (List UInt8)):(L.map (·++[c])).flatten=tx c L:=by simp [tx,List.flatMap_def]
theorem pj_run {s:ByteArray} {k:Nat} (hk:k < (aft s).length) (h:dRunB s≠err2):Lib.hasPrefix (ub (dRunB s)) (ub (dRunB (pj ((aft s).take k))))=true:=by
  obtain ⟨L,R,hs,hL,hR⟩:=txs 10 s
  have ha:=aft_ub hs hL hR
  have hl:(aft s).length=L.length+1:=by have:=congrArg List.length ha;simpa using this
  obtain ⟨h1,h2,h3⟩:=dRunB_ub h
  have hkL:k≤L.length:=by omega
  have hp:ub (pj ((aft s).take k))=tx 10 (L.take k)++[]:=by
    have e:((aft s).take k).map ub=(L.take k).map (·++[10]):=by
      rw [List.map_take,ha,List.take_append_of_le_length (by rw [List.length_map];exact hkL),← List.map_take]
    show ((aft s).take k).flatMap ub=_
    rw [List.flatMap_def,e,flat_tx,List.append_nil]
  have hl2:=lns_ub hp (fun l hm=>hL l (List.mem_of_mem_take hm)) (by simp)
  rw [if_pos rfl] at hl2
  have hl1:=lns_ub hs hL hR
  have htk:lns (pj ((aft s).take k))=(lns s).take k:=by
    refine map_ub_inj ?_
    rw [hl2,List.map_take,hl1]
    split
    · rfl
    · rw [List.take_append_of_le_length hkL]
  have hsz:(pj ((aft s).take k)).size≤s.size:=by
    rw [← ub_len,← ub_len,hp,hs,List.append_nil]
    have e:tx 10 L=tx 10 (L.take k)++tx 10 (L.drop k):=by rw [← tx_app,List.take_append_drop]
    rw [e,List.length_append,List.length_append]
    omega
  have hr:ub (dRunB (pj ((aft s).take k)))=outT ((lns s).take k):=by
    unfold dRunB
    rw [if_pos ⟨by omega,by rw [htk,List.length_take];omega⟩,htk]
  obtain ⟨r,hrr⟩:=outT_pre (lns s) k
  rw [hr,h3,hrr]
  unfold Lib.hasPrefix
  rw [List.isPrefixOf_iff_prefix]
  exact ⟨r,rfl⟩
theorem aft_size {s u:ByteArray} (P:List ByteArray) (hP:P=aft s):(P.flatMap ub).length=s.size:=by
  obtain ⟨L,R,hs,hL,hR⟩:=txs 10 s
  have ha:=aft_ub hs hL hR
  rw [hP,List.flatMap_def,ha,List.flatten_append,flat_tx,← ub_len,hs]
  simp
theorem pj_size (s:ByteArray) (q:Nat) (hs:s.size≤1048576):(pj ((aft s).take q)).size≤1048576:=by
  have h:=aft_size (s:=s) (u:=s) (aft s) rfl
  have e:(aft s).flatMap ub=((aft s).take q).flatMap ub++((aft s).drop q).flatMap ub:=by rw [← List.flatMap_append,List.take_append_drop]
  rw [e,List.length_append] at h
  show (⟨(((aft s).take q).flatMap ub).toArray⟩:ByteArray).size≤_
  rw [mkSz]
  omega
set_option maxHeartbeats 6400000 in
theorem deskBegins_walk (w:World) (ht:Tb w) (tab:Tab w) (s:ByteArray) (hs:s.size≤1048576) (k:Int) (hk:(Lit.int .i64 k).wf=true) :
    Calls Tryz.prog 4 #[.string s,.int .i64 k] w fun e w'=>e=.returned (.bool true)∧Below w.heap.size w w':=by
  have HT:=Lib.hid (fun w' (hm:Mor w w')=>And.intro (ht.mor hm) (tab.mor hm))
  have HR1:=Lib.hid (dRun_any cD w (by decide) ht tab)
  rw [dRunD] at HR1
  have hN:=aft_few s
  have hN1:1≤(aft s).length:=by rw [aft_len];omega
  have HN:=Lib.hid hN
  have hlo:=wi_lo k (aft s).length (by omega)
  have hhi:=wi_hi k (aft s).length (by omega)
  clear ht tab
  go_enter Tryz.func4,Tryz.ntmps4
  go_wp2_with fail
  refine HR1.out.mono ?_
  rintro e w1 ⟨rfl,hm⟩
  have HM1:=Lib.hid hm
  clear hm
  go_wp2_with fail
  refine (after_any s w1 (by omega) (HT.out _ HM1.out).1).mono ?_
  rintro e w2 ⟨rfl,rfl⟩
  have HB2:=Lib.hid (Bk.new w1 9 ((aft s).map Value.string).toArray)
  have HM2:=Lib.hid (HM1.out.trans' (mor_new w1 (.cells ((aft s).map Value.string).toArray 9)))
  have HJn:=Lib.hid (fun q c w' (hm:Mor (w1.alloc (.cells ((aft s).map Value.string).toArray 9)) w') (hq:q≤(aft s).length) (hc:q≤c)=>join_any w1.heap.size q c (aft s) w' (HB2.out.mor hm) hq hc (by rw [aft_size (s:=s) (u:=s) (aft s) rfl];omega) (by omega))
  have HPj:=Lib.hid (fun q (hq:q < (aft s).length) (h:dRunB s≠err2)=>pj_run hq h)
  have HSz:=Lib.hid (fun q=>show (pj ((aft s).take q)).size≤1048576 from pj_size s q hs)
  generalize w1.alloc (.cells ((aft s).map Value.string).toArray 9)=w2 at *
  generalize w1.heap.size=b at *
  generalize aft s=P at *
  obtain ⟨N,hN'⟩:∃ N,N=P.length:=⟨_,rfl⟩
  have HN2:=Lib.hid hN'
  rw [← hN'] at hN hN1 hlo hhi ⊢
  clear hN'
  have HWi:=Lib.hid (fun w=>within_any k N w (by omega) (by omega))
  obtain ⟨q,hq⟩:∃ q:Nat,(q:Int)=wi k N:=⟨(wi k N).toNat,by omega⟩
  rw [← hq] at HWi hlo hhi
  clear hq
  have hqN:q≤N:=by omega
  have HR2:=Lib.hid (fun w' (hm:Mor w w')=>dRun_any s w' hs (HT.out _ hm).1 (HT.out _ hm).2)
  have HR3:=Lib.hid (fun w' (hm:Mor w w')=>dRun_any (pj (P.take q)) w' (HSz.out q) (HT.out _ hm).1 (HT.out _ hm).2)
  go_wp2_with (go_at_call 9;refine (HWi.out _).mono ?_;rintro e w3 ⟨rfl,rfl⟩)
  refine (HR2.out _ HM2.out).mono ?_
  rintro e w4 ⟨rfl,hm4⟩
  have HM4:=Lib.hid (HM2.out.trans' hm4)
  have HM24:=Lib.hid hm4
  clear hm4
  by_cases he:dRunB s=err2
  · rw [he,show err2=({ data:=#[101,114,114,111,114,32,50,10] }:ByteArray) from rfl]
    go_wp2_with fail
    go_returns
    exact ⟨rfl,HM4.out.below⟩
  · have HNe:=Lib.hid he
    have h2:=str_no (l:=[101,114,114,111,114,32,50,10]) he
    clear he
    go_wp2_with fail
    refine (HJn.out q N w4 HM24.out (by rw [← HN2.out];exact hqN) hqN).mono ?_
    rintro e w5 ⟨rfl,hm5⟩
    have HM5:=Lib.hid (HM4.out.trans' hm5)
    clear hm5
    go_wp2_with fail
    refine (HR3.out _ HM5.out).mono ?_
    rintro e w6 ⟨rfl,hm6⟩
    have HM6:=Lib.hid (HM5.out.trans' hm6)
    clear hm6
    have HPf:=Lib.hid (show Lib.hasPrefix (dRunB s).data.toList (dRunB (pj (P.take q))).data.toList=true from HPj.out q (by rw [← HN2.out];omega) HNe.out)
    go_wp2_with fail
    refine (Sh.strings_HasPrefix _ _ _).mono ?_
    rintro e w7 ⟨rfl,rfl⟩
    rw [HPf.out]
    go_wp2_with fail
    go_returns
    exact ⟨rfl,HM6.out.below⟩
def LT (T:List UInt8) (Ls:List (List UInt8)):Prop:=∃ L R,T=tx 10 L++R∧(∀ l∈L,(10:UInt8) ∉ l)∧(10:UInt8) ∉ R∧Ls=if R=[] then L else L++[R]
theorem LT.nil {Ls:List (List UInt8)} (h:LT [] Ls):Ls=[]:=by
  obtain ⟨L,R,h1,h2,h3,rfl⟩:=h
  cases L with
  | nil=>rw [tx_nil,List.nil_append] at h1;rw [if_pos h1.symm]
  | cons l L=>rw [tx_cons] at h1;simp at h1
theorem LT.step {T:List UInt8} {Ls:List (List UInt8)} (h:LT T Ls) (h0:T≠[]):∃ l Ls',Ls=l :: Ls'∧(Lib.cut T [10]).1=l∧LT (Lib.cut T [10]).2.1 Ls'∧l.length≤T.length∧(Lib.cut T [10]).2.1.length≤T.length:=by
  obtain ⟨L,R,rfl,h2,h3,rfl⟩:=h
  cases L with
  | nil =>
    simp only [tx_nil,List.nil_append] at h0 ⊢
    rw [if_neg h0,cut_no 10 R h3]
    exact ⟨R,[],rfl,rfl,⟨[],[],rfl,by simp,by simp,by simp⟩,Nat.le_refl _,by simp⟩
  | cons l L =>
    simp only [tx_cons,List.append_assoc,List.cons_append]
    rw [cut_tx 10 l _ (h2 l (List.mem_cons_self ..))]
    refine ⟨l,if R=[] then L else L++[R],?_,rfl,⟨L,R,rfl,fun x hx=>h2 x (List.mem_cons_of_mem _ hx),h3,rfl⟩,by simp,by simp;omega⟩
    split <;> rfl
def kw (W:List (List UInt8)):Bool:=decide (W≠[]) && decide (W.headD []≠[35])
theorem keep_kw (u:ByteArray):keepL (wds u)=kw (cw [] (ub u)):=by
  rw [← wds_ub]
  unfold keepL kw
  cases h:wds u with
  | nil=>rfl
  | cons x xs =>
    have e:wdd (x :: xs) 0=x:=rfl
    have e2:decide (x=({ data:=#[35] }:ByteArray))=decide (ub x=[35]):=decide_eq_decide.2 ⟨fun h=>congrArg ub h,fun h=>ub_inj h⟩
    rw [e]
    simp only [List.map_cons,List.headD_cons,decide_not,e2]
    rfl
theorem kept_len (s:ByteArray) (Ls:List (List UInt8)) (h:(lns s).map ub=Ls):(((lns s).map wds).filter keepL).length=(Ls.filter fun l=>kw (cw [] l)).length:=by
  rw [← h]
  generalize lns s=us
  induction us with
  | nil=>rfl
  | cons u us ih =>
    rw [List.map_cons,List.map_cons,List.filter_cons,List.filter_cons,keep_kw u]
    split
    · rw [List.length_cons,List.length_cons,ih]
    · exact ih
theorem lt_of (s:ByteArray):LT (ub s) ((lns s).map ub):=by
  obtain ⟨L,R,h,hL,hR⟩:=txs 10 s
  exact ⟨L,R,h,hL,hR,lns_ub h hL hR⟩
theorem info_sl:(Tryz.prog.info? 26).map (fun i=>(i.zero,i.size,i.bytes))=some (some (.slice none 0 0),1,24):=by kernel_rfl
def sv (x:List UInt8):Value:=.string ⟨x.toArray⟩
theorem sv_ub (u:ByteArray):sv (ub u)=.string u:=by simp [sv,ub]
theorem cut10_any (s:ByteArray) (w:World) (hs:s.size < 4294967281) (ht:Tb w) :
    Calls Tryz.prog 16 #[.string s,.string { data:=#[10] }] w fun e w'=>∃ ok,e=.returned (.tuple #[.string ⟨(Lib.cut (ub s) [10]).1.toArray⟩,.string ⟨(Lib.cut (ub s) [10]).2.1.toArray⟩,.bool ok])∧Mor w w':=by
  obtain ⟨m,hm⟩:=ht.len
  refine (Sh.strings_Cut s { data:=#[10] } m w hs hm).mono ?_
  rintro e w' ⟨rfl,k,rfl⟩
  exact ⟨_,rfl,(Mor.refl _).drewN⟩
set_option maxHeartbeats 6400000 in
theorem rLines_any (s:ByteArray) (w:World) (ht:Tb w) (hs:s.size≤65536) (h2:(lns s).length≤200) :
    Calls Tryz.prog 6 #[.string s] w fun e w'=>∃ X c,e=.returned (.tuple #[.slice X (((lns s).map wds).filter keepL).length c,.bool true])∧Mor w w':=by
  obtain ⟨Ls,hLs⟩:∃ Ls,Ls=(lns s).map ub:=⟨_,rfl⟩
  rw [kept_len s Ls hLs.symm]
  have hLT:=lt_of s
  rw [← hLs] at hLT
  have hl:Ls.length≤200:=by rw [hLs,List.length_map];exact h2
  have HT:=Lib.hid ht
  have HLT:=Lib.hid hLT
  clear hLs ht h2 hLT
  obtain ⟨i1,hi1,hy0,hy1,hy2⟩:=info_parts info_sl
  obtain ⟨i0,hi0,hz0,hz1,hz2⟩:=info_parts info_str
  go_enter Tryz.func6,Tryz.ntmps6
  go_wp2_with fail
  go_loopw [0,4,5] (fun t o n wr=>∃ (j:Nat) (tb:ByteArray) (X:Option Addr) (m c:Nat),t=.string tb∧o=.slice X m c∧n=.int .i64 j∧j≤Ls.length∧tb.size≤65536∧Hid (LT (ub tb) (Ls.drop j)∧m=((Ls.take j).filter fun l=>kw (cw [] l)).length∧(∃ xs,wr.ownsRow w.heap.size 26 1 (.slice X m c) m xs)∧Mor w wr)) (fun _ _ n _=>Ls.length - (intOf n).toNat)
  case atStart=>exact ⟨0,s,none,0,0,rfl,rfl,rfl,Nat.zero_le _,hs,Lib.hid ⟨HLT.out,rfl,⟨[],World.ownsRow_nil _ _ _ _⟩,Mor.refl _⟩⟩
  case round =>
    obtain ⟨j,tb,X,m,c,rfl,rfl,rfl,hj,htb,HJ⟩:=hrel
    clear HLT
    rcases @isE tb with ⟨hte,htt⟩ | ⟨hte,htt⟩
    · have hjl:j=Ls.length:=by
        have h:=HJ.out.1
        rw [hte] at h
        have h:=congrArg List.length (LT.nil h)
        rw [List.length_drop] at h
        simp at h;omega
      clear hte
      go_wp2_with fail
      go_returns
      have hl2:decide ((Ls.length:Int)≤200)=true:=decide_eq_true (by omega)
      subst hjl
      refine ⟨X,c,?_,HJ.out.2.2.2⟩
      have hm:=HJ.out.2.1
      rw [List.take_length] at hm
      rw [← hm]
      simp [hl2]
    · have hT:ub tb≠[]:=fun e=>hte (ub_inj (by rw [e];rfl))
      obtain ⟨l,Ls',hd,hc1,hLT',hll,hrl⟩:=HJ.out.1.step hT
      have hjl:j < Ls.length:=by
        have h:=congrArg List.length hd
        rw [List.length_drop,List.length_cons] at h;omega
      have HCut:=Lib.hid (cut10_any tb wr (by omega) (HT.out.mor HJ.out.2.2.2))
      rw [hc1] at HCut
      rw [ub_len] at hll hrl
      generalize (Lib.cut (ub tb) [10]).2.1=rt at *
      have HL':=Lib.hid hLT'
      have HD:=Lib.hid (And.intro hd (show Ls.drop (j+1)=Ls' by rw [← List.drop_drop,hd];rfl))
      clear hd hc1 hLT' hT hte
      go_wp2_with fail
      refine HCut.out.mono ?_
      rintro e w2 ⟨ok,rfl,hm2⟩
      have HM2:=Lib.hid (HJ.out.2.2.2.trans' hm2)
      have HO2:=Lib.hid (show ∃ xs,w2.ownsRow w.heap.size 26 1 (.slice X m c) m xs by obtain ⟨xs,hx⟩:=HJ.out.2.2.1;exact ⟨xs,own_mor hx hm2⟩)
      clear hm2
      obtain ⟨lb,hlb⟩:∃ lb:ByteArray,lb=⟨l.toArray⟩:=⟨_,rfl⟩
      have HLb:=Lib.hid (show ub lb=l by rw [hlb,ub_mk])
      have hlz:lb.size≤65536:=by rw [hlb,mkSz];omega
      rw [← hlb]
      clear hlb hll
      go_wp2_with fail
      go_loopw [9,10,11] (fun v wo i wx=>∃ (q:Nat) (wb:ByteArray) (A':Option Addr) (n' c':Nat),v=.slice A' n' c'∧wo=.string wb∧i=.int .i64 q∧q≤lb.size+1∧wb.size≤65536∧n'≤q∧Hid (∃ acc,((q≤lb.size∧acc++cw (ub wb) (l.drop q)=cw [] l)∨(q=lb.size+1∧acc=cw [] l))∧wb.size≤q∧n'=acc.length∧wx.ownsRow w2.heap.size 9 1 (.slice A' n' c') n' (acc.map sv)∧Mor w2 wx)) (fun _ _ i _=>lb.size+1 - (intOf i).toNat)
      case atStart=>exact ⟨0,{ data:=#[] },none,0,0,rfl,rfl,rfl,by omega,by decide,Nat.le_refl _,Lib.hid ⟨[],.inl ⟨Nat.zero_le _,rfl⟩,by decide,rfl,World.ownsRow_nil _ _ _ _,Mor.refl _⟩⟩
      case round =>
        obtain ⟨q,wb,A',n',c',rfl,rfl,rfl,hq,hwb,hnq,HQ⟩:=hrel
        by_cases hqs:q < lb.size
        · have hqi:(q:Int) < (lb.size:Int):=by omega
          have hqi2:(q:Int)≤(lb.size:Int):=by omega
          have hHQ:=HQ.out
          obtain ⟨acc,hacc,hwq,hna,hown,hmx⟩:=hHQ
          have hacc:acc++cw (ub wb) (l.drop q)=cw [] l:=by
            rcases hacc with h | h
            · exact h.2
            · omega
          have hql:q < l.length:=by rw [← HLb.out,ub_len];exact hqs
          have hbv:lb[q]=l[q]:=by
            have:=HLb.out
            subst this
            rfl
          have hdr:l.drop q=l[q] :: l.drop (q+1):=List.drop_eq_getElem_cons hql
          rw [hdr,cw] at hacc
          rw [← hbv] at hacc hdr
          have HAcc:=Lib.hid hacc
          have HX:=Lib.hid (And.intro hwq (And.intro hna (And.intro hown hmx)))
          have HEx:=Lib.hid (show ub (lb.extract q (q+1))=[lb[q]] by rw [ub_ext,HLb.out,show q+1 - q=1 by omega,hdr];rfl)
          clear hacc hwq hna hown hmx hdr hbv HQ
          by_cases hsp:lb[q]=32
          · have hb32:((lb[q]).toNat:Int)=32:=by rw [hsp];rfl
            rw [if_pos hsp] at HAcc
            rcases @isE wb with ⟨hwe,hwt⟩ | ⟨hwe,hwt⟩
            · have HA:=Lib.hid (show acc++cw [] (l.drop (q+1))=cw [] l by have:=HAcc.out;rw [if_pos (by rw [hwe];rfl),List.nil_append] at this;exact this)
              clear hsp hwe
              go_wp2_with fail
              go_roundw
              case rel=>exact ⟨q+1,{ data:=#[] },A',n',c',rfl,rfl,by go_num,by omega,by decide,by omega,Lib.hid ⟨acc,.inl ⟨by omega,HA.out⟩,Nat.zero_le _,HX.out.2.1,HX.out.2.2.1,HX.out.2.2.2⟩⟩
              case measure=>simp [intOf] <;> omega
            · have HA:=Lib.hid (show (acc++[ub wb])++cw [] (l.drop (q+1))=cw [] l by have:=HAcc.out;rw [if_neg (fun e=>hwe (ub_inj (by rw [e];rfl)))] at this;rw [List.append_assoc];exact this)
              clear hsp hwe
              have HO1':=Lib.hid (own_mor HX.out.2.2.1 (mor_new wr (.cells #[.string wb] 9)))
              have hbz:w2.heap.size≤(wr.alloc (.cells #[.string wb] 9)).heap.size:=by have:=HX.out.2.2.2.below.size;simp;omega
              go_wp2_with (at_builtin;refine wpList_append_own _ rfl _ _ 26 rfl w2.heap.size 9 i0 (.string { data:=#[] }) 1 16 Tryz.underlying26 hi0 hz0 hz1 hz2 rfl (by decide) _ n' (acc.map sv) rfl HO1'.out ⟨wr.heap.size,0,none⟩ 1 1 [.string wb] rfl rfl (lit_at _ _ _ rfl rfl) (by intro x hx;simp at hx;subst hx;rfl) (by unfold maxLen;omega) (by omega) hbz ?_)
              intro u7 w7 hown7 hgrow7 _
              obtain ⟨A7,c7,rfl,_,_,_⟩:=own_shape hown7
              have HR7:=Lib.hid (show n'+1=(acc++[ub wb]).length∧w7.ownsRow w2.heap.size 9 1 (.slice A7 (n'+1) c7) (n'+1) ((acc++[ub wb]).map sv)∧Mor w2 w7 from
                ⟨by rw [List.length_append,HX.out.2.1];rfl,by rw [List.map_append,List.map_singleton,sv_ub];exact hown7,own_step HO1'.out (HX.out.2.2.2.trans' (mor_new _ _)) hgrow7⟩)
              clear hown7 hgrow7 HO1' hbz
              go_simp
              go_wp2_with fail
              go_roundw
              case rel=>exact ⟨q+1,{ data:=#[] },A7,n'+1,c7,rfl,rfl,by go_num,by omega,by decide,by omega,Lib.hid ⟨_,.inl ⟨by omega,HA.out⟩,Nat.zero_le _,HR7.out⟩⟩
              case measure=>simp [intOf] <;> omega
          · have hb32:¬ ((lb[q]).toNat:Int)=32:=fun e=>hsp (UInt8.toNat_inj.1 (by have:(32:UInt8).toNat=32:=rfl;omega))
            have hu:ub (wb++lb.extract q (q+1))=ub wb++[lb[q]]:=by rw [ub_app,HEx.out]
            have hus:(wb++lb.extract q (q+1)).size=wb.size+1:=by rw [← ub_len,hu,List.length_append,ub_len];rfl
            have HA:=Lib.hid (show acc++cw (ub (wb++lb.extract q (q+1))) (l.drop (q+1))=cw [] l by have:=HAcc.out;rw [if_neg hsp] at this;rw [hu];exact this)
            have hwq:=HX.out.1
            have HUs:=Lib.hid hus
            clear hsp hu hus
            go_wp2_with fail
            go_roundw
            case rel=>exact ⟨q+1,wb++lb.extract q (q+1),A',n',c',rfl,rfl,by go_num,by omega,by rw [HUs.out];omega,by omega,Lib.hid ⟨acc,.inl ⟨by omega,HA.out⟩,by rw [HUs.out];omega,HX.out.2⟩⟩
            case measure=>simp [intOf] <;> omega
        · have hqs2:¬ (q:Int) < (lb.size:Int):=by omega
          have hHQ:=HQ.out
          obtain ⟨acc,hacc,hwq,hna,hown,hmx⟩:=hHQ
          by_cases hqe:q=lb.size
          · have hqi2:(q:Int)≤(lb.size:Int):=by omega
            have hacc:acc++cw (ub wb) []=cw [] l:=by
              rcases hacc with h | h
              · have h3:=h.2
                rw [List.drop_eq_nil_of_le (by rw [← HLb.out,ub_len];omega)] at h3
                exact h3
              · omega
            rw [cw] at hacc
            have HX:=Lib.hid (And.intro hwq (And.intro hna (And.intro hown hmx)))
            rcases @isE wb with ⟨hwe,hwt⟩ | ⟨hwe,hwt⟩
            · have HA:=Lib.hid (show acc=cw [] l by rw [if_pos (by rw [hwe];rfl),List.append_nil] at hacc;exact hacc)
              clear hacc hwe hwq hna hown hmx HQ
              go_wp2_with fail
              go_roundw
              case rel=>exact ⟨q+1,{ data:=#[] },A',n',c',rfl,rfl,by go_num,by omega,by decide,by omega,Lib.hid ⟨acc,.inr ⟨by omega,HA.out⟩,Nat.zero_le _,HX.out.2⟩⟩
              case measure=>simp [intOf] <;> omega
            · have HA:=Lib.hid (show acc++[ub wb]=cw [] l by rw [if_neg (fun e=>hwe (ub_inj (by rw [e];rfl)))] at hacc;exact hacc)
              clear hacc hwe hwq hna hown hmx HQ
              have HO1':=Lib.hid (own_mor HX.out.2.2.1 (mor_new wr (.cells #[.string wb] 9)))
              have hbz:w2.heap.size≤(wr.alloc (.cells #[.string wb] 9)).heap.size:=by have:=HX.out.2.2.2.below.size;simp;omega
              go_wp2_with (at_builtin;refine wpList_append_own _ rfl _ _ 26 rfl w2.heap.size 9 i0 (.string { data:=#[] }) 1 16 Tryz.underlying26 hi0 hz0 hz1 hz2 rfl (by decide) _ n' (acc.map sv) rfl HO1'.out ⟨wr.heap.size,0,none⟩ 1 1 [.string wb] rfl rfl (lit_at _ _ _ rfl rfl) (by intro x hx;simp at hx;subst hx;rfl) (by unfold maxLen;omega) (by omega) hbz ?_)
              intro u7 w7 hown7 hgrow7 _
              obtain ⟨A7,c7,rfl,_,_,_⟩:=own_shape hown7
              have HR7:=Lib.hid (show n'+1=(acc++[ub wb]).length∧w7.ownsRow w2.heap.size 9 1 (.slice A7 (n'+1) c7) (n'+1) ((acc++[ub wb]).map sv)∧Mor w2 w7 from
                ⟨by rw [List.length_append,HX.out.2.1];rfl,by rw [List.map_append,List.map_singleton,sv_ub];exact hown7,own_step HO1'.out (HX.out.2.2.2.trans' (mor_new _ _)) hgrow7⟩)
              clear hown7 hgrow7 HO1' hbz
              go_simp
              go_wp2_with fail
              go_roundw
              case rel=>exact ⟨q+1,{ data:=#[] },A7,n'+1,c7,rfl,rfl,by go_num,by omega,by decide,by omega,Lib.hid ⟨_,.inr ⟨by omega,HA.out⟩,Nat.zero_le _,HR7.out⟩⟩
              case measure=>simp [intOf] <;> omega
          · have hqi2:¬ (q:Int)≤(lb.size:Int):=by omega
            have hacc:acc=cw [] l:=by
              rcases hacc with h | h
              · omega
              · exact h.2
            subst hacc
            have HX:=Lib.hid (And.intro hna (And.intro hown hmx))
            clear hwq hown hmx HQ
            have HTk:=Lib.hid (show Ls.take (j+1)=Ls.take j++[l] by
              have h:=HD.out.1
              have h3:l=Ls[j]:=by rw [List.drop_eq_getElem_cons hjl] at h;injection h with h _;exact h.symm
              rw [List.take_succ_eq_append_getElem hjl,h3])
            have hm:m≤200:=by rw [HJ.out.2.1];refine Nat.le_trans (List.length_filter_le _ _) ?_;rw [List.length_take];omega
            cases hW:cw [] l with
            | nil =>
              rw [hW] at hna
              have hn0:n'=0:=hna
              have HK:=Lib.hid (show ((Ls.take (j+1)).filter fun l=>kw (cw [] l))=((Ls.take j).filter fun l=>kw (cw [] l)) by rw [HTk.out,List.filter_append,List.filter_cons,if_neg (by rw [hW];decide)];simp)
              clear hna hW
              subst hn0
              go_wp2_with fail
              go_roundw
              case rel=>exact ⟨j+1,⟨rt.toArray⟩,X,m,c,rfl,rfl,by go_num,by omega,by rw [mkSz];omega,Lib.hid ⟨by rw [ub_mk,HD.out.2];exact HL'.out,by rw [HK.out];exact HJ.out.2.1,(by obtain ⟨ys,hy⟩:=HO2.out;exact ⟨ys,own_mor hy HX.out.2.2⟩),HM2.out.trans' HX.out.2.2⟩⟩
              case measure=>simp [intOf] <;> omega
            | cons x xs =>
              have hn0:0 < n':=by rw [hna,hW];exact Nat.succ_pos _
              have hnz:¬ n'=0:=by omega
              obtain ⟨A'',c'',e,hcc,hRd,hg⟩:=own_shape HX.out.2.1
              injection e with e1 _ e2
              subst e1 e2
              obtain ⟨ab,rfl,hab⟩:=hg hn0
              have hRs:Rs wr (some ⟨ab,0,none⟩) ((cw [] l).map fun x=>(⟨x.toArray⟩:ByteArray)):=by
                show Rd _ _ _
                rw [List.map_map];exact hRd
              obtain ⟨ab',ao,e,habl,hac⟩:=rd_str hRs 0 (by rw [List.length_map,← hna];exact hn0)
              injection e with e
              injection e with e1 e2
              subst e1 e2
              rw [hW] at hac
              replace hac:wr.cell? ⟨ab,0,none⟩=some (.string ⟨x.toArray⟩):=hac
              obtain ⟨s0,hs0⟩:∃ s0:ByteArray,s0=⟨x.toArray⟩:=⟨_,rfl⟩
              have hu0:ub s0=x:=by rw [hs0,ub_mk]
              rw [← hs0] at hac
              clear hRd hRs hs0
              by_cases h35:s0=({ data:=#[35] }:ByteArray)
              · have HK:=Lib.hid (show ((Ls.take (j+1)).filter fun l=>kw (cw [] l))=((Ls.take j).filter fun l=>kw (cw [] l)) by
                  have hx:x=[35]:=hu0.symm.trans (congrArg ub h35)
                  rw [HTk.out,List.filter_append,List.filter_cons,if_neg (by rw [hW,hx];simp [kw])];simp)
                clear hna hW hu0
                subst h35
                go_wp2_with fail
                go_roundw
                case rel=>exact ⟨j+1,⟨rt.toArray⟩,X,m,c,rfl,rfl,by go_num,by omega,by rw [mkSz];omega,Lib.hid ⟨by rw [ub_mk,HD.out.2];exact HL'.out,by rw [HK.out];exact HJ.out.2.1,(by obtain ⟨ys,hy⟩:=HO2.out;exact ⟨ys,own_mor hy HX.out.2.2⟩),HM2.out.trans' HX.out.2.2⟩⟩
                case measure=>simp [intOf] <;> omega
              · have HK:=Lib.hid (show ((Ls.take (j+1)).filter fun l=>kw (cw [] l))=((Ls.take j).filter fun l=>kw (cw [] l))++[l] by
                  have hx:x≠[35]:=fun e=>h35 (ub_inj (hu0.trans e))
                  rw [HTk.out,List.filter_append,List.filter_cons,if_pos (by rw [hW];simp [kw,hx])];rfl)
                have h35':=str_no (l:=[35]) h35
                clear hna hW hu0 h35
                obtain ⟨ys,hy⟩:=HO2.out
                have HO1':=Lib.hid (own_mor hy (HX.out.2.2.trans' (mor_new wr (.cells #[.slice (some ⟨ab,0,none⟩) n' c'] 26))))
                have hbz:w.heap.size≤(wr.alloc (.cells #[.slice (some ⟨ab,0,none⟩) n' c'] 26)).heap.size:=by have:=HX.out.2.2.below.size;have:=HM2.out.below.size;simp;omega
                clear hy
                go_wp2_with (at_builtin;refine wpList_append_own _ rfl _ _ 23 rfl w.heap.size 26 i1 (.slice none 0 0) 1 24 Tryz.underlying23 hi1 hy0 hy1 hy2 rfl (by decide) _ m ys rfl HO1'.out ⟨wr.heap.size,0,none⟩ 1 1 [.slice (some ⟨ab,0,none⟩) n' c'] rfl rfl (lit_at _ _ _ rfl rfl) (by intro x hx;simp at hx;subst hx;rfl) (by unfold maxLen;omega) (by omega) hbz ?_)
                intro u7 w7 hown7 hgrow7 _
                obtain ⟨A7,c7,rfl,_,_,_⟩:=own_shape hown7
                have HR7:=Lib.hid (show m+1=((Ls.take (j+1)).filter fun l=>kw (cw [] l)).length∧(∃ xs,w7.ownsRow w.heap.size 26 1 (.slice A7 (m+1) c7) (m+1) xs)∧Mor w w7 from
                  ⟨by rw [HK.out,List.length_append,HJ.out.2.1];rfl,⟨_,hown7⟩,own_step HO1'.out ((HM2.out.trans' HX.out.2.2).trans' (mor_new _ _)) hgrow7⟩)
                clear hown7 hgrow7 HO1' hbz
                go_simp
                go_wp2_with fail
                go_roundw
                case rel=>exact ⟨j+1,⟨rt.toArray⟩,A7,m+1,c7,rfl,rfl,by go_num,by omega,by rw [mkSz];omega,Lib.hid ⟨by rw [ub_mk,HD.out.2];exact HL'.out,HR7.out⟩⟩
                case measure=>simp [intOf] <;> omega
def okP:List UInt8:=[111,107]
def erP:List UInt8:=[101,114,114,111,114,32]
theorem ans_aft {s:ByteArray} (h:dRunB s≠err2):s.size≤65536∧(lns s).length≤200∧(dRunB s).size≤900000∧(aft (dRunB s)).length=(((lns s).map wds).filter keepL).length+1∧(aft (dRunB s))[(((lns s).map wds).filter keepL).length]?=some ByteArray.empty ∧
    ∀ j,j < (((lns s).map wds).filter keepL).length→∃ u,(aft (dRunB s))[j]?=some u∧(Lib.hasPrefix u.data.toList okP=true∨Lib.hasPrefix u.data.toList erP=true):=by
  obtain ⟨h1,h2,h3⟩:=dRunB_ub h
  have hg:=anss_good (((lns s).map wds).filter keepL) st0 kst0
  have hl:=anss_len ansF (((lns s).map wds).filter keepL) st0
  have ha:=aft_ub (s:=dRunB s) (L:=anss ansF st0 (((lns s).map wds).filter keepL)) (R:=[]) (by rw [h3,List.append_nil];rfl) (fun l hl=>(hg l hl).nl) (by simp)
  have ho:=outT_len (lns s)
  rw [← h3,ub_len] at ho
  generalize ((lns s).map wds).filter keepL=F at *
  generalize anss ansF st0 F=G at *
  generalize aft (dRunB s)=P at *
  have hP:P.length=F.length+1:=by have:=congrArg List.length ha;simp at this;omega
  refine ⟨h1,h2,by omega,hP,?_,fun j hj=>?_⟩
  · have e:(P.map ub)[F.length]?=some []:=by rw [ha,← hl];simp
    rw [List.getElem?_map,List.getElem?_eq_getElem (by omega)] at e
    rw [List.getElem?_eq_getElem (by omega)]
    injection e with e
    rw [show P[F.length]=ByteArray.empty from ub_inj (by rw [e];rfl)]
  · refine ⟨P[j],List.getElem?_eq_getElem (by omega),?_⟩
    have e:(P.map ub)[j]?=some (G[j]++[10]):=by rw [ha,List.getElem?_append_left (by simp;omega),List.getElem?_map,List.getElem?_eq_getElem (by omega)];rfl
    rw [List.getElem?_map,List.getElem?_eq_getElem (by omega)] at e
    injection e with e
    have hb:=(hg G[j] (List.getElem_mem _)).beg
    show Lib.hasPrefix (ub P[j]) okP=true∨Lib.hasPrefix (ub P[j]) erP=true
    rw [e]
    unfold Lib.hasPrefix
    rw [List.isPrefixOf_iff_prefix,List.isPrefixOf_iff_prefix]
    rcases hb with ⟨r,hr⟩ | ⟨r,hr⟩
    · exact .inl ⟨r++[10],by rw [hr,List.append_assoc];rfl⟩
    · exact .inr ⟨r++[10],by rw [hr,List.append_assoc];rfl⟩
set_option maxHeartbeats 6400000 in
theorem deskLines_walk (w:World) (ht:Tb w) (tab:Tab w) (s:ByteArray) (hs:s.size≤1048576) :
    Calls Tryz.prog 3 #[.string s] w fun e w'=>e=.returned (.bool true)∧Below w.heap.size w w':=by
  have HT:=Lib.hid (fun w' (hm:Mor w w')=>And.intro (ht.mor hm) (tab.mor hm))
  have HR1:=Lib.hid (dRun_any cA w (by decide) ht tab)
  rw [dRunA] at HR1
  have HR2:=Lib.hid (fun w' (hm:Mor w w')=>dRun_any s w' hs (HT.out _ hm).1 (HT.out _ hm).2)
  clear ht tab
  go_enter Tryz.func3,Tryz.ntmps3
  go_wp2_with fail
  refine HR1.out.mono ?_
  rintro e w1 ⟨rfl,hm⟩
  have HM1:=Lib.hid hm
  clear hm
  go_wp2_with fail
  refine (HR2.out _ HM1.out).mono ?_
  rintro e w2 ⟨rfl,hm⟩
  have HM2:=Lib.hid (HM1.out.trans' hm)
  clear hm
  by_cases he:dRunB s=err2
  · rw [he,show err2=({ data:=#[101,114,114,111,114,32,50,10] }:ByteArray) from rfl]
    go_wp2_with fail
    go_returns
    exact ⟨rfl,HM2.out.below⟩
  · obtain ⟨g1,g2,g3,g4,g5,g6⟩:=ans_aft he
    have h2:=str_no (l:=[101,114,114,111,114,32,50,10]) he
    have HL:=Lib.hid (fun w' (hm:Mor w w')=>rLines_any s w' (HT.out _ hm).1 g1 g2)
    have HA:=Lib.hid (fun w' (hm:Mor w w')=>after_any (dRunB s) w' (by omega) (HT.out _ hm).1)
    have hmm:(((lns s).map wds).filter keepL).length≤200:=by
      refine Nat.le_trans (List.length_filter_le _ _) ?_
      rw [List.length_map];exact g2
    clear he g1 g2 g3
    generalize (((lns s).map wds).filter keepL).length=m at *
    generalize dRunB s=got at *
    generalize aft got=P at *
    have HG:=Lib.hid (And.intro g5 g6)
    rw [g4] at HA
    clear g5 g6
    go_wp2_with fail
    refine (HL.out _ HM2.out).mono ?_
    rintro e w3 ⟨X,c,rfl,hm⟩
    have HM3:=Lib.hid (HM2.out.trans' hm)
    clear hm
    go_wp2_with fail
    refine (HA.out _ HM3.out).mono ?_
    rintro e w4 ⟨rfl,rfl⟩
    have HB:=Lib.hid (Bk.new w3 9 (P.map Value.string).toArray)
    have HM4:=Lib.hid (HM3.out.trans' (mor_new w3 (.cells (P.map Value.string).toArray 9)))
    have hlast:(w3.alloc (.cells (P.map Value.string).toArray 9)).cell? ⟨w3.heap.size,m,none⟩=some (.string { data:=#[] }):=by
      rw [HB.out.cell m,List.getElem?_toArray,List.getElem?_map,HG.out.1];rfl
    generalize w3.alloc (.cells (P.map Value.string).toArray 9)=w4 at *
    generalize w3.heap.size=b at *
    go_wp2_with fail
    have HP:=Lib.hid (And.intro HM4.out HB.out)
    go_loopw [45] (fun i wr=>∃ j:Nat,i=.int .i64 j∧j≤m∧Hid (Mor w wr∧Bk wr b 9 (P.map Value.string).toArray)) (fun i _=>m - (intOf i).toNat)
    case atStart=>exact ⟨0,rfl,Nat.zero_le _,HP⟩
    case round =>
      obtain ⟨j,rfl,hj,HJ⟩:=hrel
      clear hlast HP
      by_cases hjm:j < m
      · have hji:(j:Int) < (m:Int):=by omega
        obtain ⟨u,hu,hb⟩:=HG.out.2 j hjm
        have hcell:wr.cell? ⟨b,j,none⟩=some (.string u):=by
          rw [HJ.out.2.cell j,List.getElem?_toArray,List.getElem?_map,hu];rfl
        have HBo:=Lib.hid hb
        clear hb hu
        go_wp2_with fail
        refine (Sh.strings_HasPrefix _ _ _).mono ?_
        rintro e w5 ⟨rfl,rfl⟩
        rw [show ({ data:=#[111,107] }:ByteArray).data.toList=okP from rfl]
        rcases hB1:Lib.hasPrefix u.data.toList okP with _ | _
        · have hE:Lib.hasPrefix u.data.toList ({ data:=#[101,114,114,111,114,32] }:ByteArray).data.toList=true:=by
            rcases HBo.out with h | h
            · rw [h] at hB1;cases hB1
            · exact h
          clear hB1
          go_wp2_with fail
          refine (Sh.strings_HasPrefix _ _ _).mono ?_
          rintro e w6 ⟨rfl,rfl⟩
          rw [hE]
          go_wp2_with fail
          go_roundw
          case rel=>exact ⟨j+1,by go_num,by omega,HJ⟩
          case measure=>simp [intOf] <;> omega
        · go_wp2_with fail
          go_roundw
          case rel=>exact ⟨j+1,by go_num,by omega,HJ⟩
          case measure=>simp [intOf] <;> omega
      · have hji:¬ (j:Int) < (m:Int):=by omega
        go_wp2_with fail
        go_returns
        exact ⟨rfl,HJ.out.1.below⟩
end Go.Proofs.YtdhbkifpodekcaaGreatDoor
