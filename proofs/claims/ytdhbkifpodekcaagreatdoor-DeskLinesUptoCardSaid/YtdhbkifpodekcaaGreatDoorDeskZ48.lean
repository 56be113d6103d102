/- Texts of this claim. -/
import Derived.Test.YtdhbkifpodekcaaGreatDoorDeskZ45
import Derived.Test.YtdhbkifpodekcaaGreatDoorDeskZ47
namespace Go.Proofs.YtdhbkifpodekcaaGreatDoor
open Go Go.ChangeShapes Go.WideShapes Go.ChangeAt Go.RowKit Go.PlainAid
set_option linter.unusedVariables false
set_option maxRecDepth 100000
def rank (xs:List Ln) (x:Ln):Int:=((xs.filter fun y=>decide (ub y.1 < ub x.1)).length:Nat)
theorem filter_len_le {α:Type} (p q:α→Bool) (h:∀ x,p x=true→q x=true):∀ l:List α,(l.filter p).length≤(l.filter q).length
  | []=>Nat.le_refl _
  | x :: l=>by
    have ih:=filter_len_le p q h l
    rw [List.filter_cons,List.filter_cons]
    by_cases hp:p x=true
    · rw [if_pos hp,if_pos (h x hp),List.length_cons,List.length_cons];omega
    · rw [if_neg hp]
      split
      · rw [List.length_cons];omega
      · exact ih
theorem filter_len_lt {α:Type} (p q:α→Bool) (h:∀ x,p x=true→q x=true) {z:α} (hz:q z=true) (hp:p z=false):∀ l:List α,z∈l→(l.filter p).length < (l.filter q).length
  | [],hm=>by cases hm
  | x :: l,hm=>by
    rw [List.filter_cons,List.filter_cons]
    rcases List.mem_cons.1 hm with e | e
    · subst e
      rw [hp,if_neg (by simp),if_pos hz,List.length_cons]
      have:=filter_len_le p q h l
      omega
    · have ih:=filter_len_lt p q h hz hp l e
      by_cases hx:p x=true
      · rw [if_pos hx,if_pos (h x hx),List.length_cons,List.length_cons];omega
      · rw [if_neg hx]
        split
        · rw [List.length_cons];omega
        · exact ih
theorem rank_sign (xs:List Ln) (x y:Ln) (hx:x∈xs) (hy:y∈xs):Lib.compareBytes (ub x.1) (ub y.1) < 0↔rank xs x < rank xs y:=by
  rw [(cmpL_lt _ _).1]
  unfold rank
  constructor
  · intro h
    have:=filter_len_lt (fun z:Ln=>decide (ub z.1 < ub x.1)) (fun z:Ln=>decide (ub z.1 < ub y.1)) (fun z hz=>by
      simp only [decide_eq_true_eq] at hz ⊢;exact lex_trans hz h) (z:=x) (by simpa using h) (by simp) xs hx
    omega
  · intro h
    rcases lex_tri (ub x.1) (ub y.1) with c | c | c
    · exact c
    · rw [c] at h;omega
    · have:=filter_len_le (fun z:Ln=>decide (ub z.1 < ub y.1)) (fun z:Ln=>decide (ub z.1 < ub x.1)) (fun z hz=>by
        simp only [decide_eq_true_eq] at hz ⊢;exact lex_trans hz c) xs
      omega
open Classical in
noncomputable def sortA (xs:List Ln):List Ln:=if h:∃ ys,Stb.Srt (rank xs) ys∧Stb.Same (rank xs) ys xs then h.choose else xs
theorem sortA_is {xs ys:List Ln} (h1:Stb.Srt (rank xs) ys) (h2:Stb.Same (rank xs) ys xs):ys=sortA xs:=by
  unfold sortA
  rw [dif_pos ⟨ys,h1,h2⟩]
  have h:=(⟨ys,h1,h2⟩:∃ ys,Stb.Srt (rank xs) ys∧Stb.Same (rank xs) ys xs).choose_spec
  exact h1.unique h.1 (h2.trans h.2.symm)
set_option maxHeartbeats 1600000 in
theorem acctcmp_any (x y:Ln) (w:World):Calls Tryz.prog 114 #[.agg #[.string x.1,.int .i64 x.2],.agg #[.string y.1,.int .i64 y.2]] w fun e w'=>e=.returned (.int .i64 (Lib.compareBytes (ub x.1) (ub y.1)))∧Mor w w':=by
  have HC:=Lib.hid (fun w=>strcmp_any x.1 y.1 w)
  go_enter Tryz.func114,Tryz.ntmps114
  go_wp2_with fail
  refine (HC.out _).mono ?_
  rintro e w1 ⟨rfl,rfl⟩
  go_wp2_with fail
  go_returns
  exact ⟨rfl,by repeat (first | exact Mor.refl _ | apply Mor.alloc | apply Mor.more | apply Mor.drewN | apply Mor.drew)⟩
theorem acc_cb (xs:List Ln):CB (acc xs):=by
  have h:∀ k,CB (acUp xs k):=by
    intro k
    induction k with
    | zero=>unfold acUp CB;omega
    | succ k ih =>
      unfold acUp
      split
      · exact ih
      · unfold acAt CB
        split <;> (try split) <;> (try split) <;> omega
  unfold acc
  split
  · unfold CB;omega
  · exact h _
theorem ac_of_own {w:World} {B n c:Nat} {T:TypeId} {A:Option Addr} {xs:List Ln} (h:w.ownsRow B T 2 (.slice A n c) n (flat pc xs)) (hn:xs.length=n) (h1:0 < n):∃ g,A=some ⟨g,0,none⟩∧B≤g∧Ac.Dat w g xs:=by
  obtain ⟨hl,hh | ⟨g,cap,cur,e,hg,hb,h2,h3,h4,h5⟩⟩:=h
  · omega
  · injection e with e1 _ _
    refine ⟨g,e1,hg,T,cur,hb,fun i hi=>?_⟩
    have hfl:∀ j,j < n*2→cur[j]?=(flat pc xs)[j]?:=fun j hj=>by
      rw [← h5,List.getElem?_take,if_pos hj,Array.getElem?_toList]
    have hg0:=flat_get pc 2 pc_len xs i 0 hi (by omega) (.int .i64 0)
    have hg1:=flat_get pc 2 pc_len xs i 1 hi (by omega) (.int .i64 0)
    have hlf:(flat pc xs).length=n*2:=by rw [flat_len pc 2 pc_len,hn]
    have ei:xs[i]=Stb.ge xs i:=by unfold Stb.ge;rw [List.getD_eq_getElem?_getD,List.getElem?_eq_getElem hi];rfl
    rw [ei] at hg0 hg1
    rw [List.getD_eq_getElem?_getD,List.getElem?_eq_getElem (by omega)] at hg0 hg1
    rw [hfl _ (by omega),hfl _ (by omega),List.getElem?_eq_getElem (by omega),List.getElem?_eq_getElem (by omega)]
    exact ⟨congrArg some (by simpa [pc] using hg0),congrArg some (by simpa [pc] using hg1)⟩
theorem ac_to_own {w w':World} {B n c g:Nat} {T:TypeId} {xs ys:List Ln} (h:w.ownsRow B T 2 (.slice (some ⟨g,0,none⟩) n c) n (flat pc xs)) (ho:Ac.On g w w') (hd:Ac.Dat w' g ys) (hy:ys.length=n) :
    w'.ownsRow B T 2 (.slice (some ⟨g,0,none⟩) n c) n (flat pc ys):=by
  obtain ⟨hl,hh | ⟨g',cap,cur,e,hg,hb,h2,h3,h4,h5⟩⟩:=h
  · cases hh.1
  · injection e with e1 _ e3
    injection e1 with e1
    injection e1 with e1 _
    subst e1 e3
    obtain ⟨cs,hk,hsz⟩:=ho.kind T cur hb
    obtain ⟨T',cur',hb',hc⟩:=hd
    have e4:cs=cur':=by
      have:some (Obj.cells cs T (0,0))=some (Obj.cells cur' T' (0,0)):=hk.symm.trans hb'
      injection this with this
      injection this
    subst e4
    refine ⟨by rw [flat_len pc 2 pc_len,hy],.inr ⟨g,c,cs,rfl,hg,hk,h2,h3,by rw [hsz];exact h4,?_⟩⟩
    have hlf:(flat pc ys).length=n*2:=by rw [flat_len pc 2 pc_len,hy]
    have hcz:n*2≤cs.size:=by
      rw [hsz,h4]
      exact Nat.mul_le_mul_right 2 h2
    apply List.ext_getElem?
    intro j
    rw [List.getElem?_take]
    by_cases hj:j < n*2
    · rw [if_pos hj,Array.getElem?_toList]
      have hi:j / 2 < ys.length:=by omega
      obtain ⟨a0,a1⟩:=hc (j / 2) hi
      have hg:=flat_get pc 2 pc_len ys (j / 2) (j % 2) hi (by omega) (.int .i64 0)
      have ei:ys[j / 2]=Stb.ge ys (j / 2):=by unfold Stb.ge;rw [List.getD_eq_getElem?_getD,List.getElem?_eq_getElem hi];rfl
      rw [ei,show j / 2*2+j % 2=j by omega,List.getD_eq_getElem?_getD,List.getElem?_eq_getElem (by omega)] at hg
      rw [List.getElem?_eq_getElem (l:=flat pc ys) (by omega)]
      rcases Nat.mod_two_eq_zero_or_one j with hr | hr
      · rw [hr] at hg
        rw [show j / 2*2=j by omega] at a0
        rw [a0]
        exact congrArg some (by simpa [pc] using hg.symm)
      · rw [hr] at hg
        rw [show j / 2*2+1=j by omega] at a1
        rw [a1]
        exact congrArg some (by simpa [pc] using hg.symm)
    · rw [if_neg hj,List.getElem?_eq_none (by omega)]
open Classical in
noncomputable def accR (s:St) (code:ByteArray) (kind:Int):Do :=
  if acc (sortA (s.b.ac++[(code,kind)]))=0 then ⟨0,okB,⟨⟨sortA (s.b.ac++[(code,kind)]),s.b.en,s.b.shut⟩,s.ps⟩⟩ else ⟨acc (sortA (s.b.ac++[(code,kind)])),okB,s⟩
set_option maxHeartbeats 3200000 in
theorem account_any (D:Nat) (s:St) (w:World) (hd:Dk w D s) (code:ByteArray) (kind:Int) (hcs:code.size≤maxLen) :
    Calls Tryz.prog 68 #[.pointer (some ⟨D,0,none⟩),.string code,.int .i64 kind] w (DoPost w D s (accR s code kind)):=by
  obtain ⟨A,n,c,X,m,k,P,p,q,hd⟩:=hd
  obtain ⟨i0,hi0,hz0,hz1,hz2⟩:=info_parts info_acct
  have HD:=Lib.hid hd
  have d0:=hd.bk.cell 0
  have dl:=hd.bk.lt
  simp at d0
  have hn24:n≤24:=by rw [← hd.bq.ac.length];exact hd.kst.ac
  have HC:=Lib.hid (fun w' (hm:Mor w w')=>clone_ac A n c s.b.ac w' (hd.bq.ac.mor hm) (by omega))
  have HM0:=Lib.hid (show Mor w w from Mor.refl w)
  clear hd
  go_enter Tryz.func68,Tryz.ntmps68
  go_wp2_with fail
  refine (HC.out _ (Mor.refl _)).mono ?_
  rintro e w1 ⟨v,rfl,hown,hm⟩
  have HM1:=Lib.hid hm
  have HO1:=Lib.hid hown
  obtain ⟨A1,c1,rfl,_,_,_⟩:=own_shape hown
  clear hm hown d0
  have HO1':=Lib.hid (own_mor HO1.out ((Mor.refl w1).alloc (o:=.cells #[.string code,.int .i64 kind] 144)))
  have hbz:w.heap.size≤(w1.alloc (.cells #[.string code,.int .i64 kind] 144)).heap.size:=by have:=HM1.out.below.size;simp;omega
  go_wp2_with (at_builtin;refine wpList_append_own _ rfl _ _ 34 rfl w.heap.size 144 i0 (.agg #[.string { data:=#[] },.int .i64 0]) 2 24 Tryz.underlying34 hi0 hz0 hz1 hz2 rfl (by decide) _ n (flat pc s.b.ac) rfl HO1'.out ⟨w1.heap.size,0,none⟩ 1 1 [.string code,.int .i64 kind] rfl rfl (lit_at _ _ _ rfl rfl) (by intro u hu;simp at hu;rcases hu with rfl | rfl <;> rfl) (by unfold maxLen;omega) (by omega) hbz ?_)
  intro u7 w7 hown7 hgrow7 _
  obtain ⟨A7,c7,rfl,_,_,_⟩:=own_shape hown7
  obtain ⟨xs,hxs⟩:∃ xs,xs=s.b.ac++[(code,kind)]:=⟨_,rfl⟩
  have hrow:w7.ownsRow w.heap.size 144 2 (.slice A7 (n+1) c7) (n+1) (flat pc xs):=by rw [hxs,flat_snoc];exact hown7
  have hxl:xs.length=n+1:=by rw [hxs,List.length_append,HD.out.bq.ac.length];rfl
  obtain ⟨g,rfl,hgw,hdat⟩:=ac_of_own hrow hxl (by omega)
  have hm7:Mor w w7:=own_step HO1'.out HM1.out.alloc hgrow7
  have eg:∀ args w,(callFunc 114 args).run Tryz.prog w=.ok (.enter 114 args) w:=enters_of Tryz.func114 (by kernel_rfl) rfl
  have hS:=Ac.sortStable_int g (n+1) c7 114 #[] (fun x=>x∈xs) (rank xs) (fun x y=>Lib.compareBytes (ub x.1) (ub y.1)) xs w7 eg ⟨fun x y hx hy=>rank_sign xs x y hx hy,fun w' _ x y _ _=>acctcmp_any x y w'⟩ (fun i hi=>by
    unfold Stb.ge;rw [List.getD_eq_getElem?_getD,List.getElem?_eq_getElem hi];exact List.getElem_mem hi) hdat hxl (by omega)
  have HS:=Lib.hid hS
  have HRow:=Lib.hid hrow
  have HM7:=Lib.hid hm7
  have HXs:=Lib.hid hxs
  have HXl:=Lib.hid hxl
  clear hS hrow hm7 hxl hxs hown7 hgrow7 HO1 HO1' hbz hdat HC
  rename_i hn7 hrd7 hex7
  clear hn7 hrd7 hex7
  go_wp2_with (first | (go_at_call 113;(with_reducible refine HS.out.mono ?_);rintro e w8 ⟨rfl,ys,hyl,hys,hysm,hyd,hon⟩))
  obtain rfl:=sortA_is hys hysm
  have hyn:(sortA xs).length=n+1:=hyl.trans HXl.out
  have own8:=ac_to_own HRow.out hon hyd hyn
  have hsz:∀ i,i < n+1→(cd (sortA xs) i).size≤maxLen:=fun i hi=>by
    have hi':i < (sortA xs).length:=by omega
    have hm:=hysm.mem (List.getElem_mem hi')
    have e:cd (sortA xs) i=((sortA xs)[i]).1:=by unfold cd;rw [List.getD_eq_getElem?_getD,List.getElem?_eq_getElem hi'];rfl
    rw [e]
    generalize (sortA xs)[i]=z at hm ⊢
    rw [HXs.out] at hm
    rcases List.mem_append.1 hm with hm | hm
    · obtain ⟨j,hj,hz⟩:=List.getElem_of_mem hm
      have:=HD.out.bq.ac.str j (by rw [← HD.out.bq.ac.length];exact hj)
      unfold cd at this
      rw [List.getD_eq_getElem?_getD,List.getElem?_eq_getElem hj,hz] at this
      exact this
    · rw [List.mem_singleton.1 hm];exact hcs
  have hm8:Mor w w8:=by
    have hB:=HM7.out.below
    exact Mor.of_below ⟨hon.os.trans hB.os,hon.tape.trans hB.tape,hon.output.trans hB.output,Nat.le_trans hB.size hon.size,fun j hj=>(hon.block j (by omega) (Nat.lt_of_lt_of_le hj hB.size)).trans (hB.block j hj)⟩
  have HAc:=Lib.hid (acct_any (some ⟨g,0,none⟩) (n+1) c7 (sortA xs) w8 (Si.of_rd (Rd.own own8)) hyn (by unfold maxLen;omega) hsz)
  have HM8:=Lib.hid hm8
  have HO8:=Lib.hid own8
  have HSz:=Lib.hid hsz
  have HYn:=Lib.hid hyn
  have HR:=Lib.hid (show accR s code kind=if acc (sortA xs)=0 then ⟨0,okB,⟨⟨sortA xs,s.b.en,s.b.shut⟩,s.ps⟩⟩ else ⟨acc (sortA xs),okB,s⟩ by rw [HXs.out];rfl)
  have hac24:acc (sortA xs)=0→(sortA xs).length≤24:=fun h=>acc_len h
  have HL24:=Lib.hid hac24
  clear hyl hys hysm hyd hon own8 hsz hm8 hyn hac24 HRow HM7 HXl HS hgw
  generalize sortA xs=ys at *
  by_cases hc0:acc ys=0
  · have HMo:=Lib.hid (fun w=>must_ok w)
    rw [hc0] at HAc
    have HR':=Lib.hid (show accR s code kind=⟨0,okB,⟨⟨ys,s.b.en,s.b.shut⟩,s.ps⟩⟩ by rw [HR.out,if_pos hc0])
    have h24:=HL24.out hc0
    clear HR hc0 HL24
    refine HAc.out.mono ?_
    rintro e w9 ⟨rfl,hm9⟩
    have hd9:=HD.out.mor (HM8.out.trans' hm9)
    have d0:=hd9.bk.cell 0
    have f0:=hd9.bk.frozen 0
    have dl9:=hd9.bk.lt
    simp at d0
    have HD9:=Lib.hid hd9
    have HO9:=Lib.hid (own_mor HO8.out hm9)
    have HM9:=Lib.hid (HM8.out.trans' hm9)
    clear hd9 hm9 HAc
    go_wp2_with (first | (go_at_call 57;(with_reducible refine (HMo.out _).mono ?_);rintro e w1 ⟨rfl,rfl⟩))
    go_returns
    rw [HR'.out]
    have hb:=HD9.out.bk.set_ 0 (.slice (some ⟨g,0,none⟩) (n+1) c7)
    have ho:=HD9.out.ob.setD (i:=0) (u:=.slice (some ⟨g,0,none⟩) (n+1) c7) HD9.out.bk (by decide) (by decide) (by decide)
    refine ⟨.inl ⟨rfl,rfl,⟨_,n+1,c7,X,m,k,P,p,q,⟨by simpa using hb,⟨own_setT (own_base HO9.out (by omega)) HD9.out.bk (by decide),HYn.out,HSz.out,ho.es⟩,own_setT HD9.out.op HD9.out.bk (by decide),HD9.out.pl,⟨HD9.out.kst.keys,HD9.out.kst.few,h24,HD9.out.kst.ps,HD9.out.kst.pwf⟩⟩⟩⟩,(On.of_mor HM9.out).setCell _⟩
  · have HMn:=Lib.hid (fun w=>must_no (acc ys) w hc0)
    have HR':=Lib.hid (show accR s code kind=⟨acc ys,okB,s⟩ by rw [HR.out,if_neg hc0])
    have HC0:=Lib.hid hc0
    clear HR hc0 HL24
    generalize acc ys=r at *
    refine HAc.out.mono ?_
    rintro e w9 ⟨rfl,hm9⟩
    have HM9:=Lib.hid (HM8.out.trans' hm9)
    clear hm9 HAc
    go_wp2_with (first | (go_at_call 57;(with_reducible refine (HMn.out _).mono ?_);rintro e w1 ⟨he,rfl⟩;rw [bang] at he;subst he))
    rw [HR'.out]
    exact ⟨rfl,.inr ⟨HC0.out,rfl,⟨_,_,_,_,_,_,_,_,_,HD.out.mor HM9.out⟩⟩,On.of_mor HM9.out⟩
end Go.Proofs.YtdhbkifpodekcaaGreatDoor
namespace Go.Proofs.YtdhbkifpodekcaaGreatDoor
open Go Go.PlainAid
set_option linter.unusedVariables false
set_option maxRecDepth 100000
theorem cb_ite {p:Prop} [Decidable p] {a b:Int} (ha:CB a) (hb:CB b):CB (if p then a else b):=by split <;> assumption
theorem lnUp_cb (xs:List Ln):∀ k,CB (lnUp xs k)
  | 0=>by unfold lnUp CB;omega
  | k+1=>by
    unfold lnUp
    refine cb_ite (lnUp_cb xs k) ?_
    unfold lnAt
    repeat' (first | apply cb_ite | (unfold CB;omega))
theorem enc_cb (x:En):CB (enc x):=by
  unfold enc entc linec
  repeat' (first | exact lnUp_cb _ _ | apply cb_ite | (unfold CB;omega))
theorem bkUp_cb (ac:List Ln) (es:List En):∀ k,CB (bkUp ac es k)
  | 0=>by unfold bkUp CB;omega
  | k+1=>by
    unfold bkUp
    refine cb_ite (bkUp_cb ac es k) ?_
    unfold bkAt
    repeat' (first | exact enc_cb _ | apply cb_ite | (unfold CB;omega))
theorem bookc_cb (b:Bok):CB (bookc b):=by
  unfold bookc
  repeat' (first | exact acc_cb _ | exact bkUp_cb _ _ _ | apply cb_ite | (unfold CB;omega))
theorem postc_cb (b:Bok) (x:En):CB (postc b x):=by
  unfold postc
  repeat' (first | exact bookc_cb _ | exact enc_cb _ | apply cb_ite | (unfold CB;omega))
theorem shutc_cb (b:Bok) (d:Int):CB (shutc b d):=by
  unfold shutc
  repeat' (first | exact bookc_cb _ | apply cb_ite | (unfold CB;omega))
theorem closec_cb (b:Bok) (key:ByteArray) (d:Int) (code:ByteArray):CB (closec b key d code):=by
  unfold closec
  repeat' (first | exact bookc_cb _ | exact postc_cb _ _ | exact shutc_cb _ _ | apply cb_ite | (unfold CB;omega))
theorem undoc_cb (b:Bok) (key by':ByteArray) (d:Int):CB (undoc b key by' d):=by
  unfold undoc
  repeat' (first | exact bookc_cb _ | exact postc_cb _ _ | exact enc_cb _ | apply cb_ite | (unfold CB;omega))
theorem onec_cb (p:Pln):CB (onec p):=by
  unfold onec
  repeat' (first | apply cb_ite | (unfold CB;omega))
theorem plUp_cb (ps:List Pln):∀ k,CB (plUp ps k)
  | 0=>by unfold plUp CB;omega
  | k+1=>by
    unfold plUp
    refine cb_ite (plUp_cb ps k) ?_
    unfold plAt
    repeat' (first | exact onec_cb _ | apply cb_ite | (unfold CB;omega))
theorem plc_cb (ps:List Pln):CB (plc ps):=by
  unfold plc
  repeat' (first | exact plUp_cb _ _ | apply cb_ite | (unfold CB;omega))
theorem puc_cb (b:Bok) (es:List En):∀ k,CB (puc b es k)
  | 0=>by unfold puc CB;omega
  | k+1=>by unfold puc;exact cb_ite (puc_cb b es k) (postc_cb _ _)
theorem runc_cb (b:Bok) (ps:List Pln) (d:Int):CB (runc b ps d):=by
  unfold runc
  repeat' (first | exact bookc_cb _ | exact plc_cb _ | exact puc_cb _ _ _ | apply cb_ite | (unfold CB;omega))
theorem balc_cb (b:Bok) (s:ByteArray) (d:Int):CB (balc b s d):=by
  unfold balc
  repeat' (first | exact bookc_cb _ | apply cb_ite | (unfold CB;omega))
theorem lookc_cb (b:Bok) (d:Int):CB (lookc b d):=by
  unfold lookc
  repeat' (first | exact bookc_cb _ | apply cb_ite | (unfold CB;omega))
theorem profc_cb (b:Bok) (f t:Int):CB (profc b f t):=by
  unfold profc
  repeat' (first | exact bookc_cb _ | exact lookc_cb _ _ | apply cb_ite | (unfold CB;omega))
end Go.Proofs.YtdhbkifpodekcaaGreatDoor
namespace Go.Proofs.YtdhbkifpodekcaaGreatDoor
open Go Go.ChangeShapes Go.WideShapes Go.ChangeAt Go.RowKit Go.PlainAid
set_option linter.unusedVariables false
set_option maxRecDepth 100000
open Classical in
noncomputable def bkR (c:Int) (y:Bok) (s:St):Do:=if c=0 then ⟨0,okB,⟨y,s.ps⟩⟩ else ⟨c,okB,s⟩
theorem become_any (D:Nat) (s:St) (w:World) (hd:Dk w D s) (y:Bok) (r:Int) (A:Option Addr) (n c:Nat) (X:Option Addr) (m k:Nat) (sh:Int) (hs:r=0→y.shut=sh) (ho:r=0→OwnB w (D+1) (.slice A n c) (.slice X m k) n m y) (hy:r=0→BOk y) :
    Calls Tryz.prog 71 #[.pointer (some ⟨D,0,none⟩),bv A n c X m k sh,.int .i64 r] w (DoPost w D s (bkR r y s)):=by
  unfold bkR
  by_cases hr:r=0
  · subst hr
    rw [if_pos rfl]
    obtain rfl:=hs rfl
    have hb:=hy rfl
    exact become_ok D s w hd y A n c X m k (ho rfl) (fun x hx=>(entc_ok (hb.enc x hx)).1) hb.len (acc_len hb.ac)
  · rw [if_neg hr]
    refine (become_no D s w hd A n c X m k sh r hr).mono fun e w' hh=>?_
    obtain ⟨he,hm⟩:=hh
    exact ⟨.inr ⟨hr,he,hd.mor hm⟩,On.of_mor hm⟩
theorem DoPost.pre {w w1 w':World} {D:Nat} {s:St} {r:Do} {e:Ending} (hm:Mor w w1) (h:DoPost w1 D s r e w'):DoPost w D s r e w':=⟨h.1,(On.of_mor hm).trans h.2⟩
theorem shut_anyD (A:Option Addr) (n c:Nat) (X:Option Addr) (m k:Nat) (b:Bok) (day:Int) (w:World) (hb:Bq w A n c X m k b) :
    Calls Tryz.prog 74 #[bv A n c X m k b.shut,.int .i64 day] w (PostAny w (if shutc b day=0 then shutb b day else zeroB) (shutc b day)):=by
  by_cases h:shutc b day=0
  · obtain ⟨h1,h2,h3,h4⟩:=shutc_zero h
    rw [if_pos h,h]
    exact (shut_yes A n c X m k b day w hb h1 h2 h3 h4).mono fun e w' hh=>any_yes hh
  · rw [if_neg h]
    exact (shut_no A n c X m k b day w hb h).mono fun e w' hh=>any_no hh
theorem become_call (D:Nat) (s:St) (w w1 w2:World) (hd:Dk w D s) (hm1:Mor w w1) (hm2:Mor w1 w2) (y:Bok) (r:Int) (A:Option Addr) (n c:Nat) (X:Option Addr) (m k:Nat) (hD:D < w1.heap.size) (ho:OwnB w2 w1.heap.size (.slice A n c) (.slice X m k) n m y) (hy:r=0→BOk y) :
    Calls Tryz.prog 71 #[.pointer (some ⟨D,0,none⟩),bv A n c X m k y.shut,.int .i64 r] w2 (DoPost w D s (bkR r y s)) :=
  (become_any D s w2 (hd.mor (hm1.trans' hm2)) y r A n c X m k y.shut (fun _=>rfl) (fun _=>ho.base hD) hy).mono fun _ _ h=>h.pre (hm1.trans' hm2)
theorem cell_onD {D:Nat} {w w':World} (h:On D w w') {b i:Nat} {v:Value} (hc:w.cell? ⟨b,i,none⟩=some v) (hb:b≠D):w'.cell? ⟨b,i,none⟩=some v:=by
  have hl:=World.block_lt_of_cell? _ _ hc
  have e:=h.block b hb hl
  rw [World.cell?] at hc ⊢
  simp only [] at hc ⊢
  rw [e];exact hc
theorem DoPost.okH {w w':World} {D:Nat} {s:St} {r:Do} {e:Ending} (h:DoPost w D s r e w') (hr:r.c=0):e=.returned (.string r.out)∧Hid (DoPost w D s r (.returned (.string r.out)) w'):=by
  rcases h.1 with ⟨_,he,_⟩ | ⟨hn,_⟩
  · subst he;exact ⟨rfl,Lib.hid h⟩
  · exact absurd hr hn
theorem DoPost.noH {w w':World} {D:Nat} {s:St} {r:Do} {e:Ending} (h:DoPost w D s r e w') (hr:¬ r.c=0):e=bang r.c∧Hid (DoPost w D s r (bang r.c) w'):=by
  rcases h.1 with ⟨hn,_⟩ | ⟨_,he,_⟩
  · exact absurd hn hr
  · subst he;exact ⟨rfl,Lib.hid h⟩
theorem shut_okD {b:Bok} {n:Int} (h:shutc b n=0):BOk (if shutc b n=0 then shutb b n else zeroB):=by
  obtain ⟨h1,h2,h3,h4⟩:=shutc_zero h
  rw [if_pos h];exact shut_ok ((bookc_iff b).1 h1) h2 h3
theorem close_okD {b:Bok} {key:ByteArray} {n:Int} {code:ByteArray} (h:closec b key n code=0):BOk (closeb b key n code):=(closed h).1
theorem undo_okD {b:Bok} {key by':ByteArray} {n:Int} (h:undoc b key by' n=0):BOk (undob b key by' n):=by
  unfold undob
  rw [if_pos h]
  exact post_ok (undoc_zero h).2.2.2.2.2
theorem post_okD {b:Bok} {x:En} (h:postc b x=0):BOk (if postc b x=0 then postb b x else zeroB):=by
  rw [if_pos h];exact post_ok h
theorem post_anyD (A:Option Addr) (n c:Nat) (X:Option Addr) (m k:Nat) (b:Bok) (x:En) (B:Option Addr) (p q:Nat) (w:World) (hb:Bq w A n c X m k b) (hx:Lq w B p q x.ls) (hks:x.key.size≤maxLen) :
    Calls Tryz.prog 72 #[bv A n c X m k b.shut,.agg #[.string x.key,.int .i64 x.day,.slice B p q]] w (PostAny w (if postc b x=0 then postb b x else zeroB) (postc b x)):=by
  by_cases h:postc b x=0
  · rw [if_pos h,h]
    exact (post_yes A n c X m k b x B p q w hb hx hks h).mono fun e w' hh=>any_yes hh
  · rw [if_neg h]
    exact (post_no A n c X m k b x B p q w hb hx hks h).mono fun e w' hh=>any_no hh
noncomputable def runcD (b:Bok) (ps:List Pln) (n:Int):Int:=if 0≤n∧n≤292193 then runc b ps n else if bookc b≠0 then bookc b else if plc ps≠0 then plc ps else 1
theorem runcD_zero {b:Bok} {ps:List Pln} {n:Int} (h:runcD b ps n=0):(0≤n∧n≤292193)∧runc b ps n=0:=by
  unfold runcD at h
  by_cases c:0≤n∧n≤292193
  · rw [if_pos c] at h;exact ⟨c,h⟩
  · rw [if_neg c] at h
    by_cases h1:bookc b=0
    · rw [if_neg (by simp [h1])] at h
      by_cases h2:plc ps=0
      · rw [if_neg (by simp [h2])] at h;omega
      · rw [if_pos h2] at h;exact absurd h h2
    · rw [if_pos h1] at h;exact absurd h h1
theorem run_okD {b:Bok} {ps:List Pln} {n:Int} (h:runcD b ps n=0):BOk (if runcD b ps n=0 then madeb b (dueP ps n) else zeroB):=by
  rw [if_pos h]
  exact madeb_ok ((bookc_iff b).1 (runc_zero (runcD_zero h).2).1) _
theorem run_anyD (A:Option Addr) (n c:Nat) (X:Option Addr) (m k:Nat) (b:Bok) (L:Option Addr) (p q:Nat) (ps:List Pln) (day:Int) (w:World) (hb:Bq w A n c X m k b) (hr:Ps w L ps) (hn:ps.length=p) (hcap:p≤q) (hml:q≤maxLen) (ht:Tab w) :
    Calls Tryz.prog 83 #[bv A n c X m k b.shut,.slice L p q,.int .i64 day] w (PostAny w (if runcD b ps day=0 then madeb b (dueP ps day) else zeroB) (runcD b ps day)):=by
  by_cases hd:0≤day∧day≤292193
  · have e:runcD b ps day=runc b ps day:=by unfold runcD;rw [if_pos hd]
    rw [e]
    by_cases hc:runc b ps day=0
    · rw [if_pos hc,hc]
      exact (run_yes A n c X m k b L p q ps day w hb hr hn hcap hml ht hd.1 hd.2 hc).mono fun e w' hh=>any_yes hh
    · rw [if_neg hc]
      exact (run_no A n c X m k b L p q ps day w hb hr hn hcap hml ht hd.1 hd.2 hc).mono fun e w' hh=>any_no hh
  · by_cases h1:bookc b=0
    · by_cases h2:plc ps=0
      · have e:runcD b ps day=1:=by unfold runcD;rw [if_neg hd,if_neg (by simp [h1]),if_neg (by simp [h2])]
        rw [e,if_neg (by omega)]
        exact (run_bade A n c X m k b L p q day 1 w hb h1 (by omega) (fun w' h=>due_day L p q ps day w' (hr.mor h) hn hcap hml (ht.mor h) h2 hd)).mono fun e w' hh=>any_no hh
      · have e:runcD b ps day=plc ps:=by unfold runcD;rw [if_neg hd,if_neg (by simp [h1]),if_pos h2]
        rw [e,if_neg h2]
        exact (run_bade A n c X m k b L p q day (plc ps) w hb h1 h2 (fun w' h=>due_no L p q ps day w' (hr.mor h) hn hcap hml (ht.mor h) h2)).mono fun e w' hh=>any_no hh
    · have e:runcD b ps day=bookc b:=by unfold runcD;rw [if_neg hd,if_pos h1]
      rw [e,if_neg h1]
      exact (run_bad1' A n c X m k b L p q day w hb h1).mono fun e w' hh=>any_no hh
theorem runcD_cb (b:Bok) (ps:List Pln) (d:Int):CB (runcD b ps d):=by
  unfold runcD
  repeat' (first | exact bookc_cb _ | exact plc_cb _ | exact runc_cb _ _ _ | apply cb_ite | (unfold CB;omega))
set_option maxHeartbeats 3200000 in
theorem do_shut (D:Nat) (wb:World) (bd bn:Nat) (n:Int) (h0:wb.cell? ⟨bd,0,none⟩=some (.pointer (some ⟨D,0,none⟩))) (h1:wb.cell? ⟨bn,0,none⟩=some (.int .i64 n)) (h0D:bd≠D) (h1D:bn≠D) :
    DoC 73 #[.pointer (some ⟨bd,0,none⟩),.pointer (some ⟨bn,0,none⟩)] D wb (fun s=>bkR (shutc s.b n) (if shutc s.b n=0 then shutb s.b n else zeroB) s):=by
  intro w s hm hd
  have HD:=Lib.hid hd
  obtain ⟨A,na,c,X,m,k,P,p,q,hd⟩:=hd
  have g0:=cell_morD hm h0
  have g1:=cell_morD hm h1
  have d0:=hd.bk.cell 0
  have d1:=hd.bk.cell 1
  have d2:=hd.bk.cell 2
  have d3:=hd.bk.cell 3
  have dl:=hd.bk.lt
  simp at d0 d1 d2 d3
  have HF:=Lib.hid (fun w' (hm:Mor w w')=>shut_anyD A na c X m k s.b n w' (hd.bq.mor hm))
  have HB:=Lib.hid (fun w1 w2 A n' c X m k (hm1:Mor w w1) (hm2:Mor w1 w2) ho=>become_call D s w w1 w2 HD.out hm1 hm2 (if shutc s.b n=0 then shutb s.b n else zeroB) (shutc s.b n) A n' c X m k (Nat.lt_of_lt_of_le dl hm1.below.size) ho (fun h=>shut_okD h))
  have HKp:=Lib.hid (fun w' (hm':Mor w w')=>show w'.cell? ⟨bd,0,none⟩=some (.pointer (some ⟨D,0,none⟩))∧w'.cell? ⟨bn,0,none⟩=some (.int .i64 n) from ⟨cell_morD hm' g0,cell_morD hm' g1⟩)
  have HKo:=Lib.hid (fun w' (ho:On D w w')=>show w'.cell? ⟨bd,0,none⟩=some (.pointer (some ⟨D,0,none⟩))∧w'.cell? ⟨bn,0,none⟩=some (.int .i64 n) from ⟨cell_onD ho g0 (h0D),cell_onD ho g1 (h1D)⟩)
  clear hd hm h0 h1
  show Calls _ _ _ _ (DoPost w D s (bkR (shutc s.b n) (if shutc s.b n=0 then shutb s.b n else zeroB) s))
  generalize (if shutc s.b n=0 then shutb s.b n else zeroB)=y at *
  generalize (shutc s.b n)=r at *
  generalize s.b.shut=sh at *
  generalize bkR r y s=dr at *
  by_cases hr:dr.c=0
  · have HBo:=Lib.hid (fun w1 w2 A n' c X m k (hm1:Mor w w1) (hm2:Mor w1 w2) (ho:OwnB w2 w1.heap.size (.slice A n' c) (.slice X m k) n' m y)=>(HB.out w1 w2 A n' c X m k hm1 hm2 ho).mono fun e w' hh=>DoPost.okH hh hr)
    clear HB hr
    go_enter Tryz.func73,Tryz.ntmps73
    go_wp2_with fail
    refine wp_region_held_drew (S:=fun w'=>w'.cell? ⟨bd,0,none⟩=some (.pointer (some ⟨D,0,none⟩))∧w'.cell? ⟨bn,0,none⟩=some (.int .i64 n)) (by kernel_rfl) ?_ (fun hHeld=>?_)
    · exact HKp.out _ (by repeat (first | exact Mor.refl _ | apply Mor.alloc | apply Mor.more | apply Mor.drewN | apply Mor.drew))
    refine wpAnyH_take (i:=0) (v:=?_) rfl (by kernel_rfl) (by kernel_rfl) (by kernel_rfl) (fun _ _ _ h=>h) (Or.inl ⟨by rfl,?_⟩) (by assumption) ?_
    rotate_left
    · (intro w hSw;(try dsimp only at hSw);go_simp;try with_reducible rfl)
    dsimp [Act.put]
    simp only [List.setIfInBounds_toArray,List.set_cons_zero,List.set_cons_succ]
    refine wpAnyH_take (i:=1) (v:=?_) rfl (by kernel_rfl) (by kernel_rfl) (by kernel_rfl) (fun _ _ _ h=>h) (Or.inl ⟨by rfl,?_⟩) (by assumption) ?_
    rotate_left
    · (intro w hSw;(try dsimp only at hSw);go_simp;try with_reducible rfl)
    dsimp [Act.put]
    simp only [List.setIfInBounds_toArray,List.set_cons_zero,List.set_cons_succ]
    refine wpAnyH_take (i:=2) (v:=?_) rfl (by kernel_rfl) (by kernel_rfl) (by kernel_rfl) (fun _ _ _ h=>h) (Or.inl ⟨by rfl,?_⟩) (by assumption) ?_
    rotate_left
    · (intro w hSw;(try dsimp only at hSw);go_simp;try with_reducible rfl)
    dsimp [Act.put]
    simp only [List.setIfInBounds_toArray,List.set_cons_zero,List.set_cons_succ]
    refine wpAnyH_take (i:=3) (v:=?_) rfl (by kernel_rfl) (by kernel_rfl) (by kernel_rfl) (fun _ _ _ h=>h) (Or.inl ⟨by rfl,?_⟩) (by assumption) ?_
    rotate_left
    · (intro w hSw;(try dsimp only at hSw);go_simp;try with_reducible rfl)
    dsimp [Act.put]
    simp only [List.setIfInBounds_toArray,List.set_cons_zero,List.set_cons_succ]
    refine wpAnyH_take (i:=5) (v:=?_) rfl (by kernel_rfl) (by kernel_rfl) (by kernel_rfl) (fun _ _ _ h=>h) (Or.inl ⟨by rfl,?_⟩) (by assumption) ?_
    rotate_left
    · (intro w hSw;(try dsimp only at hSw);go_simp;try with_reducible rfl)
    dsimp [Act.put]
    simp only [List.setIfInBounds_toArray,List.set_cons_zero,List.set_cons_succ]
    refine wpAnyH_ready (rs:=[4]) (by kernel_rfl) (by simp) ?_
    refine AllReadyH.cons rfl (fun K hK=>?_) ?_
    · go_simp
      refine hK.out _ _ ?_ (fun hHeld=>?_)
      · exact HKp.out _ (by repeat (first | exact Mor.refl _ | apply Mor.alloc | apply Mor.more | apply Mor.drewN | apply Mor.drew))
      clear hK K
      try dsimp [Act.put]
      try simp only [List.setIfInBounds_toArray,List.set_cons_zero,List.set_cons_succ]
      refine wpAnyH_ready (rs:=[6]) (by kernel_rfl) (by simp) ?_
      refine AllReadyH.cons rfl (fun K hK=>?_) ?_
      · go_simp
        refine (HF.out _ (by repeat (first | exact Mor.refl _ | apply Mor.alloc | apply Mor.more | apply Mor.drewN | apply Mor.drew))).mono ?_
        rintro e w5 ⟨A5,n5,c5,X5,m5,k5,rfl,ho5,hm5⟩
        have HO5:=Lib.hid ho5
        have HM5:=Lib.hid hm5
        clear ho5 hm5
        go_simp
        refine hK.out _ _ ?_ (fun hHeld=>?_)
        · exact HKp.out _ (Mor.trans' (by repeat (first | exact Mor.refl _ | apply Mor.alloc | apply Mor.more | apply Mor.drewN | apply Mor.drew)) HM5.out)
        clear hK K
        try dsimp [Act.put]
        try simp only [List.setIfInBounds_toArray,List.set_cons_zero,List.set_cons_succ]
        refine wpAnyH_take (i:=7) (v:=?_) rfl (by kernel_rfl) (by kernel_rfl) (by kernel_rfl) (fun _ _ _ h=>h) (Or.inl ⟨by rfl,?_⟩) (by assumption) ?_
        rotate_left
        · (intro w hSw;(try dsimp only at hSw);go_simp;try with_reducible rfl)
        dsimp [Act.put]
        simp only [List.setIfInBounds_toArray,List.set_cons_zero,List.set_cons_succ]
        refine wpAnyH_take (i:=8) (v:=?_) rfl (by kernel_rfl) (by kernel_rfl) (by kernel_rfl) (fun _ _ _ h=>h) (Or.inl ⟨by rfl,?_⟩) (by assumption) ?_
        rotate_left
        · (intro w hSw;(try dsimp only at hSw);go_simp;try with_reducible rfl)
        dsimp [Act.put]
        simp only [List.setIfInBounds_toArray,List.set_cons_zero,List.set_cons_succ]
        refine wpAnyH_ready (rs:=[9]) (by kernel_rfl) (by simp) ?_
        refine AllReadyH.cons rfl (fun K hK=>?_) ?_
        · go_simp
          refine (HBo.out _ _ _ _ _ _ _ _ (by repeat (first | exact Mor.refl _ | apply Mor.alloc | apply Mor.more | apply Mor.drewN | apply Mor.drew)) HM5.out HO5.out).mono ?_
          rintro e w6 ⟨rfl,HX6⟩
          go_simp
          refine hK.out _ _ ?_ (fun hHeld=>?_)
          · exact HKo.out _ HX6.out.2
          clear hK K
          try dsimp [Act.put]
          try simp only [List.setIfInBounds_toArray,List.set_cons_zero,List.set_cons_succ]
          refine wpAnyH_ready (rs:=[10]) (by kernel_rfl) (by simp) ?_
          refine AllReadyH.cons rfl (fun K hK=>?_) ?_
          · go_simp
            refine hK.out _ _ ?_ (fun hHeld=>?_)
            · exact HKo.out _ HX6.out.2
            clear hK K
            try dsimp [Act.put]
            try simp only [List.setIfInBounds_toArray,List.set_cons_zero,List.set_cons_succ]
            refine wpAnyH_done (by kernel_rfl) ?_ _
            go_wp2_with fail
            go_returns
            exact HX6.out
          exact AllReadyH.nil
        exact AllReadyH.nil
      exact AllReadyH.nil
    exact AllReadyH.nil
  · have HBo:=Lib.hid (fun w1 w2 A n' c X m k (hm1:Mor w w1) (hm2:Mor w1 w2) (ho:OwnB w2 w1.heap.size (.slice A n' c) (.slice X m k) n' m y)=>(HB.out w1 w2 A n' c X m k hm1 hm2 ho).mono fun e w' hh=>DoPost.noH hh hr)
    clear HB hr
    go_enter Tryz.func73,Tryz.ntmps73
    go_wp2_with fail
    refine wp_region_held_drew (S:=fun w'=>w'.cell? ⟨bd,0,none⟩=some (.pointer (some ⟨D,0,none⟩))∧w'.cell? ⟨bn,0,none⟩=some (.int .i64 n)) (by kernel_rfl) ?_ (fun hHeld=>?_)
    · exact HKp.out _ (by repeat (first | exact Mor.refl _ | apply Mor.alloc | apply Mor.more | apply Mor.drewN | apply Mor.drew))
    refine wpAnyH_take (i:=0) (v:=?_) rfl (by kernel_rfl) (by kernel_rfl) (by kernel_rfl) (fun _ _ _ h=>h) (Or.inl ⟨by rfl,?_⟩) (by assumption) ?_
    rotate_left
    · (intro w hSw;(try dsimp only at hSw);go_simp;try with_reducible rfl)
    dsimp [Act.put]
    simp only [List.setIfInBounds_toArray,List.set_cons_zero,List.set_cons_succ]
    refine wpAnyH_take (i:=1) (v:=?_) rfl (by kernel_rfl) (by kernel_rfl) (by kernel_rfl) (fun _ _ _ h=>h) (Or.inl ⟨by rfl,?_⟩) (by assumption) ?_
    rotate_left
    · (intro w hSw;(try dsimp only at hSw);go_simp;try with_reducible rfl)
    dsimp [Act.put]
    simp only [List.setIfInBounds_toArray,List.set_cons_zero,List.set_cons_succ]
    refine wpAnyH_take (i:=2) (v:=?_) rfl (by kernel_rfl) (by kernel_rfl) (by kernel_rfl) (fun _ _ _ h=>h) (Or.inl ⟨by rfl,?_⟩) (by assumption) ?_
    rotate_left
    · (intro w hSw;(try dsimp only at hSw);go_simp;try with_reducible rfl)
    dsimp [Act.put]
    simp only [List.setIfInBounds_toArray,List.set_cons_zero,List.set_cons_succ]
    refine wpAnyH_take (i:=3) (v:=?_) rfl (by kernel_rfl) (by kernel_rfl) (by kernel_rfl) (fun _ _ _ h=>h) (Or.inl ⟨by rfl,?_⟩) (by assumption) ?_
    rotate_left
    · (intro w hSw;(try dsimp only at hSw);go_simp;try with_reducible rfl)
    dsimp [Act.put]
    simp only [List.setIfInBounds_toArray,List.set_cons_zero,List.set_cons_succ]
    refine wpAnyH_take (i:=5) (v:=?_) rfl (by kernel_rfl) (by kernel_rfl) (by kernel_rfl) (fun _ _ _ h=>h) (Or.inl ⟨by rfl,?_⟩) (by assumption) ?_
    rotate_left
    · (intro w hSw;(try dsimp only at hSw);go_simp;try with_reducible rfl)
    dsimp [Act.put]
    simp only [List.setIfInBounds_toArray,List.set_cons_zero,List.set_cons_succ]
    refine wpAnyH_ready (rs:=[4]) (by kernel_rfl) (by simp) ?_
    refine AllReadyH.cons rfl (fun K hK=>?_) ?_
    · go_simp
      refine hK.out _ _ ?_ (fun hHeld=>?_)
      · exact HKp.out _ (by repeat (first | exact Mor.refl _ | apply Mor.alloc | apply Mor.more | apply Mor.drewN | apply Mor.drew))
      clear hK K
      try dsimp [Act.put]
      try simp only [List.setIfInBounds_toArray,List.set_cons_zero,List.set_cons_succ]
      refine wpAnyH_ready (rs:=[6]) (by kernel_rfl) (by simp) ?_
      refine AllReadyH.cons rfl (fun K hK=>?_) ?_
      · go_simp
        refine (HF.out _ (by repeat (first | exact Mor.refl _ | apply Mor.alloc | apply Mor.more | apply Mor.drewN | apply Mor.drew))).mono ?_
        rintro e w5 ⟨A5,n5,c5,X5,m5,k5,rfl,ho5,hm5⟩
        have HO5:=Lib.hid ho5
        have HM5:=Lib.hid hm5
        clear ho5 hm5
        go_simp
        refine hK.out _ _ ?_ (fun hHeld=>?_)
        · exact HKp.out _ (Mor.trans' (by repeat (first | exact Mor.refl _ | apply Mor.alloc | apply Mor.more | apply Mor.drewN | apply Mor.drew)) HM5.out)
        clear hK K
        try dsimp [Act.put]
        try simp only [List.setIfInBounds_toArray,List.set_cons_zero,List.set_cons_succ]
        refine wpAnyH_take (i:=7) (v:=?_) rfl (by kernel_rfl) (by kernel_rfl) (by kernel_rfl) (fun _ _ _ h=>h) (Or.inl ⟨by rfl,?_⟩) (by assumption) ?_
        rotate_left
        · (intro w hSw;(try dsimp only at hSw);go_simp;try with_reducible rfl)
        dsimp [Act.put]
        simp only [List.setIfInBounds_toArray,List.set_cons_zero,List.set_cons_succ]
        refine wpAnyH_take (i:=8) (v:=?_) rfl (by kernel_rfl) (by kernel_rfl) (by kernel_rfl) (fun _ _ _ h=>h) (Or.inl ⟨by rfl,?_⟩) (by assumption) ?_
        rotate_left
        · (intro w hSw;(try dsimp only at hSw);go_simp;try with_reducible rfl)
        dsimp [Act.put]
        simp only [List.setIfInBounds_toArray,List.set_cons_zero,List.set_cons_succ]
        refine wpAnyH_ready (rs:=[9]) (by kernel_rfl) (by simp) ?_
        refine AllReadyH.cons rfl (fun K hK=>?_) ?_
        · go_simp
          refine (HBo.out _ _ _ _ _ _ _ _ (by repeat (first | exact Mor.refl _ | apply Mor.alloc | apply Mor.more | apply Mor.drewN | apply Mor.drew)) HM5.out HO5.out).mono ?_
          rintro e w6 ⟨he,HX6⟩
          rw [bang] at he
          subst he
          exact ⟨rfl,HX6.out⟩
        exact AllReadyH.nil
      exact AllReadyH.nil
    exact AllReadyH.nil
set_option maxHeartbeats 3200000 in
theorem do_close (D:Nat) (wb:World) (bd bk bn bc:Nat) (key:ByteArray) (n:Int) (code:ByteArray) (h0:wb.cell? ⟨bd,0,none⟩=some (.pointer (some ⟨D,0,none⟩))) (h1:wb.cell? ⟨bk,0,none⟩=some (.string key)) (h2:wb.cell? ⟨bn,0,none⟩=some (.int .i64 n)) (h3:wb.cell? ⟨bc,0,none⟩=some (.string code)) (h0D:bd≠D) (h1D:bk≠D) (h2D:bn≠D) (h3D:bc≠D) (hks:key.size≤maxLen) (hcs:code.size≤maxLen) :
    DoC 75 #[.pointer (some ⟨bd,0,none⟩),.pointer (some ⟨bk,0,none⟩),.pointer (some ⟨bn,0,none⟩),.pointer (some ⟨bc,0,none⟩)] D wb (fun s=>bkR (closec s.b key n code) (closeb s.b key n code) s):=by
  intro w s hm hd
  have HD:=Lib.hid hd
  obtain ⟨A,na,c,X,m,k,P,p,q,hd⟩:=hd
  have g0:=cell_morD hm h0
  have g1:=cell_morD hm h1
  have g2:=cell_morD hm h2
  have g3:=cell_morD hm h3
  have d0:=hd.bk.cell 0
  have d1:=hd.bk.cell 1
  have d2:=hd.bk.cell 2
  have d3:=hd.bk.cell 3
  have dl:=hd.bk.lt
  simp at d0 d1 d2 d3
  have HF:=Lib.hid (fun w' (hm:Mor w w')=>close_any A na c X m k s.b key n code w' (hd.bq.mor hm) hks hcs)
  have HB:=Lib.hid (fun w1 w2 A n' c X m k (hm1:Mor w w1) (hm2:Mor w1 w2) ho=>become_call D s w w1 w2 HD.out hm1 hm2 (closeb s.b key n code) (closec s.b key n code) A n' c X m k (Nat.lt_of_lt_of_le dl hm1.below.size) ho (fun h=>close_okD h))
  have HKp:=Lib.hid (fun w' (hm':Mor w w')=>show w'.cell? ⟨bd,0,none⟩=some (.pointer (some ⟨D,0,none⟩))∧w'.cell? ⟨bk,0,none⟩=some (.string key)∧w'.cell? ⟨bn,0,none⟩=some (.int .i64 n)∧w'.cell? ⟨bc,0,none⟩=some (.string code) from ⟨cell_morD hm' g0,cell_morD hm' g1,cell_morD hm' g2,cell_morD hm' g3⟩)
  have HKo:=Lib.hid (fun w' (ho:On D w w')=>show w'.cell? ⟨bd,0,none⟩=some (.pointer (some ⟨D,0,none⟩))∧w'.cell? ⟨bk,0,none⟩=some (.string key)∧w'.cell? ⟨bn,0,none⟩=some (.int .i64 n)∧w'.cell? ⟨bc,0,none⟩=some (.string code) from ⟨cell_onD ho g0 (h0D),cell_onD ho g1 (h1D),cell_onD ho g2 (h2D),cell_onD ho g3 (h3D)⟩)
  clear hd hm h0 h1 h2 h3
  show Calls _ _ _ _ (DoPost w D s (bkR (closec s.b key n code) (closeb s.b key n code) s))
  generalize (closeb s.b key n code)=y at *
  generalize (closec s.b key n code)=r at *
  generalize s.b.shut=sh at *
  generalize bkR r y s=dr at *
  by_cases hr:dr.c=0
  · have HBo:=Lib.hid (fun w1 w2 A n' c X m k (hm1:Mor w w1) (hm2:Mor w1 w2) (ho:OwnB w2 w1.heap.size (.slice A n' c) (.slice X m k) n' m y)=>(HB.out w1 w2 A n' c X m k hm1 hm2 ho).mono fun e w' hh=>DoPost.okH hh hr)
    clear HB hr
    go_enter Tryz.func75,Tryz.ntmps75
    go_wp2_with fail
    refine wp_region_held_drew (S:=fun w'=>w'.cell? ⟨bd,0,none⟩=some (.pointer (some ⟨D,0,none⟩))∧w'.cell? ⟨bk,0,none⟩=some (.string key)∧w'.cell? ⟨bn,0,none⟩=some (.int .i64 n)∧w'.cell? ⟨bc,0,none⟩=some (.string code)) (by kernel_rfl) ?_ (fun hHeld=>?_)
    · exact HKp.out _ (by repeat (first | exact Mor.refl _ | apply Mor.alloc | apply Mor.more | apply Mor.drewN | apply Mor.drew))
    refine wpAnyH_take (i:=0) (v:=?_) rfl (by kernel_rfl) (by kernel_rfl) (by kernel_rfl) (fun _ _ _ h=>h) (Or.inl ⟨by rfl,?_⟩) (by assumption) ?_
    rotate_left
    · (intro w hSw;(try dsimp only at hSw);go_simp;try with_reducible rfl)
    dsimp [Act.put]
    simp only [List.setIfInBounds_toArray,List.set_cons_zero,List.set_cons_succ]
    refine wpAnyH_take (i:=1) (v:=?_) rfl (by kernel_rfl) (by kernel_rfl) (by kernel_rfl) (fun _ _ _ h=>h) (Or.inl ⟨by rfl,?_⟩) (by assumption) ?_
    rotate_left
    · (intro w hSw;(try dsimp only at hSw);go_simp;try with_reducible rfl)
    dsimp [Act.put]
    simp only [List.setIfInBounds_toArray,List.set_cons_zero,List.set_cons_succ]
    refine wpAnyH_take (i:=2) (v:=?_) rfl (by kernel_rfl) (by kernel_rfl) (by kernel_rfl) (fun _ _ _ h=>h) (Or.inl ⟨by rfl,?_⟩) (by assumption) ?_
    rotate_left
    · (intro w hSw;(try dsimp only at hSw);go_simp;try with_reducible rfl)
    dsimp [Act.put]
    simp only [List.setIfInBounds_toArray,List.set_cons_zero,List.set_cons_succ]
    refine wpAnyH_take (i:=3) (v:=?_) rfl (by kernel_rfl) (by kernel_rfl) (by kernel_rfl) (fun _ _ _ h=>h) (Or.inl ⟨by rfl,?_⟩) (by assumption) ?_
    rotate_left
    · (intro w hSw;(try dsimp only at hSw);go_simp;try with_reducible rfl)
    dsimp [Act.put]
    simp only [List.setIfInBounds_toArray,List.set_cons_zero,List.set_cons_succ]
    refine wpAnyH_take (i:=5) (v:=?_) rfl (by kernel_rfl) (by kernel_rfl) (by kernel_rfl) (fun _ _ _ h=>h) (Or.inl ⟨by rfl,?_⟩) (by assumption) ?_
    rotate_left
    · (intro w hSw;(try dsimp only at hSw);go_simp;try with_reducible rfl)
    dsimp [Act.put]
    simp only [List.setIfInBounds_toArray,List.set_cons_zero,List.set_cons_succ]
    refine wpAnyH_take (i:=6) (v:=?_) rfl (by kernel_rfl) (by kernel_rfl) (by kernel_rfl) (fun _ _ _ h=>h) (Or.inl ⟨by rfl,?_⟩) (by assumption) ?_
    rotate_left
    · (intro w hSw;(try dsimp only at hSw);go_simp;try with_reducible rfl)
    dsimp [Act.put]
    simp only [List.setIfInBounds_toArray,List.set_cons_zero,List.set_cons_succ]
    refine wpAnyH_take (i:=7) (v:=?_) rfl (by kernel_rfl) (by kernel_rfl) (by kernel_rfl) (fun _ _ _ h=>h) (Or.inl ⟨by rfl,?_⟩) (by assumption) ?_
    rotate_left
    · (intro w hSw;(try dsimp only at hSw);go_simp;try with_reducible rfl)
    dsimp [Act.put]
    simp only [List.setIfInBounds_toArray,List.set_cons_zero,List.set_cons_succ]
    refine wpAnyH_ready (rs:=[4]) (by kernel_rfl) (by simp) ?_
    refine AllReadyH.cons rfl (fun K hK=>?_) ?_
    · go_simp
      refine hK.out _ _ ?_ (fun hHeld=>?_)
      · exact HKp.out _ (by repeat (first | exact Mor.refl _ | apply Mor.alloc | apply Mor.more | apply Mor.drewN | apply Mor.drew))
      clear hK K
      try dsimp [Act.put]
      try simp only [List.setIfInBounds_toArray,List.set_cons_zero,List.set_cons_succ]
      refine wpAnyH_ready (rs:=[8]) (by kernel_rfl) (by simp) ?_
      refine AllReadyH.cons rfl (fun K hK=>?_) ?_
      · go_simp
        refine (HF.out _ (by repeat (first | exact Mor.refl _ | apply Mor.alloc | apply Mor.more | apply Mor.drewN | apply Mor.drew))).mono ?_
        rintro e w5 ⟨A5,n5,c5,X5,m5,k5,rfl,ho5,hm5⟩
        have HO5:=Lib.hid ho5
        have HM5:=Lib.hid hm5
        clear ho5 hm5
        go_simp
        refine hK.out _ _ ?_ (fun hHeld=>?_)
        · exact HKp.out _ (Mor.trans' (by repeat (first | exact Mor.refl _ | apply Mor.alloc | apply Mor.more | apply Mor.drewN | apply Mor.drew)) HM5.out)
        clear hK K
        try dsimp [Act.put]
        try simp only [List.setIfInBounds_toArray,List.set_cons_zero,List.set_cons_succ]
        refine wpAnyH_take (i:=9) (v:=?_) rfl (by kernel_rfl) (by kernel_rfl) (by kernel_rfl) (fun _ _ _ h=>h) (Or.inl ⟨by rfl,?_⟩) (by assumption) ?_
        rotate_left
        · (intro w hSw;(try dsimp only at hSw);go_simp;try with_reducible rfl)
        dsimp [Act.put]
        simp only [List.setIfInBounds_toArray,List.set_cons_zero,List.set_cons_succ]
        refine wpAnyH_take (i:=10) (v:=?_) rfl (by kernel_rfl) (by kernel_rfl) (by kernel_rfl) (fun _ _ _ h=>h) (Or.inl ⟨by rfl,?_⟩) (by assumption) ?_
        rotate_left
        · (intro w hSw;(try dsimp only at hSw);go_simp;try with_reducible rfl)
        dsimp [Act.put]
        simp only [List.setIfInBounds_toArray,List.set_cons_zero,List.set_cons_succ]
        refine wpAnyH_ready (rs:=[11]) (by kernel_rfl) (by simp) ?_
        refine AllReadyH.cons rfl (fun K hK=>?_) ?_
        · go_simp
          refine (HBo.out _ _ _ _ _ _ _ _ (by repeat (first | exact Mor.refl _ | apply Mor.alloc | apply Mor.more | apply Mor.drewN | apply Mor.drew)) HM5.out HO5.out).mono ?_
          rintro e w6 ⟨rfl,HX6⟩
          go_simp
          refine hK.out _ _ ?_ (fun hHeld=>?_)
          · exact HKo.out _ HX6.out.2
          clear hK K
          try dsimp [Act.put]
          try simp only [List.setIfInBounds_toArray,List.set_cons_zero,List.set_cons_succ]
          refine wpAnyH_ready (rs:=[12]) (by kernel_rfl) (by simp) ?_
          refine AllReadyH.cons rfl (fun K hK=>?_) ?_
          · go_simp
            refine hK.out _ _ ?_ (fun hHeld=>?_)
            · exact HKo.out _ HX6.out.2
            clear hK K
            try dsimp [Act.put]
            try simp only [List.setIfInBounds_toArray,List.set_cons_zero,List.set_cons_succ]
            refine wpAnyH_done (by kernel_rfl) ?_ _
            go_wp2_with fail
            go_returns
            exact HX6.out
          exact AllReadyH.nil
        exact AllReadyH.nil
      exact AllReadyH.nil
    exact AllReadyH.nil
  · have HBo:=Lib.hid (fun w1 w2 A n' c X m k (hm1:Mor w w1) (hm2:Mor w1 w2) (ho:OwnB w2 w1.heap.size (.slice A n' c) (.slice X m k) n' m y)=>(HB.out w1 w2 A n' c X m k hm1 hm2 ho).mono fun e w' hh=>DoPost.noH hh hr)
    clear HB hr
    go_enter Tryz.func75,Tryz.ntmps75
    go_wp2_with fail
    refine wp_region_held_drew (S:=fun w'=>w'.cell? ⟨bd,0,none⟩=some (.pointer (some ⟨D,0,none⟩))∧w'.cell? ⟨bk,0,none⟩=some (.string key)∧w'.cell? ⟨bn,0,none⟩=some (.int .i64 n)∧w'.cell? ⟨bc,0,none⟩=some (.string code)) (by kernel_rfl) ?_ (fun hHeld=>?_)
    · exact HKp.out _ (by repeat (first | exact Mor.refl _ | apply Mor.alloc | apply Mor.more | apply Mor.drewN | apply Mor.drew))
    refine wpAnyH_take (i:=0) (v:=?_) rfl (by kernel_rfl) (by kernel_rfl) (by kernel_rfl) (fun _ _ _ h=>h) (Or.inl ⟨by rfl,?_⟩) (by assumption) ?_
    rotate_left
    · (intro w hSw;(try dsimp only at hSw);go_simp;try with_reducible rfl)
    dsimp [Act.put]
    simp only [List.setIfInBounds_toArray,List.set_cons_zero,List.set_cons_succ]
    refine wpAnyH_take (i:=1) (v:=?_) rfl (by kernel_rfl) (by kernel_rfl) (by kernel_rfl) (fun _ _ _ h=>h) (Or.inl ⟨by rfl,?_⟩) (by assumption) ?_
    rotate_left
    · (intro w hSw;(try dsimp only at hSw);go_simp;try with_reducible rfl)
    dsimp [Act.put]
    simp only [List.setIfInBounds_toArray,List.set_cons_zero,List.set_cons_succ]
    refine wpAnyH_take (i:=2) (v:=?_) rfl (by kernel_rfl) (by kernel_rfl) (by kernel_rfl) (fun _ _ _ h=>h) (Or.inl ⟨by rfl,?_⟩) (by assumption) ?_
    rotate_left
    · (intro w hSw;(try dsimp only at hSw);go_simp;try with_reducible rfl)
    dsimp [Act.put]
    simp only [List.setIfInBounds_toArray,List.set_cons_zero,List.set_cons_succ]
    refine wpAnyH_take (i:=3) (v:=?_) rfl (by kernel_rfl) (by kernel_rfl) (by kernel_rfl) (fun _ _ _ h=>h) (Or.inl ⟨by rfl,?_⟩) (by assumption) ?_
    rotate_left
    · (intro w hSw;(try dsimp only at hSw);go_simp;try with_reducible rfl)
    dsimp [Act.put]
    simp only [List.setIfInBounds_toArray,List.set_cons_zero,List.set_cons_succ]
    refine wpAnyH_take (i:=5) (v:=?_) rfl (by kernel_rfl) (by kernel_rfl) (by kernel_rfl) (fun _ _ _ h=>h) (Or.inl ⟨by rfl,?_⟩) (by assumption) ?_
    rotate_left
    · (intro w hSw;(try dsimp only at hSw);go_simp;try with_reducible rfl)
    dsimp [Act.put]
    simp only [List.setIfInBounds_toArray,List.set_cons_zero,List.set_cons_succ]
    refine wpAnyH_take (i:=6) (v:=?_) rfl (by kernel_rfl) (by kernel_rfl) (by kernel_rfl) (fun _ _ _ h=>h) (Or.inl ⟨by rfl,?_⟩) (by assumption) ?_
    rotate_left
    · (intro w hSw;(try dsimp only at hSw);go_simp;try with_reducible rfl)
    dsimp [Act.put]
    simp only [List.setIfInBounds_toArray,List.set_cons_zero,List.set_cons_succ]
    refine wpAnyH_take (i:=7) (v:=?_) rfl (by kernel_rfl) (by kernel_rfl) (by kernel_rfl) (fun _ _ _ h=>h) (Or.inl ⟨by rfl,?_⟩) (by assumption) ?_
    rotate_left
    · (intro w hSw;(try dsimp only at hSw);go_simp;try with_reducible rfl)
    dsimp [Act.put]
    simp only [List.setIfInBounds_toArray,List.set_cons_zero,List.set_cons_succ]
    refine wpAnyH_ready (rs:=[4]) (by kernel_rfl) (by simp) ?_
    refine AllReadyH.cons rfl (fun K hK=>?_) ?_
    · go_simp
      refine hK.out _ _ ?_ (fun hHeld=>?_)
      · exact HKp.out _ (by repeat (first | exact Mor.refl _ | apply Mor.alloc | apply Mor.more | apply Mor.drewN | apply Mor.drew))
      clear hK K
      try dsimp [Act.put]
      try simp only [List.setIfInBounds_toArray,List.set_cons_zero,List.set_cons_succ]
      refine wpAnyH_ready (rs:=[8]) (by kernel_rfl) (by simp) ?_
      refine AllReadyH.cons rfl (fun K hK=>?_) ?_
      · go_simp
        refine (HF.out _ (by repeat (first | exact Mor.refl _ | apply Mor.alloc | apply Mor.more | apply Mor.drewN | apply Mor.drew))).mono ?_
        rintro e w5 ⟨A5,n5,c5,X5,m5,k5,rfl,ho5,hm5⟩
        have HO5:=Lib.hid ho5
        have HM5:=Lib.hid hm5
        clear ho5 hm5
        go_simp
        refine hK.out _ _ ?_ (fun hHeld=>?_)
        · exact HKp.out _ (Mor.trans' (by repeat (first | exact Mor.refl _ | apply Mor.alloc | apply Mor.more | apply Mor.drewN | apply Mor.drew)) HM5.out)
        clear hK K
        try dsimp [Act.put]
        try simp only [List.setIfInBounds_toArray,List.set_cons_zero,List.set_cons_succ]
        refine wpAnyH_take (i:=9) (v:=?_) rfl (by kernel_rfl) (by kernel_rfl) (by kernel_rfl) (fun _ _ _ h=>h) (Or.inl ⟨by rfl,?_⟩) (by assumption) ?_
        rotate_left
        · (intro w hSw;(try dsimp only at hSw);go_simp;try with_reducible rfl)
        dsimp [Act.put]
        simp only [List.setIfInBounds_toArray,List.set_cons_zero,List.set_cons_succ]
        refine wpAnyH_take (i:=10) (v:=?_) rfl (by kernel_rfl) (by kernel_rfl) (by kernel_rfl) (fun _ _ _ h=>h) (Or.inl ⟨by rfl,?_⟩) (by assumption) ?_
        rotate_left
        · (intro w hSw;(try dsimp only at hSw);go_simp;try with_reducible rfl)
        dsimp [Act.put]
        simp only [List.setIfInBounds_toArray,List.set_cons_zero,List.set_cons_succ]
        refine wpAnyH_ready (rs:=[11]) (by kernel_rfl) (by simp) ?_
        refine AllReadyH.cons rfl (fun K hK=>?_) ?_
        · go_simp
          refine (HBo.out _ _ _ _ _ _ _ _ (by repeat (first | exact Mor.refl _ | apply Mor.alloc | apply Mor.more | apply Mor.drewN | apply Mor.drew)) HM5.out HO5.out).mono ?_
          rintro e w6 ⟨he,HX6⟩
          rw [bang] at he
          subst he
          exact ⟨rfl,HX6.out⟩
        exact AllReadyH.nil
      exact AllReadyH.nil
    exact AllReadyH.nil
set_option maxHeartbeats 3200000 in
theorem do_undo (D:Nat) (wb:World) (bd bk bb bn:Nat) (key by':ByteArray) (n:Int) (h0:wb.cell? ⟨bd,0,none⟩=some (.pointer (some ⟨D,0,none⟩))) (h1:wb.cell? ⟨bk,0,none⟩=some (.string key)) (h2:wb.cell? ⟨bb,0,none⟩=some (.string by')) (h3:wb.cell? ⟨bn,0,none⟩=some (.int .i64 n)) (h0D:bd≠D) (h1D:bk≠D) (h2D:bb≠D) (h3D:bn≠D) (hbs:by'.size≤maxLen) :
    DoC 77 #[.pointer (some ⟨bd,0,none⟩),.pointer (some ⟨bk,0,none⟩),.pointer (some ⟨bb,0,none⟩),.pointer (some ⟨bn,0,none⟩)] D wb (fun s=>bkR (undoc s.b key by' n) (undob s.b key by' n) s):=by
  intro w s hm hd
  have HD:=Lib.hid hd
  obtain ⟨A,na,c,X,m,k,P,p,q,hd⟩:=hd
  have g0:=cell_morD hm h0
  have g1:=cell_morD hm h1
  have g2:=cell_morD hm h2
  have g3:=cell_morD hm h3
  have d0:=hd.bk.cell 0
  have d1:=hd.bk.cell 1
  have d2:=hd.bk.cell 2
  have d3:=hd.bk.cell 3
  have dl:=hd.bk.lt
  simp at d0 d1 d2 d3
  have HF:=Lib.hid (fun w' (hm:Mor w w')=>undo_any A na c X m k s.b key by' n w' (hd.bq.mor hm) hbs)
  have HB:=Lib.hid (fun w1 w2 A n' c X m k (hm1:Mor w w1) (hm2:Mor w1 w2) ho=>become_call D s w w1 w2 HD.out hm1 hm2 (undob s.b key by' n) (undoc s.b key by' n) A n' c X m k (Nat.lt_of_lt_of_le dl hm1.below.size) ho (fun h=>undo_okD h))
  have HKp:=Lib.hid (fun w' (hm':Mor w w')=>show w'.cell? ⟨bd,0,none⟩=some (.pointer (some ⟨D,0,none⟩))∧w'.cell? ⟨bk,0,none⟩=some (.string key)∧w'.cell? ⟨bb,0,none⟩=some (.string by')∧w'.cell? ⟨bn,0,none⟩=some (.int .i64 n) from ⟨cell_morD hm' g0,cell_morD hm' g1,cell_morD hm' g2,cell_morD hm' g3⟩)
  have HKo:=Lib.hid (fun w' (ho:On D w w')=>show w'.cell? ⟨bd,0,none⟩=some (.pointer (some ⟨D,0,none⟩))∧w'.cell? ⟨bk,0,none⟩=some (.string key)∧w'.cell? ⟨bb,0,none⟩=some (.string by')∧w'.cell? ⟨bn,0,none⟩=some (.int .i64 n) from ⟨cell_onD ho g0 (h0D),cell_onD ho g1 (h1D),cell_onD ho g2 (h2D),cell_onD ho g3 (h3D)⟩)
  clear hd hm h0 h1 h2 h3
  show Calls _ _ _ _ (DoPost w D s (bkR (undoc s.b key by' n) (undob s.b key by' n) s))
  generalize (undob s.b key by' n)=y at *
  generalize (undoc s.b key by' n)=r at *
  generalize s.b.shut=sh at *
  generalize bkR r y s=dr at *
  by_cases hr:dr.c=0
  · have HBo:=Lib.hid (fun w1 w2 A n' c X m k (hm1:Mor w w1) (hm2:Mor w1 w2) (ho:OwnB w2 w1.heap.size (.slice A n' c) (.slice X m k) n' m y)=>(HB.out w1 w2 A n' c X m k hm1 hm2 ho).mono fun e w' hh=>DoPost.okH hh hr)
    clear HB hr
    go_enter Tryz.func77,Tryz.ntmps77
    go_wp2_with fail
    refine wp_region_held_drew (S:=fun w'=>w'.cell? ⟨bd,0,none⟩=some (.pointer (some ⟨D,0,none⟩))∧w'.cell? ⟨bk,0,none⟩=some (.string key)∧w'.cell? ⟨bb,0,none⟩=some (.string by')∧w'.cell? ⟨bn,0,none⟩=some (.int .i64 n)) (by kernel_rfl) ?_ (fun hHeld=>?_)
    · exact HKp.out _ (by repeat (first | exact Mor.refl _ | apply Mor.alloc | apply Mor.more | apply Mor.drewN | apply Mor.drew))
    refine wpAnyH_take (i:=0) (v:=?_) rfl (by kernel_rfl) (by kernel_rfl) (by kernel_rfl) (fun _ _ _ h=>h) (Or.inl ⟨by rfl,?_⟩) (by assumption) ?_
    rotate_left
    · (intro w hSw;(try dsimp only at hSw);go_simp;try with_reducible rfl)
    dsimp [Act.put]
    simp only [List.setIfInBounds_toArray,List.set_cons_zero,List.set_cons_succ]
    refine wpAnyH_take (i:=1) (v:=?_) rfl (by kernel_rfl) (by kernel_rfl) (by kernel_rfl) (fun _ _ _ h=>h) (Or.inl ⟨by rfl,?_⟩) (by assumption) ?_
    rotate_left
    · (intro w hSw;(try dsimp only at hSw);go_simp;try with_reducible rfl)
    dsimp [Act.put]
    simp only [List.setIfInBounds_toArray,List.set_cons_zero,List.set_cons_succ]
    refine wpAnyH_take (i:=2) (v:=?_) rfl (by kernel_rfl) (by kernel_rfl) (by kernel_rfl) (fun _ _ _ h=>h) (Or.inl ⟨by rfl,?_⟩) (by assumption) ?_
    rotate_left
    · (intro w hSw;(try dsimp only at hSw);go_simp;try with_reducible rfl)
    dsimp [Act.put]
    simp only [List.setIfInBounds_toArray,List.set_cons_zero,List.set_cons_succ]
    refine wpAnyH_take (i:=3) (v:=?_) rfl (by kernel_rfl) (by kernel_rfl) (by kernel_rfl) (fun _ _ _ h=>h) (Or.inl ⟨by rfl,?_⟩) (by assumption) ?_
    rotate_left
    · (intro w hSw;(try dsimp only at hSw);go_simp;try with_reducible rfl)
    dsimp [Act.put]
    simp only [List.setIfInBounds_toArray,List.set_cons_zero,List.set_cons_succ]
    refine wpAnyH_take (i:=5) (v:=?_) rfl (by kernel_rfl) (by kernel_rfl) (by kernel_rfl) (fun _ _ _ h=>h) (Or.inl ⟨by rfl,?_⟩) (by assumption) ?_
    rotate_left
    · (intro w hSw;(try dsimp only at hSw);go_simp;try with_reducible rfl)
    dsimp [Act.put]
    simp only [List.setIfInBounds_toArray,List.set_cons_zero,List.set_cons_succ]
    refine wpAnyH_take (i:=6) (v:=?_) rfl (by kernel_rfl) (by kernel_rfl) (by kernel_rfl) (fun _ _ _ h=>h) (Or.inl ⟨by rfl,?_⟩) (by assumption) ?_
    rotate_left
    · (intro w hSw;(try dsimp only at hSw);go_simp;try with_reducible rfl)
    dsimp [Act.put]
    simp only [List.setIfInBounds_toArray,List.set_cons_zero,List.set_cons_succ]
    refine wpAnyH_take (i:=7) (v:=?_) rfl (by kernel_rfl) (by kernel_rfl) (by kernel_rfl) (fun _ _ _ h=>h) (Or.inl ⟨by rfl,?_⟩) (by assumption) ?_
    rotate_left
    · (intro w hSw;(try dsimp only at hSw);go_simp;try with_reducible rfl)
    dsimp [Act.put]
    simp only [List.setIfInBounds_toArray,List.set_cons_zero,List.set_cons_succ]
    refine wpAnyH_ready (rs:=[4]) (by kernel_rfl) (by simp) ?_
    refine AllReadyH.cons rfl (fun K hK=>?_) ?_
    · go_simp
      refine hK.out _ _ ?_ (fun hHeld=>?_)
      · exact HKp.out _ (by repeat (first | exact Mor.refl _ | apply Mor.alloc | apply Mor.more | apply Mor.drewN | apply Mor.drew))
      clear hK K
      try dsimp [Act.put]
      try simp only [List.setIfInBounds_toArray,List.set_cons_zero,List.set_cons_succ]
      refine wpAnyH_ready (rs:=[8]) (by kernel_rfl) (by simp) ?_
      refine AllReadyH.cons rfl (fun K hK=>?_) ?_
      · go_simp
        refine (HF.out _ (by repeat (first | exact Mor.refl _ | apply Mor.alloc | apply Mor.more | apply Mor.drewN | apply Mor.drew))).mono ?_
        rintro e w5 ⟨A5,n5,c5,X5,m5,k5,rfl,ho5,hm5⟩
        have HO5:=Lib.hid ho5
        have HM5:=Lib.hid hm5
        clear ho5 hm5
        go_simp
        refine hK.out _ _ ?_ (fun hHeld=>?_)
        · exact HKp.out _ (Mor.trans' (by repeat (first | exact Mor.refl _ | apply Mor.alloc | apply Mor.more | apply Mor.drewN | apply Mor.drew)) HM5.out)
        clear hK K
        try dsimp [Act.put]
        try simp only [List.setIfInBounds_toArray,List.set_cons_zero,List.set_cons_succ]
        refine wpAnyH_take (i:=9) (v:=?_) rfl (by kernel_rfl) (by kernel_rfl) (by kernel_rfl) (fun _ _ _ h=>h) (Or.inl ⟨by rfl,?_⟩) (by assumption) ?_
        rotate_left
        · (intro w hSw;(try dsimp only at hSw);go_simp;try with_reducible rfl)
        dsimp [Act.put]
        simp only [List.setIfInBounds_toArray,List.set_cons_zero,List.set_cons_succ]
        refine wpAnyH_take (i:=10) (v:=?_) rfl (by kernel_rfl) (by kernel_rfl) (by kernel_rfl) (fun _ _ _ h=>h) (Or.inl ⟨by rfl,?_⟩) (by assumption) ?_
        rotate_left
        · (intro w hSw;(try dsimp only at hSw);go_simp;try with_reducible rfl)
        dsimp [Act.put]
        simp only [List.setIfInBounds_toArray,List.set_cons_zero,List.set_cons_succ]
        refine wpAnyH_ready (rs:=[11]) (by kernel_rfl) (by simp) ?_
        refine AllReadyH.cons rfl (fun K hK=>?_) ?_
        · go_simp
          refine (HBo.out _ _ _ _ _ _ _ _ (by repeat (first | exact Mor.refl _ | apply Mor.alloc | apply Mor.more | apply Mor.drewN | apply Mor.drew)) HM5.out HO5.out).mono ?_
          rintro e w6 ⟨rfl,HX6⟩
          go_simp
          refine hK.out _ _ ?_ (fun hHeld=>?_)
          · exact HKo.out _ HX6.out.2
          clear hK K
          try dsimp [Act.put]
          try simp only [List.setIfInBounds_toArray,List.set_cons_zero,List.set_cons_succ]
          refine wpAnyH_ready (rs:=[12]) (by kernel_rfl) (by simp) ?_
          refine AllReadyH.cons rfl (fun K hK=>?_) ?_
          · go_simp
            refine hK.out _ _ ?_ (fun hHeld=>?_)
            · exact HKo.out _ HX6.out.2
            clear hK K
            try dsimp [Act.put]
            try simp only [List.setIfInBounds_toArray,List.set_cons_zero,List.set_cons_succ]
            refine wpAnyH_done (by kernel_rfl) ?_ _
            go_wp2_with fail
            go_returns
            exact HX6.out
          exact AllReadyH.nil
        exact AllReadyH.nil
      exact AllReadyH.nil
    exact AllReadyH.nil
  · have HBo:=Lib.hid (fun w1 w2 A n' c X m k (hm1:Mor w w1) (hm2:Mor w1 w2) (ho:OwnB w2 w1.heap.size (.slice A n' c) (.slice X m k) n' m y)=>(HB.out w1 w2 A n' c X m k hm1 hm2 ho).mono fun e w' hh=>DoPost.noH hh hr)
    clear HB hr
    go_enter Tryz.func77,Tryz.ntmps77
    go_wp2_with fail
    refine wp_region_held_drew (S:=fun w'=>w'.cell? ⟨bd,0,none⟩=some (.pointer (some ⟨D,0,none⟩))∧w'.cell? ⟨bk,0,none⟩=some (.string key)∧w'.cell? ⟨bb,0,none⟩=some (.string by')∧w'.cell? ⟨bn,0,none⟩=some (.int .i64 n)) (by kernel_rfl) ?_ (fun hHeld=>?_)
    · exact HKp.out _ (by repeat (first | exact Mor.refl _ | apply Mor.alloc | apply Mor.more | apply Mor.drewN | apply Mor.drew))
    refine wpAnyH_take (i:=0) (v:=?_) rfl (by kernel_rfl) (by kernel_rfl) (by kernel_rfl) (fun _ _ _ h=>h) (Or.inl ⟨by rfl,?_⟩) (by assumption) ?_
    rotate_left
    · (intro w hSw;(try dsimp only at hSw);go_simp;try with_reducible rfl)
    dsimp [Act.put]
    simp only [List.setIfInBounds_toArray,List.set_cons_zero,List.set_cons_succ]
    refine wpAnyH_take (i:=1) (v:=?_) rfl (by kernel_rfl) (by kernel_rfl) (by kernel_rfl) (fun _ _ _ h=>h) (Or.inl ⟨by rfl,?_⟩) (by assumption) ?_
    rotate_left
    · (intro w hSw;(try dsimp only at hSw);go_simp;try with_reducible rfl)
    dsimp [Act.put]
    simp only [List.setIfInBounds_toArray,List.set_cons_zero,List.set_cons_succ]
    refine wpAnyH_take (i:=2) (v:=?_) rfl (by kernel_rfl) (by kernel_rfl) (by kernel_rfl) (fun _ _ _ h=>h) (Or.inl ⟨by rfl,?_⟩) (by assumption) ?_
    rotate_left
    · (intro w hSw;(try dsimp only at hSw);go_simp;try with_reducible rfl)
    dsimp [Act.put]
    simp only [List.setIfInBounds_toArray,List.set_cons_zero,List.set_cons_succ]
    refine wpAnyH_take (i:=3) (v:=?_) rfl (by kernel_rfl) (by kernel_rfl) (by kernel_rfl) (fun _ _ _ h=>h) (Or.inl ⟨by rfl,?_⟩) (by assumption) ?_
    rotate_left
    · (intro w hSw;(try dsimp only at hSw);go_simp;try with_reducible rfl)
    dsimp [Act.put]
    simp only [List.setIfInBounds_toArray,List.set_cons_zero,List.set_cons_succ]
    refine wpAnyH_take (i:=5) (v:=?_) rfl (by kernel_rfl) (by kernel_rfl) (by kernel_rfl) (fun _ _ _ h=>h) (Or.inl ⟨by rfl,?_⟩) (by assumption) ?_
    rotate_left
    · (intro w hSw;(try dsimp only at hSw);go_simp;try with_reducible rfl)
    dsimp [Act.put]
    simp only [List.setIfInBounds_toArray,List.set_cons_zero,List.set_cons_succ]
    refine wpAnyH_take (i:=6) (v:=?_) rfl (by kernel_rfl) (by kernel_rfl) (by kernel_rfl) (fun _ _ _ h=>h) (Or.inl ⟨by rfl,?_⟩) (by assumption) ?_
    rotate_left
    · (intro w hSw;(try dsimp only at hSw);go_simp;try with_reducible rfl)
    dsimp [Act.put]
    simp only [List.setIfInBounds_toArray,List.set_cons_zero,List.set_cons_succ]
    refine wpAnyH_take (i:=7) (v:=?_) rfl (by kernel_rfl) (by kernel_rfl) (by kernel_rfl) (fun _ _ _ h=>h) (Or.inl ⟨by rfl,?_⟩) (by assumption) ?_
    rotate_left
    · (intro w hSw;(try dsimp only at hSw);go_simp;try with_reducible rfl)
    dsimp [Act.put]
    simp only [List.setIfInBounds_toArray,List.set_cons_zero,List.set_cons_succ]
    refine wpAnyH_ready (rs:=[4]) (by kernel_rfl) (by simp) ?_
    refine AllReadyH.cons rfl (fun K hK=>?_) ?_
    · go_simp
      refine hK.out _ _ ?_ (fun hHeld=>?_)
      · exact HKp.out _ (by repeat (first | exact Mor.refl _ | apply Mor.alloc | apply Mor.more | apply Mor.drewN | apply Mor.drew))
      clear hK K
      try dsimp [Act.put]
      try simp only [List.setIfInBounds_toArray,List.set_cons_zero,List.set_cons_succ]
      refine wpAnyH_ready (rs:=[8]) (by kernel_rfl) (by simp) ?_
      refine AllReadyH.cons rfl (fun K hK=>?_) ?_
      · go_simp
        refine (HF.out _ (by repeat (first | exact Mor.refl _ | apply Mor.alloc | apply Mor.more | apply Mor.drewN | apply Mor.drew))).mono ?_
        rintro e w5 ⟨A5,n5,c5,X5,m5,k5,rfl,ho5,hm5⟩
        have HO5:=Lib.hid ho5
        have HM5:=Lib.hid hm5
        clear ho5 hm5
        go_simp
        refine hK.out _ _ ?_ (fun hHeld=>?_)
        · exact HKp.out _ (Mor.trans' (by repeat (first | exact Mor.refl _ | apply Mor.alloc | apply Mor.more | apply Mor.drewN | apply Mor.drew)) HM5.out)
        clear hK K
        try dsimp [Act.put]
        try simp only [List.setIfInBounds_toArray,List.set_cons_zero,List.set_cons_succ]
        refine wpAnyH_take (i:=9) (v:=?_) rfl (by kernel_rfl) (by kernel_rfl) (by kernel_rfl) (fun _ _ _ h=>h) (Or.inl ⟨by rfl,?_⟩) (by assumption) ?_
        rotate_left
        · (intro w hSw;(try dsimp only at hSw);go_simp;try with_reducible rfl)
        dsimp [Act.put]
        simp only [List.setIfInBounds_toArray,List.set_cons_zero,List.set_cons_succ]
        refine wpAnyH_take (i:=10) (v:=?_) rfl (by kernel_rfl) (by kernel_rfl) (by kernel_rfl) (fun _ _ _ h=>h) (Or.inl ⟨by rfl,?_⟩) (by assumption) ?_
        rotate_left
        · (intro w hSw;(try dsimp only at hSw);go_simp;try with_reducible rfl)
        dsimp [Act.put]
        simp only [List.setIfInBounds_toArray,List.set_cons_zero,List.set_cons_succ]
        refine wpAnyH_ready (rs:=[11]) (by kernel_rfl) (by simp) ?_
        refine AllReadyH.cons rfl (fun K hK=>?_) ?_
        · go_simp
          refine (HBo.out _ _ _ _ _ _ _ _ (by repeat (first | exact Mor.refl _ | apply Mor.alloc | apply Mor.more | apply Mor.drewN | apply Mor.drew)) HM5.out HO5.out).mono ?_
          rintro e w6 ⟨he,HX6⟩
          rw [bang] at he
          subst he
          exact ⟨rfl,HX6.out⟩
        exact AllReadyH.nil
      exact AllReadyH.nil
    exact AllReadyH.nil
set_option maxHeartbeats 3200000 in
theorem do_post (D:Nat) (wb:World) (bd bx:Nat) (x:En) (L:Option Addr) (lp lq:Nat) (h0:wb.cell? ⟨bd,0,none⟩=some (.pointer (some ⟨D,0,none⟩))) (h1:wb.cell? ⟨bx,0,none⟩=some (.string x.key)) (h2:wb.cell? ⟨bx,1,none⟩=some (.int .i64 x.day)) (h3:wb.cell? ⟨bx,2,none⟩=some (.slice L lp lq)) (h0D:bd≠D) (h1D:bx≠D) (hks:x.key.size≤maxLen) (hx:Lq wb L lp lq x.ls) :
    DoC 70 #[.pointer (some ⟨bd,0,none⟩),.pointer (some ⟨bx,0,none⟩)] D wb (fun s=>bkR (postc s.b x) (if postc s.b x=0 then postb s.b x else zeroB) s):=by
  intro w s hm hd
  have HD:=Lib.hid hd
  obtain ⟨A,na,c,X,m,k,P,p,q,hd⟩:=hd
  have g0:=cell_morD hm h0
  have g1:=cell_morD hm h1
  have g2:=cell_morD hm h2
  have g3:=cell_morD hm h3
  have d0:=hd.bk.cell 0
  have d1:=hd.bk.cell 1
  have d2:=hd.bk.cell 2
  have d3:=hd.bk.cell 3
  have dl:=hd.bk.lt
  simp at d0 d1 d2 d3
  have HF:=Lib.hid (fun w' (hm':Mor w w')=>post_anyD A na c X m k s.b x L lp lq w' (hd.bq.mor hm') (hx.mor (hm.trans' hm')) hks)
  have HB:=Lib.hid (fun w1 w2 A n' c X m k (hm1:Mor w w1) (hm2:Mor w1 w2) ho=>become_call D s w w1 w2 HD.out hm1 hm2 (if postc s.b x=0 then postb s.b x else zeroB) (postc s.b x) A n' c X m k (Nat.lt_of_lt_of_le dl hm1.below.size) ho (fun h=>post_okD h))
  have HKp:=Lib.hid (fun w' (hm':Mor w w')=>show w'.cell? ⟨bd,0,none⟩=some (.pointer (some ⟨D,0,none⟩))∧w'.cell? ⟨bx,0,none⟩=some (.string x.key)∧w'.cell? ⟨bx,1,none⟩=some (.int .i64 x.day)∧w'.cell? ⟨bx,2,none⟩=some (.slice L lp lq) from ⟨cell_morD hm' g0,cell_morD hm' g1,cell_morD hm' g2,cell_morD hm' g3⟩)
  have HKo:=Lib.hid (fun w' (ho:On D w w')=>show w'.cell? ⟨bd,0,none⟩=some (.pointer (some ⟨D,0,none⟩))∧w'.cell? ⟨bx,0,none⟩=some (.string x.key)∧w'.cell? ⟨bx,1,none⟩=some (.int .i64 x.day)∧w'.cell? ⟨bx,2,none⟩=some (.slice L lp lq) from ⟨cell_onD ho g0 (h0D),cell_onD ho g1 (h1D),cell_onD ho g2 (h1D),cell_onD ho g3 (h1D)⟩)
  clear hd hm h0 h1 h2 h3
  show Calls _ _ _ _ (DoPost w D s (bkR (postc s.b x) (if postc s.b x=0 then postb s.b x else zeroB) s))
  generalize (if postc s.b x=0 then postb s.b x else zeroB)=y at *
  generalize (postc s.b x)=r at *
  generalize s.b.shut=sh at *
  generalize bkR r y s=dr at *
  by_cases hr:dr.c=0
  · have HBo:=Lib.hid (fun w1 w2 A n' c X m k (hm1:Mor w w1) (hm2:Mor w1 w2) (ho:OwnB w2 w1.heap.size (.slice A n' c) (.slice X m k) n' m y)=>(HB.out w1 w2 A n' c X m k hm1 hm2 ho).mono fun e w' hh=>DoPost.okH hh hr)
    clear HB hr
    go_enter Tryz.func70,Tryz.ntmps70
    go_wp2_with fail
    refine wp_region_held_drew (S:=fun w'=>w'.cell? ⟨bd,0,none⟩=some (.pointer (some ⟨D,0,none⟩))∧w'.cell? ⟨bx,0,none⟩=some (.string x.key)∧w'.cell? ⟨bx,1,none⟩=some (.int .i64 x.day)∧w'.cell? ⟨bx,2,none⟩=some (.slice L lp lq)) (by kernel_rfl) ?_ (fun hHeld=>?_)
    · exact HKp.out _ (by repeat (first | exact Mor.refl _ | apply Mor.alloc | apply Mor.more | apply Mor.drewN | apply Mor.drew))
    refine wpAnyH_take (i:=0) (v:=?_) rfl (by kernel_rfl) (by kernel_rfl) (by kernel_rfl) (fun _ _ _ h=>h) (Or.inl ⟨by rfl,?_⟩) (by assumption) ?_
    rotate_left
    · (intro w hSw;(try dsimp only at hSw);go_simp;try with_reducible rfl)
    dsimp [Act.put]
    simp only [List.setIfInBounds_toArray,List.set_cons_zero,List.set_cons_succ]
    refine wpAnyH_take (i:=1) (v:=?_) rfl (by kernel_rfl) (by kernel_rfl) (by kernel_rfl) (fun _ _ _ h=>h) (Or.inl ⟨by rfl,?_⟩) (by assumption) ?_
    rotate_left
    · (intro w hSw;(try dsimp only at hSw);go_simp;try with_reducible rfl)
    dsimp [Act.put]
    simp only [List.setIfInBounds_toArray,List.set_cons_zero,List.set_cons_succ]
    refine wpAnyH_take (i:=2) (v:=?_) rfl (by kernel_rfl) (by kernel_rfl) (by kernel_rfl) (fun _ _ _ h=>h) (Or.inl ⟨by rfl,?_⟩) (by assumption) ?_
    rotate_left
    · (intro w hSw;(try dsimp only at hSw);go_simp;try with_reducible rfl)
    dsimp [Act.put]
    simp only [List.setIfInBounds_toArray,List.set_cons_zero,List.set_cons_succ]
    refine wpAnyH_take (i:=3) (v:=?_) rfl (by kernel_rfl) (by kernel_rfl) (by kernel_rfl) (fun _ _ _ h=>h) (Or.inl ⟨by rfl,?_⟩) (by assumption) ?_
    rotate_left
    · (intro w hSw;(try dsimp only at hSw);go_simp;try with_reducible rfl)
    dsimp [Act.put]
    simp only [List.setIfInBounds_toArray,List.set_cons_zero,List.set_cons_succ]
    refine wpAnyH_take (i:=5) (v:=?_) rfl (by kernel_rfl) (by kernel_rfl) (by kernel_rfl) (fun _ _ _ h=>h) (Or.inl ⟨by rfl,?_⟩) (by assumption) ?_
    rotate_left
    · (intro w hSw;(try dsimp only at hSw);go_simp;try with_reducible rfl)
    dsimp [Act.put]
    simp only [List.setIfInBounds_toArray,List.set_cons_zero,List.set_cons_succ]
    refine wpAnyH_ready (rs:=[4]) (by kernel_rfl) (by simp) ?_
    refine AllReadyH.cons rfl (fun K hK=>?_) ?_
    · go_simp
      refine hK.out _ _ ?_ (fun hHeld=>?_)
      · exact HKp.out _ (by repeat (first | exact Mor.refl _ | apply Mor.alloc | apply Mor.more | apply Mor.drewN | apply Mor.drew))
      clear hK K
      try dsimp [Act.put]
      try simp only [List.setIfInBounds_toArray,List.set_cons_zero,List.set_cons_succ]
      refine wpAnyH_ready (rs:=[6]) (by kernel_rfl) (by simp) ?_
      refine AllReadyH.cons rfl (fun K hK=>?_) ?_
      · go_simp
        refine (HF.out _ (by repeat (first | exact Mor.refl _ | apply Mor.alloc | apply Mor.more | apply Mor.drewN | apply Mor.drew))).mono ?_
        rintro e w5 ⟨A5,n5,c5,X5,m5,k5,rfl,ho5,hm5⟩
        have HO5:=Lib.hid ho5
        have HM5:=Lib.hid hm5
        clear ho5 hm5
        go_simp
        refine hK.out _ _ ?_ (fun hHeld=>?_)
        · exact HKp.out _ (Mor.trans' (by repeat (first | exact Mor.refl _ | apply Mor.alloc | apply Mor.more | apply Mor.drewN | apply Mor.drew)) HM5.out)
        clear hK K
        try dsimp [Act.put]
        try simp only [List.setIfInBounds_toArray,List.set_cons_zero,List.set_cons_succ]
        refine wpAnyH_take (i:=7) (v:=?_) rfl (by kernel_rfl) (by kernel_rfl) (by kernel_rfl) (fun _ _ _ h=>h) (Or.inl ⟨by rfl,?_⟩) (by assumption) ?_
        rotate_left
        · (intro w hSw;(try dsimp only at hSw);go_simp;try with_reducible rfl)
        dsimp [Act.put]
        simp only [List.setIfInBounds_toArray,List.set_cons_zero,List.set_cons_succ]
        refine wpAnyH_take (i:=8) (v:=?_) rfl (by kernel_rfl) (by kernel_rfl) (by kernel_rfl) (fun _ _ _ h=>h) (Or.inl ⟨by rfl,?_⟩) (by assumption) ?_
        rotate_left
        · (intro w hSw;(try dsimp only at hSw);go_simp;try with_reducible rfl)
        dsimp [Act.put]
        simp only [List.setIfInBounds_toArray,List.set_cons_zero,List.set_cons_succ]
        refine wpAnyH_ready (rs:=[9]) (by kernel_rfl) (by simp) ?_
        refine AllReadyH.cons rfl (fun K hK=>?_) ?_
        · go_simp
          refine (HBo.out _ _ _ _ _ _ _ _ (by repeat (first | exact Mor.refl _ | apply Mor.alloc | apply Mor.more | apply Mor.drewN | apply Mor.drew)) HM5.out HO5.out).mono ?_
          rintro e w6 ⟨rfl,HX6⟩
          go_simp
          refine hK.out _ _ ?_ (fun hHeld=>?_)
          · exact HKo.out _ HX6.out.2
          clear hK K
          try dsimp [Act.put]
          try simp only [List.setIfInBounds_toArray,List.set_cons_zero,List.set_cons_succ]
          refine wpAnyH_ready (rs:=[10]) (by kernel_rfl) (by simp) ?_
          refine AllReadyH.cons rfl (fun K hK=>?_) ?_
          · go_simp
            refine hK.out _ _ ?_ (fun hHeld=>?_)
            · exact HKo.out _ HX6.out.2
            clear hK K
            try dsimp [Act.put]
            try simp only [List.setIfInBounds_toArray,List.set_cons_zero,List.set_cons_succ]
            refine wpAnyH_done (by kernel_rfl) ?_ _
            go_wp2_with fail
            go_returns
            exact HX6.out
          exact AllReadyH.nil
        exact AllReadyH.nil
      exact AllReadyH.nil
    exact AllReadyH.nil
  · have HBo:=Lib.hid (fun w1 w2 A n' c X m k (hm1:Mor w w1) (hm2:Mor w1 w2) (ho:OwnB w2 w1.heap.size (.slice A n' c) (.slice X m k) n' m y)=>(HB.out w1 w2 A n' c X m k hm1 hm2 ho).mono fun e w' hh=>DoPost.noH hh hr)
    clear HB hr
    go_enter Tryz.func70,Tryz.ntmps70
    go_wp2_with fail
    refine wp_region_held_drew (S:=fun w'=>w'.cell? ⟨bd,0,none⟩=some (.pointer (some ⟨D,0,none⟩))∧w'.cell? ⟨bx,0,none⟩=some (.string x.key)∧w'.cell? ⟨bx,1,none⟩=some (.int .i64 x.day)∧w'.cell? ⟨bx,2,none⟩=some (.slice L lp lq)) (by kernel_rfl) ?_ (fun hHeld=>?_)
    · exact HKp.out _ (by repeat (first | exact Mor.refl _ | apply Mor.alloc | apply Mor.more | apply Mor.drewN | apply Mor.drew))
    refine wpAnyH_take (i:=0) (v:=?_) rfl (by kernel_rfl) (by kernel_rfl) (by kernel_rfl) (fun _ _ _ h=>h) (Or.inl ⟨by rfl,?_⟩) (by assumption) ?_
    rotate_left
    · (intro w hSw;(try dsimp only at hSw);go_simp;try with_reducible rfl)
    dsimp [Act.put]
    simp only [List.setIfInBounds_toArray,List.set_cons_zero,List.set_cons_succ]
    refine wpAnyH_take (i:=1) (v:=?_) rfl (by kernel_rfl) (by kernel_rfl) (by kernel_rfl) (fun _ _ _ h=>h) (Or.inl ⟨by rfl,?_⟩) (by assumption) ?_
    rotate_left
    · (intro w hSw;(try dsimp only at hSw);go_simp;try with_reducible rfl)
    dsimp [Act.put]
    simp only [List.setIfInBounds_toArray,List.set_cons_zero,List.set_cons_succ]
    refine wpAnyH_take (i:=2) (v:=?_) rfl (by kernel_rfl) (by kernel_rfl) (by kernel_rfl) (fun _ _ _ h=>h) (Or.inl ⟨by rfl,?_⟩) (by assumption) ?_
    rotate_left
    · (intro w hSw;(try dsimp only at hSw);go_simp;try with_reducible rfl)
    dsimp [Act.put]
    simp only [List.setIfInBounds_toArray,List.set_cons_zero,List.set_cons_succ]
    refine wpAnyH_take (i:=3) (v:=?_) rfl (by kernel_rfl) (by kernel_rfl) (by kernel_rfl) (fun _ _ _ h=>h) (Or.inl ⟨by rfl,?_⟩) (by assumption) ?_
    rotate_left
    · (intro w hSw;(try dsimp only at hSw);go_simp;try with_reducible rfl)
    dsimp [Act.put]
    simp only [List.setIfInBounds_toArray,List.set_cons_zero,List.set_cons_succ]
    refine wpAnyH_take (i:=5) (v:=?_) rfl (by kernel_rfl) (by kernel_rfl) (by kernel_rfl) (fun _ _ _ h=>h) (Or.inl ⟨by rfl,?_⟩) (by assumption) ?_
    rotate_left
    · (intro w hSw;(try dsimp only at hSw);go_simp;try with_reducible rfl)
    dsimp [Act.put]
    simp only [List.setIfInBounds_toArray,List.set_cons_zero,List.set_cons_succ]
    refine wpAnyH_ready (rs:=[4]) (by kernel_rfl) (by simp) ?_
    refine AllReadyH.cons rfl (fun K hK=>?_) ?_
    · go_simp
      refine hK.out _ _ ?_ (fun hHeld=>?_)
      · exact HKp.out _ (by repeat (first | exact Mor.refl _ | apply Mor.alloc | apply Mor.more | apply Mor.drewN | apply Mor.drew))
      clear hK K
      try dsimp [Act.put]
      try simp only [List.setIfInBounds_toArray,List.set_cons_zero,List.set_cons_succ]
      refine wpAnyH_ready (rs:=[6]) (by kernel_rfl) (by simp) ?_
      refine AllReadyH.cons rfl (fun K hK=>?_) ?_
      · go_simp
        refine (HF.out _ (by repeat (first | exact Mor.refl _ | apply Mor.alloc | apply Mor.more | apply Mor.drewN | apply Mor.drew))).mono ?_
        rintro e w5 ⟨A5,n5,c5,X5,m5,k5,rfl,ho5,hm5⟩
        have HO5:=Lib.hid ho5
        have HM5:=Lib.hid hm5
        clear ho5 hm5
        go_simp
        refine hK.out _ _ ?_ (fun hHeld=>?_)
        · exact HKp.out _ (Mor.trans' (by repeat (first | exact Mor.refl _ | apply Mor.alloc | apply Mor.more | apply Mor.drewN | apply Mor.drew)) HM5.out)
        clear hK K
        try dsimp [Act.put]
        try simp only [List.setIfInBounds_toArray,List.set_cons_zero,List.set_cons_succ]
        refine wpAnyH_take (i:=7) (v:=?_) rfl (by kernel_rfl) (by kernel_rfl) (by kernel_rfl) (fun _ _ _ h=>h) (Or.inl ⟨by rfl,?_⟩) (by assumption) ?_
        rotate_left
        · (intro w hSw;(try dsimp only at hSw);go_simp;try with_reducible rfl)
        dsimp [Act.put]
        simp only [List.setIfInBounds_toArray,List.set_cons_zero,List.set_cons_succ]
        refine wpAnyH_take (i:=8) (v:=?_) rfl (by kernel_rfl) (by kernel_rfl) (by kernel_rfl) (fun _ _ _ h=>h) (Or.inl ⟨by rfl,?_⟩) (by assumption) ?_
        rotate_left
        · (intro w hSw;(try dsimp only at hSw);go_simp;try with_reducible rfl)
        dsimp [Act.put]
        simp only [List.setIfInBounds_toArray,List.set_cons_zero,List.set_cons_succ]
        refine wpAnyH_ready (rs:=[9]) (by kernel_rfl) (by simp) ?_
        refine AllReadyH.cons rfl (fun K hK=>?_) ?_
        · go_simp
          refine (HBo.out _ _ _ _ _ _ _ _ (by repeat (first | exact Mor.refl _ | apply Mor.alloc | apply Mor.more | apply Mor.drewN | apply Mor.drew)) HM5.out HO5.out).mono ?_
          rintro e w6 ⟨he,HX6⟩
          rw [bang] at he
          subst he
          exact ⟨rfl,HX6.out⟩
        exact AllReadyH.nil
      exact AllReadyH.nil
    exact AllReadyH.nil
set_option maxHeartbeats 3200000 in
theorem do_run (D:Nat) (wb:World) (bd bn:Nat) (n:Int) (h0:wb.cell? ⟨bd,0,none⟩=some (.pointer (some ⟨D,0,none⟩))) (h1:wb.cell? ⟨bn,0,none⟩=some (.int .i64 n)) (h0D:bd≠D) (h1D:bn≠D) (tab:Tab wb) :
    DoC 82 #[.pointer (some ⟨bd,0,none⟩),.pointer (some ⟨bn,0,none⟩)] D wb (fun s=>bkR (runcD s.b s.ps n) (if runcD s.b s.ps n=0 then madeb s.b (dueP s.ps n) else zeroB) s):=by
  intro w s hm hd
  have HD:=Lib.hid hd
  obtain ⟨A,na,c,X,m,k,P,p,q,hd⟩:=hd
  have g0:=cell_morD hm h0
  have g1:=cell_morD hm h1
  have d0:=hd.bk.cell 0
  have d1:=hd.bk.cell 1
  have d2:=hd.bk.cell 2
  have d3:=hd.bk.cell 3
  have dl:=hd.bk.lt
  simp at d0 d1 d2 d3
  have HF:=Lib.hid (fun w' (hm':Mor w w')=>run_anyD A na c X m k s.b P p q s.ps n w' (hd.bq.mor hm') (hd.psr.1.mor hm') hd.pl hd.psr.2.1 hd.psr.2.2 (tab.mor (hm.trans' hm')))
  have HB:=Lib.hid (fun w1 w2 A n' c X m k (hm1:Mor w w1) (hm2:Mor w1 w2) ho=>become_call D s w w1 w2 HD.out hm1 hm2 (if runcD s.b s.ps n=0 then madeb s.b (dueP s.ps n) else zeroB) (runcD s.b s.ps n) A n' c X m k (Nat.lt_of_lt_of_le dl hm1.below.size) ho (fun h=>run_okD h))
  have HKp:=Lib.hid (fun w' (hm':Mor w w')=>show w'.cell? ⟨bd,0,none⟩=some (.pointer (some ⟨D,0,none⟩))∧w'.cell? ⟨bn,0,none⟩=some (.int .i64 n) from ⟨cell_morD hm' g0,cell_morD hm' g1⟩)
  have HKo:=Lib.hid (fun w' (ho:On D w w')=>show w'.cell? ⟨bd,0,none⟩=some (.pointer (some ⟨D,0,none⟩))∧w'.cell? ⟨bn,0,none⟩=some (.int .i64 n) from ⟨cell_onD ho g0 (h0D),cell_onD ho g1 (h1D)⟩)
  clear hd hm h0 h1
  show Calls _ _ _ _ (DoPost w D s (bkR (runcD s.b s.ps n) (if runcD s.b s.ps n=0 then madeb s.b (dueP s.ps n) else zeroB) s))
  generalize (if runcD s.b s.ps n=0 then madeb s.b (dueP s.ps n) else zeroB)=y at *
  generalize (runcD s.b s.ps n)=r at *
  generalize s.b.shut=sh at *
  generalize bkR r y s=dr at *
  by_cases hr:dr.c=0
  · have HBo:=Lib.hid (fun w1 w2 A n' c X m k (hm1:Mor w w1) (hm2:Mor w1 w2) (ho:OwnB w2 w1.heap.size (.slice A n' c) (.slice X m k) n' m y)=>(HB.out w1 w2 A n' c X m k hm1 hm2 ho).mono fun e w' hh=>DoPost.okH hh hr)
    clear HB hr
    go_enter Tryz.func82,Tryz.ntmps82
    go_wp2_with fail
    refine wp_region_held_drew (S:=fun w'=>w'.cell? ⟨bd,0,none⟩=some (.pointer (some ⟨D,0,none⟩))∧w'.cell? ⟨bn,0,none⟩=some (.int .i64 n)) (by kernel_rfl) ?_ (fun hHeld=>?_)
    · exact HKp.out _ (by repeat (first | exact Mor.refl _ | apply Mor.alloc | apply Mor.more | apply Mor.drewN | apply Mor.drew))
    refine wpAnyH_take (i:=0) (v:=?_) rfl (by kernel_rfl) (by kernel_rfl) (by kernel_rfl) (fun _ _ _ h=>h) (Or.inl ⟨by rfl,?_⟩) (by assumption) ?_
    rotate_left
    · (intro w hSw;(try dsimp only at hSw);go_simp;try with_reducible rfl)
    dsimp [Act.put]
    simp only [List.setIfInBounds_toArray,List.set_cons_zero,List.set_cons_succ]
    refine wpAnyH_take (i:=1) (v:=?_) rfl (by kernel_rfl) (by kernel_rfl) (by kernel_rfl) (fun _ _ _ h=>h) (Or.inl ⟨by rfl,?_⟩) (by assumption) ?_
    rotate_left
    · (intro w hSw;(try dsimp only at hSw);go_simp;try with_reducible rfl)
    dsimp [Act.put]
    simp only [List.setIfInBounds_toArray,List.set_cons_zero,List.set_cons_succ]
    refine wpAnyH_take (i:=2) (v:=?_) rfl (by kernel_rfl) (by kernel_rfl) (by kernel_rfl) (fun _ _ _ h=>h) (Or.inl ⟨by rfl,?_⟩) (by assumption) ?_
    rotate_left
    · (intro w hSw;(try dsimp only at hSw);go_simp;try with_reducible rfl)
    dsimp [Act.put]
    simp only [List.setIfInBounds_toArray,List.set_cons_zero,List.set_cons_succ]
    refine wpAnyH_take (i:=3) (v:=?_) rfl (by kernel_rfl) (by kernel_rfl) (by kernel_rfl) (fun _ _ _ h=>h) (Or.inl ⟨by rfl,?_⟩) (by assumption) ?_
    rotate_left
    · (intro w hSw;(try dsimp only at hSw);go_simp;try with_reducible rfl)
    dsimp [Act.put]
    simp only [List.setIfInBounds_toArray,List.set_cons_zero,List.set_cons_succ]
    refine wpAnyH_take (i:=5) (v:=?_) rfl (by kernel_rfl) (by kernel_rfl) (by kernel_rfl) (fun _ _ _ h=>h) (Or.inl ⟨by rfl,?_⟩) (by assumption) ?_
    rotate_left
    · (intro w hSw;(try dsimp only at hSw);go_simp;try with_reducible rfl)
    dsimp [Act.put]
    simp only [List.setIfInBounds_toArray,List.set_cons_zero,List.set_cons_succ]
    refine wpAnyH_take (i:=6) (v:=?_) rfl (by kernel_rfl) (by kernel_rfl) (by kernel_rfl) (fun _ _ _ h=>h) (Or.inl ⟨by rfl,?_⟩) (by assumption) ?_
    rotate_left
    · (intro w hSw;(try dsimp only at hSw);go_simp;try with_reducible rfl)
    dsimp [Act.put]
    simp only [List.setIfInBounds_toArray,List.set_cons_zero,List.set_cons_succ]
    refine wpAnyH_take (i:=7) (v:=?_) rfl (by kernel_rfl) (by kernel_rfl) (by kernel_rfl) (fun _ _ _ h=>h) (Or.inl ⟨by rfl,?_⟩) (by assumption) ?_
    rotate_left
    · (intro w hSw;(try dsimp only at hSw);go_simp;try with_reducible rfl)
    dsimp [Act.put]
    simp only [List.setIfInBounds_toArray,List.set_cons_zero,List.set_cons_succ]
    refine wpAnyH_take (i:=9) (v:=?_) rfl (by kernel_rfl) (by kernel_rfl) (by kernel_rfl) (fun _ _ _ h=>h) (Or.inl ⟨by rfl,?_⟩) (by assumption) ?_
    rotate_left
    · (intro w hSw;(try dsimp only at hSw);go_simp;try with_reducible rfl)
    dsimp [Act.put]
    simp only [List.setIfInBounds_toArray,List.set_cons_zero,List.set_cons_succ]
    refine wpAnyH_ready (rs:=[4,8]) (by kernel_rfl) (by simp) ?_
    refine AllReadyH.cons rfl (fun K hK=>?_) ?_
    · go_simp
      refine hK.out _ _ ?_ (fun hHeld=>?_)
      · exact HKp.out _ (by repeat (first | exact Mor.refl _ | apply Mor.alloc | apply Mor.more | apply Mor.drewN | apply Mor.drew))
      clear hK K
      try dsimp [Act.put]
      try simp only [List.setIfInBounds_toArray,List.set_cons_zero,List.set_cons_succ]
      refine wpAnyH_ready (rs:=[8]) (by kernel_rfl) (by simp) ?_
      refine AllReadyH.cons rfl (fun K hK=>?_) ?_
      · go_simp
        refine hK.out _ _ ?_ (fun hHeld=>?_)
        · exact HKp.out _ (by repeat (first | exact Mor.refl _ | apply Mor.alloc | apply Mor.more | apply Mor.drewN | apply Mor.drew))
        clear hK K
        try dsimp [Act.put]
        try simp only [List.setIfInBounds_toArray,List.set_cons_zero,List.set_cons_succ]
        refine wpAnyH_ready (rs:=[10]) (by kernel_rfl) (by simp) ?_
        refine AllReadyH.cons rfl (fun K hK=>?_) ?_
        · go_simp
          refine (HF.out _ (by repeat (first | exact Mor.refl _ | apply Mor.alloc | apply Mor.more | apply Mor.drewN | apply Mor.drew))).mono ?_
          rintro e w5 ⟨A5,n5,c5,X5,m5,k5,rfl,ho5,hm5⟩
          have HO5:=Lib.hid ho5
          have HM5:=Lib.hid hm5
          clear ho5 hm5
          go_simp
          refine hK.out _ _ ?_ (fun hHeld=>?_)
          · exact HKp.out _ (Mor.trans' (by repeat (first | exact Mor.refl _ | apply Mor.alloc | apply Mor.more | apply Mor.drewN | apply Mor.drew)) HM5.out)
          clear hK K
          try dsimp [Act.put]
          try simp only [List.setIfInBounds_toArray,List.set_cons_zero,List.set_cons_succ]
          refine wpAnyH_take (i:=11) (v:=?_) rfl (by kernel_rfl) (by kernel_rfl) (by kernel_rfl) (fun _ _ _ h=>h) (Or.inl ⟨by rfl,?_⟩) (by assumption) ?_
          rotate_left
          · (intro w hSw;(try dsimp only at hSw);go_simp;try with_reducible rfl)
          dsimp [Act.put]
          simp only [List.setIfInBounds_toArray,List.set_cons_zero,List.set_cons_succ]
          refine wpAnyH_take (i:=12) (v:=?_) rfl (by kernel_rfl) (by kernel_rfl) (by kernel_rfl) (fun _ _ _ h=>h) (Or.inl ⟨by rfl,?_⟩) (by assumption) ?_
          rotate_left
          · (intro w hSw;(try dsimp only at hSw);go_simp;try with_reducible rfl)
          dsimp [Act.put]
          simp only [List.setIfInBounds_toArray,List.set_cons_zero,List.set_cons_succ]
          refine wpAnyH_ready (rs:=[13]) (by kernel_rfl) (by simp) ?_
          refine AllReadyH.cons rfl (fun K hK=>?_) ?_
          · go_simp
            refine (HBo.out _ _ _ _ _ _ _ _ (by repeat (first | exact Mor.refl _ | apply Mor.alloc | apply Mor.more | apply Mor.drewN | apply Mor.drew)) HM5.out HO5.out).mono ?_
            rintro e w6 ⟨rfl,HX6⟩
            go_simp
            refine hK.out _ _ ?_ (fun hHeld=>?_)
            · exact HKo.out _ HX6.out.2
            clear hK K
            try dsimp [Act.put]
            try simp only [List.setIfInBounds_toArray,List.set_cons_zero,List.set_cons_succ]
            refine wpAnyH_ready (rs:=[14]) (by kernel_rfl) (by simp) ?_
            refine AllReadyH.cons rfl (fun K hK=>?_) ?_
            · go_simp
              refine hK.out _ _ ?_ (fun hHeld=>?_)
              · exact HKo.out _ HX6.out.2
              clear hK K
              try dsimp [Act.put]
              try simp only [List.setIfInBounds_toArray,List.set_cons_zero,List.set_cons_succ]
              refine wpAnyH_done (by kernel_rfl) ?_ _
              go_wp2_with fail
              go_returns
              exact HX6.out
            exact AllReadyH.nil
          exact AllReadyH.nil
        exact AllReadyH.nil
      exact AllReadyH.nil
    refine AllReadyH.cons rfl (fun K hK=>?_) ?_
    · go_simp
      refine hK.out _ _ ?_ (fun hHeld=>?_)
      · exact HKp.out _ (by repeat (first | exact Mor.refl _ | apply Mor.alloc | apply Mor.more | apply Mor.drewN | apply Mor.drew))
      clear hK K
      try dsimp [Act.put]
      try simp only [List.setIfInBounds_toArray,List.set_cons_zero,List.set_cons_succ]
      refine wpAnyH_ready (rs:=[4]) (by kernel_rfl) (by simp) ?_
      refine AllReadyH.cons rfl (fun K hK=>?_) ?_
      · go_simp
        refine hK.out _ _ ?_ (fun hHeld=>?_)
        · exact HKp.out _ (by repeat (first | exact Mor.refl _ | apply Mor.alloc | apply Mor.more | apply Mor.drewN | apply Mor.drew))
        clear hK K
        try dsimp [Act.put]
        try simp only [List.setIfInBounds_toArray,List.set_cons_zero,List.set_cons_succ]
        refine wpAnyH_ready (rs:=[10]) (by kernel_rfl) (by simp) ?_
        refine AllReadyH.cons rfl (fun K hK=>?_) ?_
        · go_simp
          refine (HF.out _ (by repeat (first | exact Mor.refl _ | apply Mor.alloc | apply Mor.more | apply Mor.drewN | apply Mor.drew))).mono ?_
          rintro e w5 ⟨A5,n5,c5,X5,m5,k5,rfl,ho5,hm5⟩
          have HO5:=Lib.hid ho5
          have HM5:=Lib.hid hm5
          clear ho5 hm5
          go_simp
          refine hK.out _ _ ?_ (fun hHeld=>?_)
          · exact HKp.out _ (Mor.trans' (by repeat (first | exact Mor.refl _ | apply Mor.alloc | apply Mor.more | apply Mor.drewN | apply Mor.drew)) HM5.out)
          clear hK K
          try dsimp [Act.put]
          try simp only [List.setIfInBounds_toArray,List.set_cons_zero,List.set_cons_succ]
          refine wpAnyH_take (i:=11) (v:=?_) rfl (by kernel_rfl) (by kernel_rfl) (by kernel_rfl) (fun _ _ _ h=>h) (Or.inl ⟨by rfl,?_⟩) (by assumption) ?_
          rotate_left
          · (intro w hSw;(try dsimp only at hSw);go_simp;try with_reducible rfl)
          dsimp [Act.put]
          simp only [List.setIfInBounds_toArray,List.set_cons_zero,List.set_cons_succ]
          refine wpAnyH_take (i:=12) (v:=?_) rfl (by kernel_rfl) (by kernel_rfl) (by kernel_rfl) (fun _ _ _ h=>h) (Or.inl ⟨by rfl,?_⟩) (by assumption) ?_
          rotate_left
          · (intro w hSw;(try dsimp only at hSw);go_simp;try with_reducible rfl)
          dsimp [Act.put]
          simp only [List.setIfInBounds_toArray,List.set_cons_zero,List.set_cons_succ]
          refine wpAnyH_ready (rs:=[13]) (by kernel_rfl) (by simp) ?_
          refine AllReadyH.cons rfl (fun K hK=>?_) ?_
          · go_simp
            refine (HBo.out _ _ _ _ _ _ _ _ (by repeat (first | exact Mor.refl _ | apply Mor.alloc | apply Mor.more | apply Mor.drewN | apply Mor.drew)) HM5.out HO5.out).mono ?_
            rintro e w6 ⟨rfl,HX6⟩
            go_simp
            refine hK.out _ _ ?_ (fun hHeld=>?_)
            · exact HKo.out _ HX6.out.2
            clear hK K
            try dsimp [Act.put]
            try simp only [List.setIfInBounds_toArray,List.set_cons_zero,List.set_cons_succ]
            refine wpAnyH_ready (rs:=[14]) (by kernel_rfl) (by simp) ?_
            refine AllReadyH.cons rfl (fun K hK=>?_) ?_
            · go_simp
              refine hK.out _ _ ?_ (fun hHeld=>?_)
              · exact HKo.out _ HX6.out.2
              clear hK K
              try dsimp [Act.put]
              try simp only [List.setIfInBounds_toArray,List.set_cons_zero,List.set_cons_succ]
              refine wpAnyH_done (by kernel_rfl) ?_ _
              go_wp2_with fail
              go_returns
              exact HX6.out
            exact AllReadyH.nil
          exact AllReadyH.nil
        exact AllReadyH.nil
      exact AllReadyH.nil
    exact AllReadyH.nil
  · have HBo:=Lib.hid (fun w1 w2 A n' c X m k (hm1:Mor w w1) (hm2:Mor w1 w2) (ho:OwnB w2 w1.heap.size (.slice A n' c) (.slice X m k) n' m y)=>(HB.out w1 w2 A n' c X m k hm1 hm2 ho).mono fun e w' hh=>DoPost.noH hh hr)
    clear HB hr
    go_enter Tryz.func82,Tryz.ntmps82
    go_wp2_with fail
    refine wp_region_held_drew (S:=fun w'=>w'.cell? ⟨bd,0,none⟩=some (.pointer (some ⟨D,0,none⟩))∧w'.cell? ⟨bn,0,none⟩=some (.int .i64 n)) (by kernel_rfl) ?_ (fun hHeld=>?_)
    · exact HKp.out _ (by repeat (first | exact Mor.refl _ | apply Mor.alloc | apply Mor.more | apply Mor.drewN | apply Mor.drew))
    refine wpAnyH_take (i:=0) (v:=?_) rfl (by kernel_rfl) (by kernel_rfl) (by kernel_rfl) (fun _ _ _ h=>h) (Or.inl ⟨by rfl,?_⟩) (by assumption) ?_
    rotate_left
    · (intro w hSw;(try dsimp only at hSw);go_simp;try with_reducible rfl)
    dsimp [Act.put]
    simp only [List.setIfInBounds_toArray,List.set_cons_zero,List.set_cons_succ]
    refine wpAnyH_take (i:=1) (v:=?_) rfl (by kernel_rfl) (by kernel_rfl) (by kernel_rfl) (fun _ _ _ h=>h) (Or.inl ⟨by rfl,?_⟩) (by assumption) ?_
    rotate_left
    · (intro w hSw;(try dsimp only at hSw);go_simp;try with_reducible rfl)
    dsimp [Act.put]
    simp only [List.setIfInBounds_toArray,List.set_cons_zero,List.set_cons_succ]
    refine wpAnyH_take (i:=2) (v:=?_) rfl (by kernel_rfl) (by kernel_rfl) (by kernel_rfl) (fun _ _ _ h=>h) (Or.inl ⟨by rfl,?_⟩) (by assumption) ?_
    rotate_left
    · (intro w hSw;(try dsimp only at hSw);go_simp;try with_reducible rfl)
    dsimp [Act.put]
    simp only [List.setIfInBounds_toArray,List.set_cons_zero,List.set_cons_succ]
    refine wpAnyH_take (i:=3) (v:=?_) rfl (by kernel_rfl) (by kernel_rfl) (by kernel_rfl) (fun _ _ _ h=>h) (Or.inl ⟨by rfl,?_⟩) (by assumption) ?_
    rotate_left
    · (intro w hSw;(try dsimp only at hSw);go_simp;try with_reducible rfl)
    dsimp [Act.put]
    simp only [List.setIfInBounds_toArray,List.set_cons_zero,List.set_cons_succ]
    refine wpAnyH_take (i:=5) (v:=?_) rfl (by kernel_rfl) (by kernel_rfl) (by kernel_rfl) (fun _ _ _ h=>h) (Or.inl ⟨by rfl,?_⟩) (by assumption) ?_
    rotate_left
    · (intro w hSw;(try dsimp only at hSw);go_simp;try with_reducible rfl)
    dsimp [Act.put]
    simp only [List.setIfInBounds_toArray,List.set_cons_zero,List.set_cons_succ]
    refine wpAnyH_take (i:=6) (v:=?_) rfl (by kernel_rfl) (by kernel_rfl) (by kernel_rfl) (fun _ _ _ h=>h) (Or.inl ⟨by rfl,?_⟩) (by assumption) ?_
    rotate_left
    · (intro w hSw;(try dsimp only at hSw);go_simp;try with_reducible rfl)
    dsimp [Act.put]
    simp only [List.setIfInBounds_toArray,List.set_cons_zero,List.set_cons_succ]
    refine wpAnyH_take (i:=7) (v:=?_) rfl (by kernel_rfl) (by kernel_rfl) (by kernel_rfl) (fun _ _ _ h=>h) (Or.inl ⟨by rfl,?_⟩) (by assumption) ?_
    rotate_left
    · (intro w hSw;(try dsimp only at hSw);go_simp;try with_reducible rfl)
    dsimp [Act.put]
    simp only [List.setIfInBounds_toArray,List.set_cons_zero,List.set_cons_succ]
    refine wpAnyH_take (i:=9) (v:=?_) rfl (by kernel_rfl) (by kernel_rfl) (by kernel_rfl) (fun _ _ _ h=>h) (Or.inl ⟨by rfl,?_⟩) (by assumption) ?_
    rotate_left
    · (intro w hSw;(try dsimp only at hSw);go_simp;try with_reducible rfl)
    dsimp [Act.put]
    simp only [List.setIfInBounds_toArray,List.set_cons_zero,List.set_cons_succ]
    refine wpAnyH_ready (rs:=[4,8]) (by kernel_rfl) (by simp) ?_
    refine AllReadyH.cons rfl (fun K hK=>?_) ?_
    · go_simp
      refine hK.out _ _ ?_ (fun hHeld=>?_)
      · exact HKp.out _ (by repeat (first | exact Mor.refl _ | apply Mor.alloc | apply Mor.more | apply Mor.drewN | apply Mor.drew))
      clear hK K
      try dsimp [Act.put]
      try simp only [List.setIfInBounds_toArray,List.set_cons_zero,List.set_cons_succ]
      refine wpAnyH_ready (rs:=[8]) (by kernel_rfl) (by simp) ?_
      refine AllReadyH.cons rfl (fun K hK=>?_) ?_
      · go_simp
        refine hK.out _ _ ?_ (fun hHeld=>?_)
        · exact HKp.out _ (by repeat (first | exact Mor.refl _ | apply Mor.alloc | apply Mor.more | apply Mor.drewN | apply Mor.drew))
        clear hK K
        try dsimp [Act.put]
        try simp only [List.setIfInBounds_toArray,List.set_cons_zero,List.set_cons_succ]
        refine wpAnyH_ready (rs:=[10]) (by kernel_rfl) (by simp) ?_
        refine AllReadyH.cons rfl (fun K hK=>?_) ?_
        · go_simp
          refine (HF.out _ (by repeat (first | exact Mor.refl _ | apply Mor.alloc | apply Mor.more | apply Mor.drewN | apply Mor.drew))).mono ?_
          rintro e w5 ⟨A5,n5,c5,X5,m5,k5,rfl,ho5,hm5⟩
          have HO5:=Lib.hid ho5
          have HM5:=Lib.hid hm5
          clear ho5 hm5
          go_simp
          refine hK.out _ _ ?_ (fun hHeld=>?_)
          · exact HKp.out _ (Mor.trans' (by repeat (first | exact Mor.refl _ | apply Mor.alloc | apply Mor.more | apply Mor.drewN | apply Mor.drew)) HM5.out)
          clear hK K
          try dsimp [Act.put]
          try simp only [List.setIfInBounds_toArray,List.set_cons_zero,List.set_cons_succ]
          refine wpAnyH_take (i:=11) (v:=?_) rfl (by kernel_rfl) (by kernel_rfl) (by kernel_rfl) (fun _ _ _ h=>h) (Or.inl ⟨by rfl,?_⟩) (by assumption) ?_
          rotate_left
          · (intro w hSw;(try dsimp only at hSw);go_simp;try with_reducible rfl)
          dsimp [Act.put]
          simp only [List.setIfInBounds_toArray,List.set_cons_zero,List.set_cons_succ]
          refine wpAnyH_take (i:=12) (v:=?_) rfl (by kernel_rfl) (by kernel_rfl) (by kernel_rfl) (fun _ _ _ h=>h) (Or.inl ⟨by rfl,?_⟩) (by assumption) ?_
          rotate_left
          · (intro w hSw;(try dsimp only at hSw);go_simp;try with_reducible rfl)
          dsimp [Act.put]
          simp only [List.setIfInBounds_toArray,List.set_cons_zero,List.set_cons_succ]
          refine wpAnyH_ready (rs:=[13]) (by kernel_rfl) (by simp) ?_
          refine AllReadyH.cons rfl (fun K hK=>?_) ?_
          · go_simp
            refine (HBo.out _ _ _ _ _ _ _ _ (by repeat (first | exact Mor.refl _ | apply Mor.alloc | apply Mor.more | apply Mor.drewN | apply Mor.drew)) HM5.out HO5.out).mono ?_
            rintro e w6 ⟨he,HX6⟩
            rw [bang] at he
            subst he
            exact ⟨rfl,HX6.out⟩
          exact AllReadyH.nil
        exact AllReadyH.nil
      exact AllReadyH.nil
    refine AllReadyH.cons rfl (fun K hK=>?_) ?_
    · go_simp
      refine hK.out _ _ ?_ (fun hHeld=>?_)
      · exact HKp.out _ (by repeat (first | exact Mor.refl _ | apply Mor.alloc | apply Mor.more | apply Mor.drewN | apply Mor.drew))
      clear hK K
      try dsimp [Act.put]
      try simp only [List.setIfInBounds_toArray,List.set_cons_zero,List.set_cons_succ]
      refine wpAnyH_ready (rs:=[4]) (by kernel_rfl) (by simp) ?_
      refine AllReadyH.cons rfl (fun K hK=>?_) ?_
      · go_simp
        refine hK.out _ _ ?_ (fun hHeld=>?_)
        · exact HKp.out _ (by repeat (first | exact Mor.refl _ | apply Mor.alloc | apply Mor.more | apply Mor.drewN | apply Mor.drew))
        clear hK K
        try dsimp [Act.put]
        try simp only [List.setIfInBounds_toArray,List.set_cons_zero,List.set_cons_succ]
        refine wpAnyH_ready (rs:=[10]) (by kernel_rfl) (by simp) ?_
        refine AllReadyH.cons rfl (fun K hK=>?_) ?_
        · go_simp
          refine (HF.out _ (by repeat (first | exact Mor.refl _ | apply Mor.alloc | apply Mor.more | apply Mor.drewN | apply Mor.drew))).mono ?_
          rintro e w5 ⟨A5,n5,c5,X5,m5,k5,rfl,ho5,hm5⟩
          have HO5:=Lib.hid ho5
          have HM5:=Lib.hid hm5
          clear ho5 hm5
          go_simp
          refine hK.out _ _ ?_ (fun hHeld=>?_)
          · exact HKp.out _ (Mor.trans' (by repeat (first | exact Mor.refl _ | apply Mor.alloc | apply Mor.more | apply Mor.drewN | apply Mor.drew)) HM5.out)
          clear hK K
          try dsimp [Act.put]
          try simp only [List.setIfInBounds_toArray,List.set_cons_zero,List.set_cons_succ]
          refine wpAnyH_take (i:=11) (v:=?_) rfl (by kernel_rfl) (by kernel_rfl) (by kernel_rfl) (fun _ _ _ h=>h) (Or.inl ⟨by rfl,?_⟩) (by assumption) ?_
          rotate_left
          · (intro w hSw;(try dsimp only at hSw);go_simp;try with_reducible rfl)
          dsimp [Act.put]
          simp only [List.setIfInBounds_toArray,List.set_cons_zero,List.set_cons_succ]
          refine wpAnyH_take (i:=12) (v:=?_) rfl (by kernel_rfl) (by kernel_rfl) (by kernel_rfl) (fun _ _ _ h=>h) (Or.inl ⟨by rfl,?_⟩) (by assumption) ?_
          rotate_left
          · (intro w hSw;(try dsimp only at hSw);go_simp;try with_reducible rfl)
          dsimp [Act.put]
          simp only [List.setIfInBounds_toArray,List.set_cons_zero,List.set_cons_succ]
          refine wpAnyH_ready (rs:=[13]) (by kernel_rfl) (by simp) ?_
          refine AllReadyH.cons rfl (fun K hK=>?_) ?_
          · go_simp
            refine (HBo.out _ _ _ _ _ _ _ _ (by repeat (first | exact Mor.refl _ | apply Mor.alloc | apply Mor.more | apply Mor.drewN | apply Mor.drew)) HM5.out HO5.out).mono ?_
            rintro e w6 ⟨he,HX6⟩
            rw [bang] at he
            subst he
            exact ⟨rfl,HX6.out⟩
          exact AllReadyH.nil
        exact AllReadyH.nil
      exact AllReadyH.nil
    exact AllReadyH.nil
end Go.Proofs.YtdhbkifpodekcaaGreatDoor
namespace Go.Proofs.YtdhbkifpodekcaaGreatDoor
open Go Go.ChangeShapes Go.WideShapes Go.ChangeAt Go.RowKit Go.PlainAid
set_option linter.unusedVariables false
set_option maxRecDepth 100000
def recR (c:Int) (l:List Int) (s:St):Do:=⟨c,tolB l,s⟩
theorem RecPost.to_do {w w':World} {D:Nat} {s:St} {c:Int} {l:List Int} {e:Ending} (hd:Dk w D s) (h:RecPost w (c,l) e w'):DoPost w D s (recR c l s) e w':=by
  refine ⟨?_,On.of_mor h.2⟩
  rcases h.1 with ⟨h0,he⟩ | ⟨h0,he⟩
  · exact .inl ⟨h0,he,hd.mor h.2⟩
  · exact .inr ⟨h0,he,hd.mor h.2⟩
theorem profit_any (A:Option Addr) (n c:Nat) (X:Option Addr) (m k:Nat) (b:Bok) (f t:Int) (w:World) (h:Bq w A n c X m k b) :
    Calls Tryz.prog 138 #[bv A n c X m k b.shut,.int .i64 f,.int .i64 t] w (NV w (if profc b f t=0 then profv b f t else 0) (profc b f t)):=by
  by_cases hc:profc b f t=0
  · rw [if_pos hc,hc];exact profit_ok A n c X m k b f t w h hc
  · rw [if_neg hc];exact profit_no A n c X m k b f t w h hc
theorem trial_any (A:Option Addr) (n c:Nat) (X:Option Addr) (m k:Nat) (b:Bok) (t:Int) (w:World) (h:Bq w A n c X m k b) :
    Calls Tryz.prog 140 #[bv A n c X m k b.shut,.int .i64 t] w fun e w'=>e=.returned (.tuple #[.int .i64 (if lookc b t=0 then posS b t else 0),.int .i64 (if lookc b t=0 then negS b t else 0),.int .i64 (lookc b t)])∧Mor w w':=by
  by_cases hc:lookc b t=0
  · rw [if_pos hc,if_pos hc,hc];exact trial_ok A n c X m k b t w h hc
  · rw [if_neg hc,if_neg hc];exact trial_no A n c X m k b t w h hc
theorem sheet_any (A:Option Addr) (n c:Nat) (X:Option Addr) (m k:Nat) (b:Bok) (t:Int) (w:World) (h:Bq w A n c X m k b) :
    Calls Tryz.prog 142 #[bv A n c X m k b.shut,.int .i64 t] w fun e w'=>e=.returned (.tuple #[.int .i64 (if lookc b t=0 then kS b.en 0 t 0 b.ac else 0),.int .i64 (if lookc b t=0 then -kS b.en 0 t 1 b.ac else 0),.int .i64 (if lookc b t=0 then -kS b.en 0 t 2 b.ac else 0),.int .i64 (lookc b t)])∧Mor w w':=by
  by_cases hc:lookc b t=0
  · rw [if_pos hc,if_pos hc,if_pos hc,hc];exact sheet_ok A n c X m k b t w h hc
  · rw [if_neg hc,if_neg hc,if_neg hc];exact sheet_no A n c X m k b t w h hc
theorem balv_i64 (b:Bok) (s:ByteArray) (d:Int):I64 (balv b s d):=by
  unfold balv
  split
  · unfold I64;omega
  · rename_i h
    have hc:balc b s d=0:=by simpa using h
    have hb:bookc b=0:=by
      by_cases h1:bookc b=0
      · exact h1
      · unfold balc at hc;rw [if_pos h1] at hc;exact absurd hc h1
    have hbo:=(bookc_iff b).1 hb
    have:=ofS_bd hbo.enc hbo.len s 0 d
    unfold I64;omega
theorem profv_i64 (b:Bok) (f t:Int):I64 (if profc b f t=0 then profv b f t else 0):=by
  split
  · rename_i h
    have hbo:=(profc_zero h).1
    have h1:=kS_bdb hbo f t 3
    have h2:=kS_bdb hbo f t 4
    unfold profv I64;omega
  · unfold I64;omega
theorem sm_i64 {b:Bok} (hbo:BOk b) {f:Ln→Int} (hf:∀ a,-720000000000000≤f a∧f a≤720000000000000):-17280000000000000≤sm f b.ac∧sm f b.ac≤17280000000000000:=by
  have h1:=sm_bd (f:=f) (M:=720000000000000) (xs:=b.ac) (fun a _=>hf a)
  have h2:=acc_len hbo.ac
  omega
theorem pos_i64 (b:Bok) (t:Int):I64 (if lookc b t=0 then posS b t else 0)∧I64 (if lookc b t=0 then negS b t else 0):=by
  by_cases h:lookc b t=0
  · rw [if_pos h,if_pos h]
    have hbo:=(lookc_zero h).1
    have h1:=sm_i64 hbo (f:=posv b.en t) (fun a=>by have:=ofS_bd hbo.enc hbo.len a.1 0 t;unfold posv;split <;> omega)
    have h2:=sm_i64 hbo (f:=negv b.en t) (fun a=>by have:=ofS_bd hbo.enc hbo.len a.1 0 t;unfold negv;split <;> omega)
    unfold posS negS I64
    omega
  · rw [if_neg h,if_neg h];unfold I64;omega
theorem sheet_i64 (b:Bok) (t:Int):I64 (if lookc b t=0 then kS b.en 0 t 0 b.ac else 0)∧I64 (if lookc b t=0 then -kS b.en 0 t 1 b.ac else 0)∧I64 (if lookc b t=0 then -kS b.en 0 t 2 b.ac else 0):=by
  by_cases h:lookc b t=0
  · rw [if_pos h,if_pos h,if_pos h]
    have hbo:=(lookc_zero h).1
    have h1:=kS_bdb hbo 0 t 0
    have h2:=kS_bdb hbo 0 t 1
    have h3:=kS_bdb hbo 0 t 2
    unfold I64;omega
  · rw [if_neg h,if_neg h,if_neg h];unfold I64;omega
set_option maxHeartbeats 3200000 in
theorem do_acct (D:Nat) (wb:World) (bd bc bk:Nat) (code:ByteArray) (kind:Int) (h0:wb.cell? ⟨bd,0,none⟩=some (.pointer (some ⟨D,0,none⟩))) (h1:wb.cell? ⟨bc,0,none⟩=some (.string code)) (h2:wb.cell? ⟨bk,0,none⟩=some (.int .i64 kind)) (h0D:bd≠D) (h1D:bc≠D) (h2D:bk≠D) (hcs:code.size≤maxLen) :
    DoC 67 #[.pointer (some ⟨bd,0,none⟩),.pointer (some ⟨bc,0,none⟩),.pointer (some ⟨bk,0,none⟩)] D wb (fun s=>accR s code kind):=by
  intro w s hm hd
  have HD:=Lib.hid hd
  obtain ⟨A,na,c,X,m,k,P,p,q,hd⟩:=hd
  have g0:=cell_morD hm h0
  have g1:=cell_morD hm h1
  have g2:=cell_morD hm h2
  have d0:=hd.bk.cell 0
  have d1:=hd.bk.cell 1
  have d2:=hd.bk.cell 2
  have dl:=hd.bk.lt
  simp at d0 d1 d2
  have HA:=Lib.hid (fun w' (hm:Mor w w')=>(account_any D s w' (HD.out.mor hm) code kind hcs).mono fun e w2 hh=>DoPost.pre hm hh)
  clear hd hm h0 h1 h2 d0 d1 d2
  show Calls _ _ _ _ (DoPost w D s (accR s code kind))
  generalize accR s code kind=dr at *
  by_cases hr:dr.c=0
  · have HAo:=Lib.hid (fun w' (hm:Mor w w')=>(HA.out w' hm).mono fun e w2 hh=>DoPost.okH hh hr)
    clear hr HA
    go_enter Tryz.func67,Tryz.ntmps67
    go_wp2_with fail
    refine (HAo.out _ (Mor.refl _)).mono ?_
    rintro e w6 ⟨rfl,HX6⟩
    go_wp2_with fail
    go_returns
    exact HX6.out
  · have HAo:=Lib.hid (fun w' (hm:Mor w w')=>(HA.out w' hm).mono fun e w2 hh=>DoPost.noH hh hr)
    clear hr HA
    go_enter Tryz.func67,Tryz.ntmps67
    go_wp2_with fail
    refine (HAo.out _ (Mor.refl _)).mono ?_
    rintro e w6 ⟨he,HX6⟩
    rw [bang] at he
    subst he
    go_wp2_with fail
    exact ⟨rfl,HX6.out⟩
set_option maxHeartbeats 3200000 in
theorem do_balance (D:Nat) (wb:World) (bd bc bn:Nat) (code:ByteArray) (n:Int) (h0:wb.cell? ⟨bd,0,none⟩=some (.pointer (some ⟨D,0,none⟩))) (h1:wb.cell? ⟨bc,0,none⟩=some (.string code)) (h2:wb.cell? ⟨bn,0,none⟩=some (.int .i64 n)) (tb:Tb wb) :
    DoC 135 #[.pointer (some ⟨bd,0,none⟩),.pointer (some ⟨bc,0,none⟩),.pointer (some ⟨bn,0,none⟩)] D wb (fun s=>recR (balc s.b code n) [balv s.b code n] s):=by
  intro w s hm hd
  have HD:=Lib.hid hd
  obtain ⟨A,na,c,X,m,k,P,p,q,hd⟩:=hd
  have g0:=cell_morD hm h0
  have g1:=cell_morD hm h1
  have g2:=cell_morD hm h2
  have d0:=hd.bk.cell 0
  have d1:=hd.bk.cell 1
  have d2:=hd.bk.cell 2
  have dl:=hd.bk.lt
  simp at d0 d1 d2
  have HF:=Lib.hid (fun w' (hm:Mor w w')=>show Calls _ _ _ w' (NV w' (balv s.b code n) (balc s.b code n)) from bal_any A na c X m k s.b code n w' (hd.bq.mor hm))
  have HO:=Lib.hid (fun w' (hm':Mor w w')=>(kone_any (balv s.b code n) (balc s.b code n) w' (balv_i64 _ _ _) (tb.mor (hm.trans' hm'))))
  have HTo:=Lib.hid (fun e w' (h:RecPost w ((balc s.b code n),[balv s.b code n]) e w')=>RecPost.to_do HD.out h)
  generalize hsh:s.b.shut=sh at *
  have HKp:=Lib.hid (fun w' (hm':Mor w w')=>show w'.cell? ⟨bd,0,none⟩=some (.pointer (some ⟨D,0,none⟩))∧w'.cell? ⟨bc,0,none⟩=some (.string code)∧w'.cell? ⟨bn,0,none⟩=some (.int .i64 n)∧w'.cell? ⟨D,0,none⟩=some (.slice A na c)∧w'.cell? ⟨D,1,none⟩=some (.slice X m k)∧w'.cell? ⟨D,2,none⟩=some (.int .i64 sh) from ⟨cell_morD hm' g0,cell_morD hm' g1,cell_morD hm' g2,cell_morD hm' d0,cell_morD hm' d1,cell_morD hm' d2⟩)
  clear hd hm hsh h0 h1 h2 tb
  show Calls _ _ _ _ (DoPost w D s (recR (balc s.b code n) [balv s.b code n] s))
  refine Calls.mono ?_ HTo.out
  clear HTo HD
  generalize (balv s.b code n)=v at *
  generalize (balc s.b code n)=r at *
  by_cases hr:r=0
  · have HOo:=Lib.hid (fun w' (hm:Mor w w')=>(HO.out w' hm).mono fun e w2 hh=>RecPost.ok hh hr)
    have HC:=Lib.hid hr
    clear hr HO
    go_enter Tryz.func135,Tryz.ntmps135
    go_wp2_with fail
    go_region_held3 (fun w'=>w'.cell? ⟨bd,0,none⟩=some (.pointer (some ⟨D,0,none⟩))∧w'.cell? ⟨bc,0,none⟩=some (.string code)∧w'.cell? ⟨bn,0,none⟩=some (.int .i64 n)∧w'.cell? ⟨D,0,none⟩=some (.slice A na c)∧w'.cell? ⟨D,1,none⟩=some (.slice X m k)∧w'.cell? ⟨D,2,none⟩=some (.int .i64 sh)) (exact HKp.out _ (by repeat (first | exact Mor.refl _ | apply Mor.alloc | apply Mor.more | apply Mor.drewN | apply Mor.drew))) (first
      | (go_at_call 136;(with_reducible refine (HF.out _ (by repeat (first | exact Mor.refl _ | apply Mor.alloc | apply Mor.more | apply Mor.drewN | apply Mor.drew))).mono ?_);rintro e w5 ⟨rfl,bs,dk,rfl⟩)
      | (go_at_call 36;(with_reducible refine (HOo.out _ (by repeat (first | exact Mor.refl _ | apply Mor.alloc | apply Mor.more | apply Mor.drewN | apply Mor.drew))).mono ?_);rintro e w6 ⟨rfl,bs2,dk2,rfl⟩))
    all_goals go_wp2_with fail
    all_goals go_returns
    all_goals exact ⟨.inl ⟨HC.out,rfl⟩,(by repeat (first | exact Mor.refl _ | apply Mor.alloc | apply Mor.more | apply Mor.drewN | apply Mor.drew))⟩
  · have HOo:=Lib.hid (fun w' (hm:Mor w w')=>(HO.out w' hm).mono fun e w2 hh=>RecPost.no hh hr)
    have HC:=Lib.hid hr
    clear hr HO
    go_enter Tryz.func135,Tryz.ntmps135
    go_wp2_with fail
    go_region_held2 (fun w'=>w'.cell? ⟨bd,0,none⟩=some (.pointer (some ⟨D,0,none⟩))∧w'.cell? ⟨bc,0,none⟩=some (.string code)∧w'.cell? ⟨bn,0,none⟩=some (.int .i64 n)∧w'.cell? ⟨D,0,none⟩=some (.slice A na c)∧w'.cell? ⟨D,1,none⟩=some (.slice X m k)∧w'.cell? ⟨D,2,none⟩=some (.int .i64 sh)) (exact HKp.out _ (by repeat (first | exact Mor.refl _ | apply Mor.alloc | apply Mor.more | apply Mor.drewN | apply Mor.drew))) (first
      | (go_at_call 136;(with_reducible refine (HF.out _ (by repeat (first | exact Mor.refl _ | apply Mor.alloc | apply Mor.more | apply Mor.drewN | apply Mor.drew))).mono ?_);rintro e w5 ⟨rfl,bs,dk,rfl⟩)
      | (go_at_call 36;(with_reducible refine borneC (HOo.out _ (by repeat (first | exact Mor.refl _ | apply Mor.alloc | apply Mor.more | apply Mor.drewN | apply Mor.drew))) (.returned (.string (tolB []))) ?_ (fun HN=>?_));(rintro e w6 ⟨he,bs2,dk2,rfl⟩;rw [bang] at he;subst he;exact ⟨rfl,.inr ⟨HC.out,rfl⟩,(by repeat (first | exact Mor.refl _ | apply Mor.alloc | apply Mor.more | apply Mor.drewN | apply Mor.drew))⟩);go_simp))
    exact HN.out.elim
set_option maxHeartbeats 3200000 in
theorem do_profit (D:Nat) (wb:World) (bd ba bb:Nat) (f t:Int) (h0:wb.cell? ⟨bd,0,none⟩=some (.pointer (some ⟨D,0,none⟩))) (h1:wb.cell? ⟨ba,0,none⟩=some (.int .i64 f)) (h2:wb.cell? ⟨bb,0,none⟩=some (.int .i64 t)) (tb:Tb wb) :
    DoC 137 #[.pointer (some ⟨bd,0,none⟩),.pointer (some ⟨ba,0,none⟩),.pointer (some ⟨bb,0,none⟩)] D wb (fun s=>recR (profc s.b f t) [if profc s.b f t=0 then profv s.b f t else 0] s):=by
  intro w s hm hd
  have HD:=Lib.hid hd
  obtain ⟨A,na,c,X,m,k,P,p,q,hd⟩:=hd
  have g0:=cell_morD hm h0
  have g1:=cell_morD hm h1
  have g2:=cell_morD hm h2
  have d0:=hd.bk.cell 0
  have d1:=hd.bk.cell 1
  have d2:=hd.bk.cell 2
  have dl:=hd.bk.lt
  simp at d0 d1 d2
  have HF:=Lib.hid (fun w' (hm:Mor w w')=>show Calls _ _ _ w' (NV w' (if profc s.b f t=0 then profv s.b f t else 0) (profc s.b f t)) from profit_any A na c X m k s.b f t w' (hd.bq.mor hm))
  have HO:=Lib.hid (fun w' (hm':Mor w w')=>(kone_any (if profc s.b f t=0 then profv s.b f t else 0) (profc s.b f t) w' (profv_i64 _ _ _) (tb.mor (hm.trans' hm'))))
  have HTo:=Lib.hid (fun e w' (h:RecPost w ((profc s.b f t),[if profc s.b f t=0 then profv s.b f t else 0]) e w')=>RecPost.to_do HD.out h)
  generalize hsh:s.b.shut=sh at *
  have HKp:=Lib.hid (fun w' (hm':Mor w w')=>show w'.cell? ⟨bd,0,none⟩=some (.pointer (some ⟨D,0,none⟩))∧w'.cell? ⟨ba,0,none⟩=some (.int .i64 f)∧w'.cell? ⟨bb,0,none⟩=some (.int .i64 t)∧w'.cell? ⟨D,0,none⟩=some (.slice A na c)∧w'.cell? ⟨D,1,none⟩=some (.slice X m k)∧w'.cell? ⟨D,2,none⟩=some (.int .i64 sh) from ⟨cell_morD hm' g0,cell_morD hm' g1,cell_morD hm' g2,cell_morD hm' d0,cell_morD hm' d1,cell_morD hm' d2⟩)
  clear hd hm hsh h0 h1 h2 tb
  show Calls _ _ _ _ (DoPost w D s (recR (profc s.b f t) [if profc s.b f t=0 then profv s.b f t else 0] s))
  refine Calls.mono ?_ HTo.out
  clear HTo HD
  generalize (if profc s.b f t=0 then profv s.b f t else 0)=v at *
  generalize (profc s.b f t)=r at *
  by_cases hr:r=0
  · have HOo:=Lib.hid (fun w' (hm:Mor w w')=>(HO.out w' hm).mono fun e w2 hh=>RecPost.ok hh hr)
    have HC:=Lib.hid hr
    clear hr HO
    go_enter Tryz.func137,Tryz.ntmps137
    go_wp2_with fail
    go_region_held3 (fun w'=>w'.cell? ⟨bd,0,none⟩=some (.pointer (some ⟨D,0,none⟩))∧w'.cell? ⟨ba,0,none⟩=some (.int .i64 f)∧w'.cell? ⟨bb,0,none⟩=some (.int .i64 t)∧w'.cell? ⟨D,0,none⟩=some (.slice A na c)∧w'.cell? ⟨D,1,none⟩=some (.slice X m k)∧w'.cell? ⟨D,2,none⟩=some (.int .i64 sh)) (exact HKp.out _ (by repeat (first | exact Mor.refl _ | apply Mor.alloc | apply Mor.more | apply Mor.drewN | apply Mor.drew))) (first
      | (go_at_call 138;(with_reducible refine (HF.out _ (by repeat (first | exact Mor.refl _ | apply Mor.alloc | apply Mor.more | apply Mor.drewN | apply Mor.drew))).mono ?_);rintro e w5 ⟨rfl,bs,dk,rfl⟩)
      | (go_at_call 36;(with_reducible refine (HOo.out _ (by repeat (first | exact Mor.refl _ | apply Mor.alloc | apply Mor.more | apply Mor.drewN | apply Mor.drew))).mono ?_);rintro e w6 ⟨rfl,bs2,dk2,rfl⟩))
    all_goals go_wp2_with fail
    all_goals go_returns
    all_goals exact ⟨.inl ⟨HC.out,rfl⟩,(by repeat (first | exact Mor.refl _ | apply Mor.alloc | apply Mor.more | apply Mor.drewN | apply Mor.drew))⟩
  · have HOo:=Lib.hid (fun w' (hm:Mor w w')=>(HO.out w' hm).mono fun e w2 hh=>RecPost.no hh hr)
    have HC:=Lib.hid hr
    clear hr HO
    go_enter Tryz.func137,Tryz.ntmps137
    go_wp2_with fail
    go_region_held2 (fun w'=>w'.cell? ⟨bd,0,none⟩=some (.pointer (some ⟨D,0,none⟩))∧w'.cell? ⟨ba,0,none⟩=some (.int .i64 f)∧w'.cell? ⟨bb,0,none⟩=some (.int .i64 t)∧w'.cell? ⟨D,0,none⟩=some (.slice A na c)∧w'.cell? ⟨D,1,none⟩=some (.slice X m k)∧w'.cell? ⟨D,2,none⟩=some (.int .i64 sh)) (exact HKp.out _ (by repeat (first | exact Mor.refl _ | apply Mor.alloc | apply Mor.more | apply Mor.drewN | apply Mor.drew))) (first
      | (go_at_call 138;(with_reducible refine (HF.out _ (by repeat (first | exact Mor.refl _ | apply Mor.alloc | apply Mor.more | apply Mor.drewN | apply Mor.drew))).mono ?_);rintro e w5 ⟨rfl,bs,dk,rfl⟩)
      | (go_at_call 36;(with_reducible refine borneC (HOo.out _ (by repeat (first | exact Mor.refl _ | apply Mor.alloc | apply Mor.more | apply Mor.drewN | apply Mor.drew))) (.returned (.string (tolB []))) ?_ (fun HN=>?_));(rintro e w6 ⟨he,bs2,dk2,rfl⟩;rw [bang] at he;subst he;exact ⟨rfl,.inr ⟨HC.out,rfl⟩,(by repeat (first | exact Mor.refl _ | apply Mor.alloc | apply Mor.more | apply Mor.drewN | apply Mor.drew))⟩);go_simp))
    exact HN.out.elim
set_option maxHeartbeats 3200000 in
theorem do_trial (D:Nat) (wb:World) (bd bn:Nat) (n:Int) (h0:wb.cell? ⟨bd,0,none⟩=some (.pointer (some ⟨D,0,none⟩))) (h1:wb.cell? ⟨bn,0,none⟩=some (.int .i64 n)) (tb:Tb wb) :
    DoC 139 #[.pointer (some ⟨bd,0,none⟩),.pointer (some ⟨bn,0,none⟩)] D wb (fun s=>recR (lookc s.b n) [if lookc s.b n=0 then posS s.b n else 0,if lookc s.b n=0 then negS s.b n else 0] s):=by
  intro w s hm hd
  have HD:=Lib.hid hd
  obtain ⟨A,na,c,X,m,k,P,p,q,hd⟩:=hd
  have g0:=cell_morD hm h0
  have g1:=cell_morD hm h1
  have d0:=hd.bk.cell 0
  have d1:=hd.bk.cell 1
  have d2:=hd.bk.cell 2
  have dl:=hd.bk.lt
  simp at d0 d1 d2
  have HF:=Lib.hid (fun w' (hm:Mor w w')=>trial_any A na c X m k s.b n w' (hd.bq.mor hm))
  have hI:=pos_i64 s.b n
  have HTb:=Lib.hid (fun w' (hm':Mor w w')=>tb.mor (hm.trans' hm'))
  have HTo:=Lib.hid (fun e w' (h:RecPost w ((lookc s.b n),[if lookc s.b n=0 then posS s.b n else 0,if lookc s.b n=0 then negS s.b n else 0]) e w')=>RecPost.to_do HD.out h)
  generalize hsh:s.b.shut=sh at *
  have HKp:=Lib.hid (fun w' (hm':Mor w w')=>show w'.cell? ⟨bd,0,none⟩=some (.pointer (some ⟨D,0,none⟩))∧w'.cell? ⟨bn,0,none⟩=some (.int .i64 n)∧w'.cell? ⟨D,0,none⟩=some (.slice A na c)∧w'.cell? ⟨D,1,none⟩=some (.slice X m k)∧w'.cell? ⟨D,2,none⟩=some (.int .i64 sh) from ⟨cell_morD hm' g0,cell_morD hm' g1,cell_morD hm' d0,cell_morD hm' d1,cell_morD hm' d2⟩)
  clear hd hm hsh h0 h1 tb
  show Calls _ _ _ _ (DoPost w D s (recR (lookc s.b n) [if lookc s.b n=0 then posS s.b n else 0,if lookc s.b n=0 then negS s.b n else 0] s))
  refine Calls.mono ?_ HTo.out
  clear HTo HD
  generalize (if lookc s.b n=0 then posS s.b n else 0)=v at *
  generalize (if lookc s.b n=0 then negS s.b n else 0)=u at *
  generalize (lookc s.b n)=r at *
  have HT:=Lib.hid (fun w' b (hb:w'.heap.size=b) (hm:Mor w w')=>show Calls Tryz.prog 58 #[.slice (some ⟨b,0,none⟩) 2 2] (w'.alloc (.cells #[.int .i64 v,.int .i64 u] 3)) _ from told_any (some ⟨b,0,none⟩) 2 2 [v,u] (w'.alloc (.cells #[.int .i64 v,.int .i64 u] 3)) (by subst hb;exact Ri.of_row ((Blk.new w' 3 (ic [v,u])).row)) rfl (by omega) (by omega) (by intro q hq;simp at hq;rcases hq with rfl | rfl <;> first | exact hI.1 | exact hI.2) (HTb.out _ (hm.trans' (mor_new _ _))))
  clear hI HTb
  by_cases hr:r=0
  · subst hr
    have HM:=Lib.hid (fun w=>must_ok w)
    go_enter Tryz.func139,Tryz.ntmps139
    go_wp2_with fail
    go_region_held3 (fun w'=>w'.cell? ⟨bd,0,none⟩=some (.pointer (some ⟨D,0,none⟩))∧w'.cell? ⟨bn,0,none⟩=some (.int .i64 n)∧w'.cell? ⟨D,0,none⟩=some (.slice A na c)∧w'.cell? ⟨D,1,none⟩=some (.slice X m k)∧w'.cell? ⟨D,2,none⟩=some (.int .i64 sh)) (exact HKp.out _ (by repeat (first | exact Mor.refl _ | apply Mor.alloc | apply Mor.more | apply Mor.drewN | apply Mor.drew))) (first
      | (go_at_call 140;(with_reducible refine (HF.out _ (by repeat (first | exact Mor.refl _ | apply Mor.alloc | apply Mor.more | apply Mor.drewN | apply Mor.drew))).mono ?_);rintro e w5 ⟨rfl,bs,dk,rfl⟩))
    all_goals go_wp2_with (first | (go_at_call 57;(with_reducible refine (HM.out _).mono ?_);rintro e w1 ⟨rfl,rfl⟩))
    all_goals refine (HT.out _ _ (by simp) (by repeat (first | exact Mor.refl _ | apply Mor.alloc | apply Mor.more | apply Mor.drewN | apply Mor.drew))).mono ?_
    all_goals rintro e w2 ⟨rfl,bs2,dk2,rfl⟩
    all_goals go_wp2_with fail
    all_goals go_returns
    all_goals exact ⟨.inl ⟨rfl,rfl⟩,(by repeat (first | exact Mor.refl _ | apply Mor.alloc | apply Mor.more | apply Mor.drewN | apply Mor.drew))⟩
  · have HM:=Lib.hid (fun w=>must_no r w hr)
    have HC:=Lib.hid hr
    clear hr
    go_enter Tryz.func139,Tryz.ntmps139
    go_wp2_with fail
    go_region_held3 (fun w'=>w'.cell? ⟨bd,0,none⟩=some (.pointer (some ⟨D,0,none⟩))∧w'.cell? ⟨bn,0,none⟩=some (.int .i64 n)∧w'.cell? ⟨D,0,none⟩=some (.slice A na c)∧w'.cell? ⟨D,1,none⟩=some (.slice X m k)∧w'.cell? ⟨D,2,none⟩=some (.int .i64 sh)) (exact HKp.out _ (by repeat (first | exact Mor.refl _ | apply Mor.alloc | apply Mor.more | apply Mor.drewN | apply Mor.drew))) (first
      | (go_at_call 140;(with_reducible refine (HF.out _ (by repeat (first | exact Mor.refl _ | apply Mor.alloc | apply Mor.more | apply Mor.drewN | apply Mor.drew))).mono ?_);rintro e w5 ⟨rfl,bs,dk,rfl⟩))
    all_goals go_wp2_with (first | (go_at_call 57;(with_reducible refine (HM.out _).mono ?_);rintro e w1 ⟨he,rfl⟩;rw [bang] at he;subst he))
    all_goals exact ⟨rfl,.inr ⟨HC.out,rfl⟩,(by repeat (first | exact Mor.refl _ | apply Mor.alloc | apply Mor.more | apply Mor.drewN | apply Mor.drew))⟩
set_option maxHeartbeats 3200000 in
theorem do_sheet (D:Nat) (wb:World) (bd bn:Nat) (n:Int) (h0:wb.cell? ⟨bd,0,none⟩=some (.pointer (some ⟨D,0,none⟩))) (h1:wb.cell? ⟨bn,0,none⟩=some (.int .i64 n)) (tb:Tb wb) :
    DoC 141 #[.pointer (some ⟨bd,0,none⟩),.pointer (some ⟨bn,0,none⟩)] D wb (fun s=>recR (lookc s.b n) [if lookc s.b n=0 then kS s.b.en 0 n 0 s.b.ac else 0,if lookc s.b n=0 then -kS s.b.en 0 n 1 s.b.ac else 0,if lookc s.b n=0 then -kS s.b.en 0 n 2 s.b.ac else 0] s):=by
  intro w s hm hd
  have HD:=Lib.hid hd
  obtain ⟨A,na,c,X,m,k,P,p,q,hd⟩:=hd
  have g0:=cell_morD hm h0
  have g1:=cell_morD hm h1
  have d0:=hd.bk.cell 0
  have d1:=hd.bk.cell 1
  have d2:=hd.bk.cell 2
  have dl:=hd.bk.lt
  simp at d0 d1 d2
  have HF:=Lib.hid (fun w' (hm:Mor w w')=>sheet_any A na c X m k s.b n w' (hd.bq.mor hm))
  have hI:=sheet_i64 s.b n
  have HTb:=Lib.hid (fun w' (hm':Mor w w')=>tb.mor (hm.trans' hm'))
  have HTo:=Lib.hid (fun e w' (h:RecPost w ((lookc s.b n),[if lookc s.b n=0 then kS s.b.en 0 n 0 s.b.ac else 0,if lookc s.b n=0 then -kS s.b.en 0 n 1 s.b.ac else 0,if lookc s.b n=0 then -kS s.b.en 0 n 2 s.b.ac else 0]) e w')=>RecPost.to_do HD.out h)
  generalize hsh:s.b.shut=sh at *
  have HKp:=Lib.hid (fun w' (hm':Mor w w')=>show w'.cell? ⟨bd,0,none⟩=some (.pointer (some ⟨D,0,none⟩))∧w'.cell? ⟨bn,0,none⟩=some (.int .i64 n)∧w'.cell? ⟨D,0,none⟩=some (.slice A na c)∧w'.cell? ⟨D,1,none⟩=some (.slice X m k)∧w'.cell? ⟨D,2,none⟩=some (.int .i64 sh) from ⟨cell_morD hm' g0,cell_morD hm' g1,cell_morD hm' d0,cell_morD hm' d1,cell_morD hm' d2⟩)
  clear hd hm hsh h0 h1 tb
  show Calls _ _ _ _ (DoPost w D s (recR (lookc s.b n) [if lookc s.b n=0 then kS s.b.en 0 n 0 s.b.ac else 0,if lookc s.b n=0 then -kS s.b.en 0 n 1 s.b.ac else 0,if lookc s.b n=0 then -kS s.b.en 0 n 2 s.b.ac else 0] s))
  refine Calls.mono ?_ HTo.out
  clear HTo HD
  generalize (if lookc s.b n=0 then kS s.b.en 0 n 0 s.b.ac else 0)=v at *
  generalize (if lookc s.b n=0 then -kS s.b.en 0 n 1 s.b.ac else 0)=u at *
  generalize (if lookc s.b n=0 then -kS s.b.en 0 n 2 s.b.ac else 0)=z at *
  generalize (lookc s.b n)=r at *
  have HT:=Lib.hid (fun w' b (hb:w'.heap.size=b) (hm:Mor w w')=>show Calls Tryz.prog 58 #[.slice (some ⟨b,0,none⟩) 3 3] (w'.alloc (.cells #[.int .i64 v,.int .i64 u,.int .i64 z] 3)) _ from told_any (some ⟨b,0,none⟩) 3 3 [v,u,z] (w'.alloc (.cells #[.int .i64 v,.int .i64 u,.int .i64 z] 3)) (by subst hb;exact Ri.of_row ((Blk.new w' 3 (ic [v,u,z])).row)) rfl (by omega) (by omega) (by intro q hq;simp at hq;rcases hq with rfl | rfl | rfl <;> first | exact hI.1 | exact hI.2.1 | exact hI.2.2) (HTb.out _ (hm.trans' (mor_new _ _))))
  clear hI HTb
  by_cases hr:r=0
  · subst hr
    have HM:=Lib.hid (fun w=>must_ok w)
    go_enter Tryz.func141,Tryz.ntmps141
    go_wp2_with fail
    go_region_held3 (fun w'=>w'.cell? ⟨bd,0,none⟩=some (.pointer (some ⟨D,0,none⟩))∧w'.cell? ⟨bn,0,none⟩=some (.int .i64 n)∧w'.cell? ⟨D,0,none⟩=some (.slice A na c)∧w'.cell? ⟨D,1,none⟩=some (.slice X m k)∧w'.cell? ⟨D,2,none⟩=some (.int .i64 sh)) (exact HKp.out _ (by repeat (first | exact Mor.refl _ | apply Mor.alloc | apply Mor.more | apply Mor.drewN | apply Mor.drew))) (first
      | (go_at_call 142;(with_reducible refine (HF.out _ (by repeat (first | exact Mor.refl _ | apply Mor.alloc | apply Mor.more | apply Mor.drewN | apply Mor.drew))).mono ?_);rintro e w5 ⟨rfl,bs,dk,rfl⟩))
    all_goals go_wp2_with (first | (go_at_call 57;(with_reducible refine (HM.out _).mono ?_);rintro e w1 ⟨rfl,rfl⟩))
    all_goals refine (HT.out _ _ (by simp) (by repeat (first | exact Mor.refl _ | apply Mor.alloc | apply Mor.more | apply Mor.drewN | apply Mor.drew))).mono ?_
    all_goals rintro e w2 ⟨rfl,bs2,dk2,rfl⟩
    all_goals go_wp2_with fail
    all_goals go_returns
    all_goals exact ⟨.inl ⟨rfl,rfl⟩,(by repeat (first | exact Mor.refl _ | apply Mor.alloc | apply Mor.more | apply Mor.drewN | apply Mor.drew))⟩
  · have HM:=Lib.hid (fun w=>must_no r w hr)
    have HC:=Lib.hid hr
    clear hr
    go_enter Tryz.func141,Tryz.ntmps141
    go_wp2_with fail
    go_region_held3 (fun w'=>w'.cell? ⟨bd,0,none⟩=some (.pointer (some ⟨D,0,none⟩))∧w'.cell? ⟨bn,0,none⟩=some (.int .i64 n)∧w'.cell? ⟨D,0,none⟩=some (.slice A na c)∧w'.cell? ⟨D,1,none⟩=some (.slice X m k)∧w'.cell? ⟨D,2,none⟩=some (.int .i64 sh)) (exact HKp.out _ (by repeat (first | exact Mor.refl _ | apply Mor.alloc | apply Mor.more | apply Mor.drewN | apply Mor.drew))) (first
      | (go_at_call 142;(with_reducible refine (HF.out _ (by repeat (first | exact Mor.refl _ | apply Mor.alloc | apply Mor.more | apply Mor.drewN | apply Mor.drew))).mono ?_);rintro e w5 ⟨rfl,bs,dk,rfl⟩))
    all_goals go_wp2_with (first | (go_at_call 57;(with_reducible refine (HM.out _).mono ?_);rintro e w1 ⟨he,rfl⟩;rw [bang] at he;subst he))
    all_goals exact ⟨rfl,.inr ⟨HC.out,rfl⟩,(by repeat (first | exact Mor.refl _ | apply Mor.alloc | apply Mor.more | apply Mor.drewN | apply Mor.drew))⟩
end Go.Proofs.YtdhbkifpodekcaaGreatDoor
namespace Go.Proofs.YtdhbkifpodekcaaGreatDoor
open Go Go.ChangeShapes Go.WideShapes Go.ChangeAt Go.RowKit Go.PlainAid
set_option linter.unusedVariables false
set_option maxRecDepth 100000
def keysT (es:List En):List UInt8:=[111,107]++es.flatMap fun e=>32 :: ub e.key
def keysB (es:List En):ByteArray:=⟨(keysT es).toArray⟩
theorem keysB_ub (es:List En):ub (keysB es)=keysT es:=by simp [keysB,ub]
theorem keysT_snoc (es:List En) (x:En):keysT (es++[x])=keysT es++32 :: ub x.key:=by simp [keysT]
theorem keysB_take (es:List En) (i:Nat) (h:i < es.length):keysB (es.take i)++({ data:=#[32] }++(ne es i).key)=keysB (es.take (i+1)):=by
  apply ub_inj
  rw [List.take_succ_eq_append_getElem h,ub_app,ub_app,keysB_ub,keysB_ub,ne_eq _ _ h,keysT_snoc]
  rfl
theorem keysT_len {es:List En} (h:∀ x∈es,keyB x.key=true):(keysT es).length≤2+13*es.length:=by
  have:(es.flatMap fun e=>(32:UInt8) :: ub e.key).length≤13*es.length:=by
    induction es with
    | nil=>simp
    | cons x es ih =>
      have h1:=keyB_size (h x (List.mem_cons_self ..))
      have h2:=ih fun y hy=>h y (List.mem_cons_of_mem _ hy)
      rw [List.flatMap_cons,List.length_append,List.length_cons,List.length_cons,ub_len]
      omega
  unfold keysT
  rw [List.length_append]
  simp only [List.length_cons,List.length_nil]
  omega
set_option maxHeartbeats 3200000 in
theorem do_keys (D:Nat) (wb:World) (bd:Nat) (h0:wb.cell? ⟨bd,0,none⟩=some (.pointer (some ⟨D,0,none⟩))) :
    DoC 143 #[.pointer (some ⟨bd,0,none⟩)] D wb (fun s=>⟨0,keysB s.b.en,s⟩):=by
  intro w s hm hd
  have HD:=Lib.hid hd
  obtain ⟨A,na,c,X,m,k,P,p,q,hd⟩:=hd
  have g0:=cell_morD hm h0
  have d1:=hd.bk.cell 1
  have dl:=hd.bk.lt
  simp at d1
  have HE:=Lib.hid (fun w' (h:Mor w w')=>hd.bq.es.mor h)
  have HEl:=Lib.hid hd.bq.length
  have hmk:=hd.bq.le
  have hm60:m≤60:=by rw [← hd.bq.length];exact hd.kst.few
  have HZ:=Lib.hid (fun i (hi:i≤m)=>show (keysB (s.b.en.take i)).size≤1000 from by
    rw [← ub_len,keysB_ub]
    have:=keysT_len (es:=s.b.en.take i) (fun x hx=>hd.kst.keys x (List.mem_of_mem_take hx))
    have h2:(s.b.en.take i).length≤60:=by rw [List.length_take];omega
    omega)
  have HK:=Lib.hid (fun i (hi:i < s.b.en.length)=>show (ne s.b.en i).key.size≤12 from keyB_size (hd.kst.keys _ (by rw [ne_eq _ _ hi];exact List.getElem_mem hi)))
  have HF:=Lib.hid (show s.b.en.take m=s.b.en by rw [← hd.bq.length];exact List.take_length)
  have HDo:=Lib.hid (fun w' (h:Mor w w')=>show DoPost w D s ⟨0,keysB s.b.en,s⟩ (.returned (.string (keysB s.b.en))) w' from ⟨.inl ⟨rfl,rfl,HD.out.mor h⟩,On.of_mor h⟩)
  clear hd hm h0
  show Calls _ _ _ _ (DoPost w D s ⟨0,keysB s.b.en,s⟩)
  go_enter Tryz.func143,Tryz.ntmps143
  go_wp2_with fail
  go_loopw [2,11] (fun v i wr=>∃ j:Nat,j≤m∧i=.int .i64 j∧v=.string (keysB (s.b.en.take j))∧Hid (Mor w wr)) (fun _ i _=>m - (intOf i).toNat)
  case atStart=>exact ⟨0,Nat.zero_le _,rfl,by rw [List.take_zero];rfl,Lib.hid (Mor.refl _)⟩
  case round =>
    obtain ⟨j,hj,rfl,rfl,HM⟩:=hrel
    by_cases hlt:j < m
    · have hji:(j:Int) < (m:Int):=by omega
      have hj0:(0:Int)≤(j:Int):=by omega
      have hjk:(j:Int) < (k:Int):=by omega
      have hjl:j < s.b.en.length:=by rw [HEl.out];exact hlt
      obtain ⟨x,A2,n2,c2',hX,hxb,hks,e0,e1,e2,hlq⟩:=(HE.out _ HM.out).at_ j hjl
      subst hX
      have HTk:=Lib.hid (keysB_take s.b.en j hjl)
      have z1:=HZ.out j hj
      have z2:=HK.out j hjl
      generalize keysB (s.b.en.take j)=ts at *
      generalize (ne s.b.en j).key=ky at *
      generalize (ne s.b.en j).day=dy at *
      have s1:1+ky.size≤9223372036854775807:=by omega
      have s2:ts.size+(1+ky.size)≤9223372036854775807:=by omega
      clear hlq
      go_wp2_with fail
      go_roundw
      case rel=>exact ⟨j+1,by omega,by go_num,by rw [HTk.out],Lib.hid (HM.out.trans' (by repeat (first | exact Mor.refl _ | apply Mor.alloc | apply Mor.more | apply Mor.drew)))⟩
      case measure=>simp [intOf];omega
    · obtain rfl:j=m:=by omega
      rw [HF.out]
      go_wp2_with fail
      go_returns
      exact HDo.out _ HM.out
theorem info_planD:(Tryz.prog.info? 120).map (fun i=>(i.zero,i.size,i.bytes))=some (some (.agg #[.string { data:=#[] },.int .i64 0,.int .i64 0,.int .i64 0,.int .i64 0,.string { data:=#[] },.string { data:=#[] }]),7,80):=by kernel_rfl
@[go_sem] theorem eql_nil_plD (w : World) (a : Option Addr) (n c : Nat) : (binOp .eql 38 (.slice a n c) (.slice none 0 0)).run Tryz.prog w = .ok (.bool a.isNone) w :=
  Lib.run_eql_slice_nil w _ 120 a n c 0 0 Tryz.underlying38
set_option maxHeartbeats 1600000 in
theorem clone_pl (B:Nat) (A:Option Addr) (n cap:Nat) (ps:List Pln) (w:World) (hr:w.ownsRow B 120 7 (.slice A n cap) n (flat pl7 ps)) (hn:ps.length=n) (hl:n≤1000) :
    Calls Tryz.prog 80 #[.slice A n cap] w fun e w'=>∃ v,e=.returned v∧w'.ownsRow w.heap.size 120 7 v n (flat pl7 ps)∧Mor w w':=by
  obtain ⟨i0,hi,hz0,hz1,hz2⟩:=info_parts info_planD
  cases A with
  | none =>
    have h0:n=0:=by
      obtain ⟨_,hh | ⟨g,cap',cur,e,_⟩⟩:=hr
      · injection hh.1
      · injection e with e;cases e
    subst h0
    have hx:ps=[]:=List.eq_nil_of_length_eq_zero hn
    subst hx
    clear hr hn
    go_enter Tryz.func80,Tryz.ntmps80
    go_wp2_with fail
    go_ret
    exact ⟨.slice none 0 0,rfl,World.ownsRow_nil _ _ _ _,Mor.refl _⟩
  | some x =>
    have HC:=Lib.hid (fun (W:World) (hW:Mor w W) j u (hu:(flat pl7 ps)[j]?=some u)=>show W.cell? (x.add j)=some u from rd_atS (Rd.own (own_mor hr hW)) j u hu)
    have HL:=Lib.hid (show (flat pl7 ps).length=n*7 by rw [flat_len pl7 7 pl7_len,hn])
    clear hr hn
    go_enter Tryz.func80,Tryz.ntmps80
    go_wp2_with (at_builtin;refine wpList_append_own _ rfl _ _ 38 rfl w.heap.size 120 i0 (.agg #[.string { data:=#[] },.int .i64 0,.int .i64 0,.int .i64 0,.int .i64 0,.string { data:=#[] },.string { data:=#[] }]) 7 80 Tryz.underlying38 hi hz0 hz1 hz2 rfl (by decide) _ 0 [] rfl ⟨by simp,.inr ⟨w.heap.size,0,#[],rfl,Nat.le_refl _,heap_alloc_new w _,Nat.le_refl _,by unfold maxLen;omega,rfl,rfl⟩⟩ x n cap (flat pl7 ps) rfl HL.out ?_ ?_ ?_ ?_ ?_ ?_)
    case refine_6 =>
      intro v' w1 hown hgrow _
      have HO:=Lib.hid hown
      have HB:Hid (Below w.heap.size w w1):=Lib.hid (((Below.refl _ _).alloc (Nat.le_refl _) _).grown hgrow (by simp) (by intro k hk;simp [Value.ownBlock] at hk;omega))
      clear hown hgrow
      go_wp2
      go_ret
      exact ⟨v',rfl,by simpa using HO.out,Mor.of_below HB.out⟩
    all_goals try (first | (exact fun j u hu=>HC.out _ ((Mor.refl _).alloc) j u hu) | (exact pl7_one ps) | (unfold maxLen;omega) | omega | simp)
open Classical in
noncomputable def planR (s:St) (p:Pln):Do:=if plc (s.ps++[p])=0 then ⟨0,okB,⟨s.b,s.ps++[p]⟩⟩ else ⟨plc (s.ps++[p]),okB,s⟩
theorem plc_len {ps:List Pln} (h:plc ps=0):ps.length≤12:=by
  unfold plc at h;split at h <;> omega
set_option maxHeartbeats 3200000 in
theorem do_plan (D:Nat) (wb:World) (bd bp:Nat) (x:Pln) (hx:Pwf x) (h0:wb.cell? ⟨bd,0,none⟩=some (.pointer (some ⟨D,0,none⟩)))
    (h1:wb.cell? ⟨bp,0,none⟩=some (.string x.key)) (h2:wb.cell? ⟨bp,1,none⟩=some (.int .i64 x.kind)) (h3:wb.cell? ⟨bp,2,none⟩=some (.int .i64 x.frm)) (h4:wb.cell? ⟨bp,3,none⟩=some (.int .i64 x.amt)) (h5:wb.cell? ⟨bp,4,none⟩=some (.int .i64 x.num)) (h6:wb.cell? ⟨bp,5,none⟩=some (.string x.deb)) (h7:wb.cell? ⟨bp,6,none⟩=some (.string x.cre)) (h0D:bd≠D) (tab:Tab wb) :
    DoC 79 #[.pointer (some ⟨bd,0,none⟩),.pointer (some ⟨bp,0,none⟩)] D wb (fun s=>planR s x):=by
  intro w s hm hd
  obtain ⟨i0,hi0,hz0,hz1,hz2⟩:=info_parts info_planD
  obtain ⟨A,na,c,X,m,k,P,p,q,hd⟩:=hd
  have HD:=Lib.hid hd
  have HG:=Lib.hid (fun w' (h:Mor w w')=>And.intro (cell_morD h (cell_morD hm h0)) (And.intro (cell_morD h (cell_morD hm h1)) (And.intro (cell_morD h (cell_morD hm h2)) (And.intro (cell_morD h (cell_morD hm h3)) (And.intro (cell_morD h (cell_morD hm h4)) (And.intro (cell_morD h (cell_morD hm h5)) (And.intro (cell_morD h (cell_morD hm h6)) (cell_morD h (cell_morD hm h7)))))))))
  have HTab:=Lib.hid (fun w' (h:Mor w w')=>tab.mor (hm.trans' h))
  have g0:=cell_morD hm h0
  have d3:=hd.bk.cell 3
  have dl:=hd.bk.lt
  simp at d3
  have hp12:p≤12:=by rw [← hd.pl];exact hd.kst.ps
  have HC:=Lib.hid (fun w' (hm:Mor w w')=>clone_pl (D+1) P p q s.ps w' (own_mor hd.op hm) hd.pl (by omega))
  clear hd hm h0 h1 h2 h3 h4 h5 h6 h7 tab
  show Calls _ _ _ _ (DoPost w D s (planR s x))
  go_enter Tryz.func79,Tryz.ntmps79
  go_wp2_with fail
  go_cut [3] (fun s3 wx=>∃ A7 c7,s3=.slice A7 (p+1) c7∧Hid (wx.ownsRow w.heap.size 120 7 (.slice A7 (p+1) c7) (p+1) (flat pl7 (s.ps++[x]))∧Mor w wx))
  case first =>
    have HKp:=Lib.hid (fun w' (hm':Mor w w')=>show w'.cell? ⟨bd,0,none⟩=some (.pointer (some ⟨D,0,none⟩))∧w'.cell? ⟨bp,0,none⟩=some (.string x.key)∧w'.cell? ⟨bp,1,none⟩=some (.int .i64 x.kind)∧w'.cell? ⟨bp,2,none⟩=some (.int .i64 x.frm)∧w'.cell? ⟨bp,3,none⟩=some (.int .i64 x.amt)∧w'.cell? ⟨bp,4,none⟩=some (.int .i64 x.num)∧w'.cell? ⟨bp,5,none⟩=some (.string x.deb)∧w'.cell? ⟨bp,6,none⟩=some (.string x.cre)∧w'.cell? ⟨D,3,none⟩=some (.slice P p q) from ⟨(HG.out w' hm').1,(HG.out w' hm').2.1,(HG.out w' hm').2.2.1,(HG.out w' hm').2.2.2.1,(HG.out w' hm').2.2.2.2.1,(HG.out w' hm').2.2.2.2.2.1,(HG.out w' hm').2.2.2.2.2.2.1,(HG.out w' hm').2.2.2.2.2.2.2,cell_morD hm' d3⟩)
    refine wp_region_held_drew (S:=fun w'=>w'.cell? ⟨bd,0,none⟩=some (.pointer (some ⟨D,0,none⟩))∧w'.cell? ⟨bp,0,none⟩=some (.string x.key)∧w'.cell? ⟨bp,1,none⟩=some (.int .i64 x.kind)∧w'.cell? ⟨bp,2,none⟩=some (.int .i64 x.frm)∧w'.cell? ⟨bp,3,none⟩=some (.int .i64 x.amt)∧w'.cell? ⟨bp,4,none⟩=some (.int .i64 x.num)∧w'.cell? ⟨bp,5,none⟩=some (.string x.deb)∧w'.cell? ⟨bp,6,none⟩=some (.string x.cre)∧w'.cell? ⟨D,3,none⟩=some (.slice P p q)) (by kernel_rfl) ?_ (fun hHeld=>?_)
    · exact HKp.out _ (by repeat (first | exact Mor.refl _ | apply Mor.alloc | apply Mor.more | apply Mor.drewN | apply Mor.drew))
    refine wpAnyH_take (i:=0) (v:=?_) rfl (by kernel_rfl) (by kernel_rfl) (by kernel_rfl) (fun _ _ _ h=>h) (Or.inl ⟨by rfl,?_⟩) (by assumption) ?_
    rotate_left
    · (intro w hSw;(try dsimp only at hSw);go_simp;try with_reducible rfl)
    dsimp [Act.put]
    simp only [List.setIfInBounds_toArray,List.set_cons_zero,List.set_cons_succ]
    refine wpAnyH_take (i:=1) (v:=?_) rfl (by kernel_rfl) (by kernel_rfl) (by kernel_rfl) (fun _ _ _ h=>h) (Or.inl ⟨by rfl,?_⟩) (by assumption) ?_
    rotate_left
    · (intro w hSw;(try dsimp only at hSw);go_simp;try with_reducible rfl)
    dsimp [Act.put]
    simp only [List.setIfInBounds_toArray,List.set_cons_zero,List.set_cons_succ]
    refine wpAnyH_take (i:=2) (v:=?_) rfl (by kernel_rfl) (by kernel_rfl) (by kernel_rfl) (fun _ _ _ h=>h) (Or.inl ⟨by rfl,?_⟩) (by assumption) ?_
    rotate_left
    · (intro w hSw;(try dsimp only at hSw);go_simp;try with_reducible rfl)
    dsimp [Act.put]
    simp only [List.setIfInBounds_toArray,List.set_cons_zero,List.set_cons_succ]
    refine wpAnyH_take (i:=3) (v:=?_) rfl (by kernel_rfl) (by kernel_rfl) (by kernel_rfl) (fun _ _ _ h=>h) (Or.inl ⟨by rfl,?_⟩) (by assumption) ?_
    rotate_left
    · (intro w hSw;(try dsimp only at hSw);go_simp;try with_reducible rfl)
    dsimp [Act.put]
    simp only [List.setIfInBounds_toArray,List.set_cons_zero,List.set_cons_succ]
    refine wpAnyH_take (i:=5) (v:=?_) rfl (by kernel_rfl) (by kernel_rfl) (by kernel_rfl) (fun _ _ _ h=>h) (Or.inl ⟨by rfl,?_⟩) (by assumption) ?_
    rotate_left
    · (intro w hSw;(try dsimp only at hSw);go_simp;try with_reducible rfl)
    dsimp [Act.put]
    simp only [List.setIfInBounds_toArray,List.set_cons_zero,List.set_cons_succ]
    refine wpAnyH_ready (rs:=[4,6]) (by kernel_rfl) (by simp) ?_
    refine AllReadyH.cons rfl (fun K hK=>?_) ?_
    · go_simp
      refine (HC.out _ (by repeat (first | exact Mor.refl _ | apply Mor.alloc | apply Mor.more | apply Mor.drewN | apply Mor.drew))).mono ?_
      rintro e w5 ⟨v5,rfl,ho5,hm5⟩
      have HM5:=Lib.hid (show Mor w w5 from Mor.trans' (by repeat (first | exact Mor.refl _ | apply Mor.alloc | apply Mor.more | apply Mor.drewN | apply Mor.drew)) hm5)
      have HO5:=Lib.hid (show w5.ownsRow w.heap.size 120 7 v5 p (flat pl7 s.ps) from ho5)
      clear ho5 hm5
      go_simp
      refine hK.out _ _ ?_ (fun hHeld=>?_)
      · exact HKp.out _ HM5.out
      clear hK K
      try dsimp [Act.put]
      try simp only [List.setIfInBounds_toArray,List.set_cons_zero,List.set_cons_succ]
      refine wpAnyH_ready (rs:=[6]) (by kernel_rfl) (by simp) ?_
      refine AllReadyH.cons rfl (fun K hK=>?_) ?_
      · go_simp
        refine hK.out _ _ ?_ (fun hHeld=>?_)
        · exact HKp.out _ HM5.out.alloc
        clear hK K
        try dsimp [Act.put]
        try simp only [List.setIfInBounds_toArray,List.set_cons_zero,List.set_cons_succ]
        refine wpAnyH_ready (rs:=[7]) (by kernel_rfl) (by simp) ?_
        refine AllReadyH.cons rfl (fun K hK=>?_) ?_
        · refine step_append_own rfl (.tmp 8) (.tmp 10) 38 rfl w.heap.size 120 i0 (.agg #[.string { data:=#[] },.int .i64 0,.int .i64 0,.int .i64 0,.int .i64 0,.string { data:=#[] },.string { data:=#[] }]) 7 80 Tryz.underlying38 hi0 hz0 hz1 hz2 rfl (by decide) _ p (flat pl7 s.ps) (by simp [Act.eval]) (own_mor HO5.out (mor_new _ _)) ⟨w5.heap.size,0,none⟩ 1 1 (pl7 x) (by simp [Act.eval]) rfl (lit_at _ _ _ rfl rfl) (fun u hu=>pl7_one [x] u (by simpa [flat] using hu)) (by unfold maxLen;omega) (by omega) (HM5.out.alloc).below.size ?_
          intro u7 w7 hown7 hgrow7
          obtain ⟨A7,c7,rfl,_,_,_⟩:=own_shape hown7
          have HX7:=Lib.hid (And.intro (show w7.ownsRow w.heap.size 120 7 (.slice A7 (p+1) c7) (p+1) (flat pl7 (s.ps++[x])) by rw [flat_snoc];exact hown7) (own_step (own_mor HO5.out (mor_new _ _)) HM5.out.alloc hgrow7))
          clear hown7 hgrow7
          go_simp
          refine hK.out _ _ ?_ (fun hHeld=>?_)
          · exact HKp.out _ HX7.out.2
          clear hK K
          try dsimp [Act.put]
          try simp only [List.setIfInBounds_toArray,List.set_cons_zero,List.set_cons_succ]
          refine wpAnyH_ready (rs:=[8]) (by kernel_rfl) (by simp) ?_
          refine AllReadyH.cons rfl (fun K hK=>?_) ?_
          · go_simp
            refine hK.out _ _ ?_ (fun hHeld=>?_)
            · exact HKp.out _ HX7.out.2
            clear hK K
            try dsimp [Act.put]
            try simp only [List.setIfInBounds_toArray,List.set_cons_zero,List.set_cons_succ]
            refine wpAnyH_done (by kernel_rfl) ?_ _
            go_wp2_with fail
            go_meet
            exact ⟨A7,c7,rfl,HX7⟩
          exact AllReadyH.nil
        exact AllReadyH.nil
      exact AllReadyH.nil
    refine AllReadyH.cons rfl (fun K hK=>?_) ?_
    · go_simp
      have HL6:=Lib.hid (show ∀ (j:Nat) (u:Value),(pl7 x)[j]?=some u→(w.alloc (.cells #[.string x.key,.int .i64 x.kind,.int .i64 x.frm,.int .i64 x.amt,.int .i64 x.num,.string x.deb,.string x.cre] 120)).cell? ((⟨w.heap.size,0,none⟩:Addr).add j)=some u from lit_at _ _ _ rfl rfl)
      refine hK.out _ _ ?_ (fun hHeld=>?_)
      · exact HKp.out _ (by repeat (first | exact Mor.refl _ | apply Mor.alloc | apply Mor.more | apply Mor.drewN | apply Mor.drew))
      clear hK K
      try dsimp [Act.put]
      try simp only [List.setIfInBounds_toArray,List.set_cons_zero,List.set_cons_succ]
      refine wpAnyH_ready (rs:=[4]) (by kernel_rfl) (by simp) ?_
      refine AllReadyH.cons rfl (fun K hK=>?_) ?_
      · go_simp
        refine (HC.out _ (by repeat (first | exact Mor.refl _ | apply Mor.alloc | apply Mor.more | apply Mor.drewN | apply Mor.drew))).mono ?_
        rintro e w5 ⟨v5,rfl,ho5,hm5⟩
        have HM5:=Lib.hid (show Mor w w5 from Mor.trans' (by repeat (first | exact Mor.refl _ | apply Mor.alloc | apply Mor.more | apply Mor.drewN | apply Mor.drew)) hm5)
        have HO5:=Lib.hid (show w5.ownsRow w.heap.size 120 7 v5 p (flat pl7 s.ps) from own_base ho5 (by simp))
        have HL5:=Lib.hid (fun (j:Nat) (u:Value) (hu:(pl7 x)[j]?=some u)=>show w5.cell? ((⟨w.heap.size,0,none⟩:Addr).add j)=some u from cell_morD hm5 (HL6.out j u hu))
        clear ho5 hm5
        go_simp
        refine hK.out _ _ ?_ (fun hHeld=>?_)
        · exact HKp.out _ HM5.out
        clear hK K
        try dsimp [Act.put]
        try simp only [List.setIfInBounds_toArray,List.set_cons_zero,List.set_cons_succ]
        refine wpAnyH_ready (rs:=[7]) (by kernel_rfl) (by simp) ?_
        refine AllReadyH.cons rfl (fun K hK=>?_) ?_
        · refine step_append_own rfl (.tmp 8) (.tmp 10) 38 rfl w.heap.size 120 i0 (.agg #[.string { data:=#[] },.int .i64 0,.int .i64 0,.int .i64 0,.int .i64 0,.string { data:=#[] },.string { data:=#[] }]) 7 80 Tryz.underlying38 hi0 hz0 hz1 hz2 rfl (by decide) _ p (flat pl7 s.ps) (by simp [Act.eval]) HO5.out ⟨w.heap.size,0,none⟩ 1 1 (pl7 x) (by simp [Act.eval]) rfl (fun j u hu=>HL5.out j u hu) (fun u hu=>pl7_one [x] u (by simpa [flat] using hu)) (by unfold maxLen;omega) (by omega) (HM5.out).below.size ?_
          intro u7 w7 hown7 hgrow7
          obtain ⟨A7,c7,rfl,_,_,_⟩:=own_shape hown7
          have HX7:=Lib.hid (And.intro (show w7.ownsRow w.heap.size 120 7 (.slice A7 (p+1) c7) (p+1) (flat pl7 (s.ps++[x])) by rw [flat_snoc];exact hown7) (own_step HO5.out HM5.out hgrow7))
          clear hown7 hgrow7
          go_simp
          refine hK.out _ _ ?_ (fun hHeld=>?_)
          · exact HKp.out _ HX7.out.2
          clear hK K
          try dsimp [Act.put]
          try simp only [List.setIfInBounds_toArray,List.set_cons_zero,List.set_cons_succ]
          refine wpAnyH_ready (rs:=[8]) (by kernel_rfl) (by simp) ?_
          refine AllReadyH.cons rfl (fun K hK=>?_) ?_
          · go_simp
            refine hK.out _ _ ?_ (fun hHeld=>?_)
            · exact HKp.out _ HX7.out.2
            clear hK K
            try dsimp [Act.put]
            try simp only [List.setIfInBounds_toArray,List.set_cons_zero,List.set_cons_succ]
            refine wpAnyH_done (by kernel_rfl) ?_ _
            go_wp2_with fail
            go_meet
            exact ⟨A7,c7,rfl,HX7⟩
          exact AllReadyH.nil
        exact AllReadyH.nil
      exact AllReadyH.nil
    exact AllReadyH.nil
  case rest =>
    obtain ⟨A7,c7,rfl,HX7⟩:=hcut
    have hPw:∀ i,i < (s.ps++[x]).length→Pwf (np (s.ps++[x]) i):=fun i hi=>by
      by_cases e:i < s.ps.length
      · have e2:np (s.ps++[x]) i=np s.ps i:=by unfold np;rw [List.getD_eq_getElem?_getD,List.getD_eq_getElem?_getD,List.getElem?_append_left e]
        rw [e2];exact HD.out.kst.pwf i e
      · have e2:np (s.ps++[x]) i=x:=by
          have:i=s.ps.length:=by rw [List.length_append] at hi;simp at hi;omega
          unfold np;rw [List.getD_eq_getElem?_getD,this,List.getElem?_append_right (Nat.le_refl _),Nat.sub_self];rfl
        rw [e2];exact hx
    obtain ⟨hc7,hml7⟩:p+1≤c7∧c7≤maxLen:=by
      obtain ⟨_,hh | ⟨g,cap,cur,e,_,_,h1,h2,_,_⟩⟩:=HX7.out.1
      · injection hh.1 with _ e2 _;omega
      · injection e with _ _ e3;subst e3;exact ⟨h1,h2⟩
    have hpl:(s.ps++[x]).length=p+1:=by rw [List.length_append,HD.out.pl];rfl
    have HCk:=Lib.hid (plc_any A7 (p+1) c7 (s.ps++[x]) wc (Ps.own HX7.out.1 hPw) hpl hc7 hml7 (HTab.out _ HX7.out.2))
    have HPw:=Lib.hid hPw
    have HPl:=Lib.hid hpl
    have HR:=Lib.hid (show planR s x=if plc (s.ps++[x])=0 then ⟨0,okB,⟨s.b,s.ps++[x]⟩⟩ else ⟨plc (s.ps++[x]),okB,s⟩ from rfl)
    have HL12:=Lib.hid (fun h:plc (s.ps++[x])=0=>plc_len h)
    clear hPw hpl hml7 d3 g0
    generalize s.ps++[x]=ys at *
    generalize hrr:plc ys=r at *
    clear hrr HC
    by_cases hc0:r=0
    · subst hc0
      have HMo:=Lib.hid (fun w=>must_ok w)
      have HR':=Lib.hid (show planR s x=⟨0,okB,⟨s.b,ys⟩⟩ by rw [HR.out,if_pos rfl])
      have h12:=HL12.out rfl
      clear HR HL12
      go_wp2_with fail
      refine HCk.out.mono ?_
      rintro e w9 ⟨rfl,hm9⟩
      have HM9:=Lib.hid (HX7.out.2.trans' hm9)
      have HO9:=Lib.hid (own_mor HX7.out.1 hm9)
      have HD9:=Lib.hid (HD.out.mor HM9.out)
      have g0:=(HG.out _ HM9.out).1
      have f3:=HD9.out.bk.frozen 3
      have d3:=HD9.out.bk.cell 3
      have dl9:=HD9.out.bk.lt
      simp at d3
      clear hm9 HCk HX7
      go_wp2_with (first | (go_at_call 57;(with_reducible refine (HMo.out _).mono ?_);rintro e w1 ⟨rfl,rfl⟩))
      go_returns
      rw [HR'.out]
      have hb:=HD9.out.bk.set_ 3 (.slice A7 (p+1) c7)
      have ho:=HD9.out.ob.setD (i:=3) (u:=.slice A7 (p+1) c7) HD9.out.bk (by decide) (by decide) (by decide)
      exact ⟨.inl ⟨rfl,rfl,⟨A,na,c,X,m,k,A7,p+1,c7,⟨by simpa using hb,ho,own_setT (own_base HO9.out (by omega)) HD9.out.bk (by decide),HPl.out,⟨HD9.out.kst.keys,HD9.out.kst.few,HD9.out.kst.ac,h12,HPw.out⟩⟩⟩⟩,(On.of_mor HM9.out).setCell _⟩
    · have HMn:=Lib.hid (fun w=>must_no r w hc0)
      have HR':=Lib.hid (show planR s x=⟨r,okB,s⟩ by rw [HR.out,if_neg hc0])
      have HC0:=Lib.hid hc0
      clear HR HL12 hc0
      go_wp2_with fail
      refine HCk.out.mono ?_
      rintro e w9 ⟨rfl,hm9⟩
      have HM9:=Lib.hid (HX7.out.2.trans' hm9)
      clear hm9 HCk HX7
      go_wp2_with (first | (go_at_call 57;(with_reducible refine (HMn.out _).mono ?_);rintro e w1 ⟨he,rfl⟩;rw [bang] at he;subst he))
      rw [HR'.out]
      exact ⟨rfl,.inr ⟨HC0.out,rfl,⟨_,_,_,_,_,_,_,_,_,HD.out.mor HM9.out⟩⟩,On.of_mor HM9.out⟩
end Go.Proofs.YtdhbkifpodekcaaGreatDoor
namespace Go.Proofs.YtdhbkifpodekcaaGreatDoor
open Go Go.ChangeShapes Go.WideShapes Go.ChangeAt Go.RowKit Go.PlainAid
set_option linter.unusedVariables false
set_option maxRecDepth 100000
theorem good_tol {l:List Int} (h:LB l):Good (ub (tolB l)):=by
  rw [tolB_ub]
  refine ⟨by have:=tolT_len h.2;have:=h.1;omega,fun hc=>?_,.inl ⟨_,rfl⟩⟩
  simp only [tolT,List.mem_append,List.mem_flatMap,List.mem_cons,List.not_mem_nil,or_false] at hc
  rcases hc with (h | h) | ⟨n,_,h | h⟩
  · exact absurd h (by decide)
  · exact absurd h (by decide)
  · exact absurd h (by decide)
  · exact absurd rfl (fine_itoa n 10 h).1
theorem good_keys {s:St} (h:Kst s):Good (ub (keysB s.b.en)):=by
  rw [keysB_ub]
  refine ⟨by have:=keysT_len h.keys;have:=h.few;omega,fun hc=>?_,.inl ⟨_,rfl⟩⟩
  simp only [keysT,List.mem_append,List.mem_flatMap,List.mem_cons,List.not_mem_nil,or_false] at hc
  rcases hc with (h | h) | ⟨x,hx,h' | h'⟩
  · exact absurd h (by decide)
  · exact absurd h (by decide)
  · exact absurd h' (by decide)
  · exact absurd rfl (fine_key (h.keys x hx) 10 h').1
theorem cb0:CB 0:=by unfold CB;omega
theorem bkR_b {c:Int} {y:Bok} {s:St} (hs:Kst s) (hc:CB c) (hy:c=0→BOk y):DoB (bkR c y s):=by
  unfold bkR
  by_cases h:c=0
  · rw [if_pos h]
    have hb:=hy h
    exact ⟨cb0,fun _=>good_ok,fun _=>⟨fun x hx=>(entc_ok (hb.enc x hx)).1,hb.len,acc_len hb.ac,hs.ps,hs.pwf⟩⟩
  · rw [if_neg h]
    exact ⟨hc,fun e=>absurd e h,fun e=>absurd e h⟩
theorem recR_b {c:Int} {l:List Int} {s:St} (hs:Kst s) (hc:CB c) (hl:LB l):DoB (recR c l s):=⟨hc,fun _=>good_tol hl,fun _=>hs⟩
theorem accR_b {s:St} (hs:Kst s) (code:ByteArray) (kind:Int):DoB (accR s code kind):=by
  unfold accR
  generalize sortA (s.b.ac++[(code,kind)])=l
  by_cases h:acc l=0
  · rw [if_pos h]
    exact ⟨cb0,fun _=>good_ok,fun _=>⟨hs.keys,hs.few,acc_len h,hs.ps,hs.pwf⟩⟩
  · rw [if_neg h]
    exact ⟨acc_cb _,fun e=>absurd e h,fun e=>absurd e h⟩
theorem planR_b {s:St} (hs:Kst s) {x:Pln} (hx:Pwf x):DoB (planR s x):=by
  unfold planR
  by_cases h:plc (s.ps++[x])=0
  · rw [if_pos h]
    refine ⟨cb0,fun _=>good_ok,fun _=>⟨hs.keys,hs.few,hs.ac,plc_len h,fun i hi=>?_⟩⟩
    dsimp only at hi ⊢
    rw [np_eq _ _ hi]
    by_cases hl:i < s.ps.length
    · rw [List.getElem_append_left hl,← np_eq _ _ hl];exact hs.pwf i hl
    · rw [List.getElem_append_right (by omega)];simpa using hx
  · rw [if_neg h]
    exact ⟨plc_cb _,fun e=>absurd e h,fun e=>absurd e h⟩
theorem lb1 {a:Int} (h:I64 a):LB [a]:=⟨by simp,by simpa using h⟩
def RdPost (wb:World) (W D:Nat) (A:Option Addr) (n c:Nat) (R:Option (Nat × (St→Do))) (e:Ending) (w':World):Prop :=
  match R with
  | none=>e=bang 11∧Mor wb w'
  | some r=>∃ K cap,e=.returned (.func (.func K) #[] cap)∧At wb w' W A n c r.1∧DoC K cap D w' r.2∧∀ args w,(callFunc K args).run Tryz.prog w=.ok (.enter K args) w
def RdB (ws:List ByteArray) (R:Option (Nat × (St→Do))):Prop:=∀ r,R=some r→∀ s,Kst s→DoB (r.2 s)
def RdOk (f:Nat) (s:ByteArray) (ws:List ByteArray):Prop :=
  ∃ R,RdB ws R∧∀ wb w W D A n c,Wd wb W A n c ws→D < wb.heap.size→Tab wb→W < w.heap.size→At wb w W A n c 1→Calls Tryz.prog f #[.pointer (some ⟨D,0,none⟩),.string s,.pointer (some ⟨W,0,none⟩)] w (RdPost wb W D A n c R)
theorem RdB.none_ (ws:List ByteArray):RdB ws none:=fun r h=>by cases h
theorem cell_newD (w:World) (v:Value) (T:TypeId):(w.alloc (.cells #[v] T)).cell? ⟨w.heap.size,0,none⟩=some v:=by simp
def nextR (ws:List ByteArray) (p:Nat):Option ByteArray:=if p < ws.length then some (wdd ws p) else none
theorem nextR_some {ws:List ByteArray} {p:Nat} {s:ByteArray} (h:nextR ws p=some s):p < ws.length∧wdd ws p=s:=by
  unfold nextR at h
  split at h
  · exact ⟨by assumption,Option.some.inj h⟩
  · cases h
theorem numR_i64 {ws:List ByteArray} {p:Nat} {v:Int} (h:numR ws p=some v):p < ws.length∧I64 v:=by
  unfold numR at h
  split at h
  · exact ⟨by assumption,atoiAll_bd (numV_some h).1⟩
  · cases h
theorem next_fk (wb w:World) (W:Nat) (A:Option Addr) (n c:Nat) (ws:List ByteArray) (p:Nat) (h:Wd wb W A n c ws) (ha:At wb w W A n c p) (hp:p≤n) :
    Calls Tryz.prog 64 #[.pointer (some ⟨W,0,none⟩)] w fun e w'=>(nextR ws p=none∧e=bang 11∧Mor wb w')∨∃ s,nextR ws p=some s∧s.size≤100000∧p+1≤n∧e=.returned (.string s)∧At wb w' W A n c (p+1)∧On W w w':=by
  by_cases hl:p < n
  · exact (next_ok wb w W A n c ws p h ha hl).mono fun e w' hh=>.inr ⟨wdd ws p,if_pos (by rw [h.len];exact hl),h.wsz hl,hl,hh⟩
  · obtain rfl:p=n:=by omega
    exact (next_no wb w W A p c ws h ha).mono fun e w' hh=>.inl ⟨if_neg (by rw [h.len];omega),hh⟩
theorem num_fk (wb w:World) (W:Nat) (A:Option Addr) (n c:Nat) (ws:List ByteArray) (p:Nat) (h:Wd wb W A n c ws) (ha:At wb w W A n c p) (hp:p≤n) :
    Calls Tryz.prog 63 #[.pointer (some ⟨W,0,none⟩)] w fun e w'=>(numR ws p=none∧e=bang 11∧Mor wb w')∨∃ v,numR ws p=some v∧I64 v∧p+1≤n∧e=.returned (.int .i64 v)∧At wb w' W A n c (p+1)∧On W w w':=by
  cases hv:numR ws p with
  | none=>exact (num_no wb w W A n c ws p h ha hp hv).mono fun e w' hh=>.inl ⟨rfl,hh⟩
  | some v=>exact (num_ok wb w W A n c ws p v h ha hv).mono fun e w' hh=>.inr ⟨v,rfl,(numR_i64 hv).2,by have:=(numR_i64 hv).1;have:=h.len;omega,hh⟩
open Classical in
noncomputable def linesR (ws:List ByteArray) (p:Nat):Option (List Ln):=if ∀ i,i < ws.length - p→(lnR (wdd ws (p+i))).isSome then some (lnL ws p (ws.length - p)) else none
theorem lnL_sz {wb:World} {W:Nat} {A:Option Addr} {n c:Nat} {ws:List ByteArray} (h:Wd wb W A n c ws) {p i:Nat} (hi:i < n - p) (h1:(lnR (wdd ws (p+i))).isSome):(cd (lnL ws p (n - p)) i).size≤maxLen:=by
  have h2:=h.wsz (p:=p+i) (by omega)
  have h3:=cdV_sz (wdd ws (p+i))
  unfold cd
  rw [List.getD_eq_getElem?_getD,List.getElem?_eq_getElem (show i < (lnL ws p (n - p)).length by rw [lnL_len];exact hi),Option.getD_some]
  simp only [lnL,List.getElem_map,List.getElem_range]
  unfold lnR at h1 ⊢
  split at h1
  · rw [if_pos (by assumption)]
    cases hv:numV (amV (wdd ws (p+i))) with
    | none=>rw [hv] at h1;cases h1
    | some v=>simp [maxLen];omega
  · cases h1
theorem lines_fk (wb w:World) (W:Nat) (A:Option Addr) (n c:Nat) (ws:List ByteArray) (p:Nat) (h:Wd wb W A n c ws) (ha:At wb w W A n c p) (hp:p≤n) :
    Calls Tryz.prog 69 #[.pointer (some ⟨W,0,none⟩)] w fun e w'=>(linesR ws p=none∧e=bang 11∧Mor wb w')∨∃ ls A' c',linesR ws p=some ls∧e=.returned (.slice A' ls.length c')∧w'.ownsRow w.heap.size 149 2 (.slice A' ls.length c') ls.length (flat pc ls)∧(∀ i,i < ls.length→(cd ls i).size≤maxLen)∧At wb w' W A n c n∧On W w w':=by
  have hl:=h.len
  refine (dlines_any wb w W A n c ws p (n - p) h ha (by omega)).mono fun e w' hh=>?_
  rcases hh with ⟨v,h1,rfl,hown,hx⟩ | ⟨⟨i,hi,hn⟩,hx⟩
  · have hll:=lnL_len ws p (n - p)
    obtain ⟨A',c',rfl,_⟩:=own_shape hown
    refine .inr ⟨lnL ws p (n - p),A',c',?_,by rw [hll],by rw [hll];exact hown,fun i hi=>?_,hx⟩
    rotate_left
    · rw [hll] at hi;exact lnL_sz h hi (h1 i hi)
    unfold linesR
    rw [hl,if_pos h1]
  · refine .inl ⟨if_neg fun hc=>?_,hx⟩
    have:=hc i (by omega)
    rw [hn] at this
    cases this
end Go.Proofs.YtdhbkifpodekcaaGreatDoor
namespace Go.Proofs.YtdhbkifpodekcaaGreatDoor
open Go Go.ChangeShapes Go.WideShapes Go.ChangeAt Go.RowKit Go.PlainAid
set_option linter.unusedVariables false
set_option maxRecDepth 100000
theorem mkf (fn:Fn) (first cap:Array Value) (w:World):(Instr.makeFunc fn first cap).run Tryz.prog w=.ok (.func fn first cap) w:=rfl
theorem new3 (w:World) (a b c:Value) (Ta Tb' Tc:TypeId):(((w.alloc (.cells #[a] Ta)).alloc (.cells #[b] Tb')).alloc (.cells #[c] Tc)).cell? ⟨w.heap.size,0,none⟩=some a ∧
    (((w.alloc (.cells #[a] Ta)).alloc (.cells #[b] Tb')).alloc (.cells #[c] Tc)).cell? ⟨w.heap.size+1,0,none⟩=some b∧(((w.alloc (.cells #[a] Ta)).alloc (.cells #[b] Tb')).alloc (.cells #[c] Tc)).cell? ⟨w.heap.size+1+1,0,none⟩=some c:=by
  have e1:(w.alloc (.cells #[a] Ta)).heap.size=w.heap.size+1:=by simp
  have e2:((w.alloc (.cells #[a] Ta)).alloc (.cells #[b] Tb')).heap.size=w.heap.size+1+1:=by simp
  refine ⟨cell_morD ((mor_new _ _).trans' (mor_new _ _)) (cell_newD w a Ta),?_,?_⟩
  · rw [← e1];exact cell_morD (mor_new _ _) (cell_newD _ b Tb')
  · rw [← e2];exact cell_newD _ c Tc
set_option maxHeartbeats 3200000 in
theorem rd_acct (ws:List ByteArray) (h1:1≤ws.length):RdOk 27 { data:=#[97,99,99,116] } ws:=by
  refine ⟨(nextR ws 1).bind fun s1=>(numR ws 2).bind fun v2=>some (3,fun s=>accR s s1 v2),?_,fun wb w W D A n c h hD ht hW ha=>?_⟩
  · intro r hr s hs
    obtain ⟨s1,e1,hr⟩:=Option.bind_eq_some_iff.1 hr
    obtain ⟨v2,e2,hr⟩:=Option.bind_eq_some_iff.1 hr
    obtain rfl:=Option.some.inj hr
    exact accR_b hs _ _
  · obtain ⟨R,hR⟩:∃ R,R=((nextR ws 1).bind fun s1=>(numR ws 2).bind fun v2=>some (3,fun s=>accR s s1 v2):Option (Nat × (St→Do))):=⟨_,rfl⟩
    rw [← hR]
    have HR:=Lib.hid hR
    have hmf:=@mkf
    have hDw:D < w.heap.size:=Nat.lt_of_lt_of_le hD ha.mor.below.size
    have hn1:1≤n:=by rw [← h.len];exact h1
    have HH:=Lib.hid h
    have HT:=Lib.hid ht
    have HA0:=Lib.hid (ha.to (mor_new w (.cells #[.pointer (some ⟨D,0,none⟩)] 33)))
    have hWW:=Lib.hid (show w.heap.size≠W from Nat.ne_of_gt hW)
    have c0:=cell_newD w (.pointer (some ⟨D,0,none⟩)) 33
    have hs0:w.heap.size < (w.alloc (.cells #[.pointer (some ⟨D,0,none⟩)] 33)).heap.size:=by simp
    have C0:=Lib.hid (And.intro c0 hs0)
    clear h ha ht hR hD c0 hs0
    go_enter Tryz.func27,Tryz.ntmps27
    have HC:=Lib.hid (next_fk wb _ W A n c ws 1 HH.out HA0.out (by omega))
    go_wp2_with fail
    refine HC.out.mono ?_
    rintro e w1 (⟨hv,he,hm⟩ | ⟨s1,hv1,hz1,hp1,rfl,ha,ho⟩)
    · rw [bang] at he
      subst he
      have hRn:R=none:=by rw [HR.out];simp only [hv,Option.bind_none]
      subst hRn
      go_wp2_with fail
      exact ⟨rfl,rfl,hm⟩
    have hs1:w.heap.size < w1.heap.size:=Nat.lt_of_lt_of_le C0.out.2 ho.size
    have c0:w1.cell? ⟨w.heap.size,0,none⟩=some (.pointer (some ⟨D,0,none⟩)):=cell_onD ho C0.out.1 hWW.out
    generalize hbd:w.heap.size=bd at *
    have HA1:=Lib.hid ha
    clear ha ho HC
    have HC:=Lib.hid (num_fk wb _ W A n c ws 2 HH.out HA1.out (by omega))
    go_wp2_with fail
    refine HC.out.mono ?_
    rintro e w2 (⟨hv,he,hm⟩ | ⟨v2,hv2,hz2,hp2,rfl,ha,ho⟩)
    · rw [bang] at he
      subst he
      have hRn:R=none:=by rw [HR.out];simp only [hv1,Option.bind_some,hv,Option.bind_none]
      subst hRn
      go_wp2_with fail
      exact ⟨rfl,rfl,hm⟩
    have hs2:w1.heap.size≤w2.heap.size:=ho.size
    have c0:w2.cell? ⟨bd,0,none⟩=some (.pointer (some ⟨D,0,none⟩)):=cell_onD ho c0 hWW.out
    have HA2:=Lib.hid ha
    clear ha ho HC
    go_wp2_with fail
    go_returns
    have hRs:R=some (3,fun s=>accR s s1 v2):=by rw [HR.out];simp only [hv1,hv2,Option.bind_some]
    subst hRs
    exact ⟨_,_,rfl,HA2.out.to (by repeat (first | exact Mor.refl _ | apply Mor.alloc)),do_acct D _ bd _ _ s1 v2 (cell_morD (by repeat (first | exact Mor.refl _ | apply Mor.alloc)) c0) (by simp) (by simp) (by omega) (by omega) (by omega) (by unfold maxLen;omega),fun args w=>rfl⟩
set_option maxHeartbeats 3200000 in
theorem rd_shut (ws:List ByteArray) (h1:1≤ws.length):RdOk 27 { data:=#[115,104,117,116] } ws:=by
  refine ⟨(numR ws 1).bind fun v1=>some (2,fun s=>bkR (shutc s.b v1) (if shutc s.b v1=0 then shutb s.b v1 else zeroB) s),?_,fun wb w W D A n c h hD ht hW ha=>?_⟩
  · intro r hr s hs
    obtain ⟨v1,e1,hr⟩:=Option.bind_eq_some_iff.1 hr
    obtain rfl:=Option.some.inj hr
    exact bkR_b hs (shutc_cb _ _) shut_okD
  · obtain ⟨R,hR⟩:∃ R,R=((numR ws 1).bind fun v1=>some (2,fun s=>bkR (shutc s.b v1) (if shutc s.b v1=0 then shutb s.b v1 else zeroB) s):Option (Nat × (St→Do))):=⟨_,rfl⟩
    rw [← hR]
    have HR:=Lib.hid hR
    have hmf:=@mkf
    have hDw:D < w.heap.size:=Nat.lt_of_lt_of_le hD ha.mor.below.size
    have hn1:1≤n:=by rw [← h.len];exact h1
    have HH:=Lib.hid h
    have HT:=Lib.hid ht
    have HA0:=Lib.hid (ha.to (mor_new w (.cells #[.pointer (some ⟨D,0,none⟩)] 33)))
    have hWW:=Lib.hid (show w.heap.size≠W from Nat.ne_of_gt hW)
    have c0:=cell_newD w (.pointer (some ⟨D,0,none⟩)) 33
    have hs0:w.heap.size < (w.alloc (.cells #[.pointer (some ⟨D,0,none⟩)] 33)).heap.size:=by simp
    have C0:=Lib.hid (And.intro c0 hs0)
    clear h ha ht hR hD c0 hs0
    go_enter Tryz.func27,Tryz.ntmps27
    have HC:=Lib.hid (num_fk wb _ W A n c ws 1 HH.out HA0.out (by omega))
    go_wp2_with fail
    refine HC.out.mono ?_
    rintro e w1 (⟨hv,he,hm⟩ | ⟨v1,hv1,hz1,hp1,rfl,ha,ho⟩)
    · rw [bang] at he
      subst he
      have hRn:R=none:=by rw [HR.out];simp only [hv,Option.bind_none]
      subst hRn
      go_wp2_with fail
      exact ⟨rfl,rfl,hm⟩
    have hs1:w.heap.size < w1.heap.size:=Nat.lt_of_lt_of_le C0.out.2 ho.size
    have c0:w1.cell? ⟨w.heap.size,0,none⟩=some (.pointer (some ⟨D,0,none⟩)):=cell_onD ho C0.out.1 hWW.out
    generalize hbd:w.heap.size=bd at *
    have HA1:=Lib.hid ha
    clear ha ho HC
    go_wp2_with fail
    go_returns
    have hRs:R=some (2,fun s=>bkR (shutc s.b v1) (if shutc s.b v1=0 then shutb s.b v1 else zeroB) s):=by rw [HR.out];simp only [hv1,Option.bind_some]
    subst hRs
    exact ⟨_,_,rfl,HA1.out.to (by repeat (first | exact Mor.refl _ | apply Mor.alloc)),do_shut D _ bd _ v1 (cell_morD (by repeat (first | exact Mor.refl _ | apply Mor.alloc)) c0) (by simp) (by omega) (by omega),fun args w=>rfl⟩
set_option maxHeartbeats 3200000 in
theorem rd_close (ws:List ByteArray) (h1:1≤ws.length):RdOk 27 { data:=#[99,108,111,115,101] } ws:=by
  refine ⟨(nextR ws 1).bind fun s1=>(numR ws 2).bind fun v2=>(nextR ws 3).bind fun s3=>some (4,fun s=>bkR (closec s.b s1 v2 s3) (closeb s.b s1 v2 s3) s),?_,fun wb w W D A n c h hD ht hW ha=>?_⟩
  · intro r hr s hs
    obtain ⟨s1,e1,hr⟩:=Option.bind_eq_some_iff.1 hr
    obtain ⟨v2,e2,hr⟩:=Option.bind_eq_some_iff.1 hr
    obtain ⟨s3,e3,hr⟩:=Option.bind_eq_some_iff.1 hr
    obtain rfl:=Option.some.inj hr
    exact bkR_b hs (closec_cb _ _ _ _) close_okD
  · obtain ⟨R,hR⟩:∃ R,R=((nextR ws 1).bind fun s1=>(numR ws 2).bind fun v2=>(nextR ws 3).bind fun s3=>some (4,fun s=>bkR (closec s.b s1 v2 s3) (closeb s.b s1 v2 s3) s):Option (Nat × (St→Do))):=⟨_,rfl⟩
    rw [← hR]
    have HR:=Lib.hid hR
    have hmf:=@mkf
    have hDw:D < w.heap.size:=Nat.lt_of_lt_of_le hD ha.mor.below.size
    have hn1:1≤n:=by rw [← h.len];exact h1
    have HH:=Lib.hid h
    have HT:=Lib.hid ht
    have HA0:=Lib.hid (ha.to (mor_new w (.cells #[.pointer (some ⟨D,0,none⟩)] 33)))
    have hWW:=Lib.hid (show w.heap.size≠W from Nat.ne_of_gt hW)
    have c0:=cell_newD w (.pointer (some ⟨D,0,none⟩)) 33
    have hs0:w.heap.size < (w.alloc (.cells #[.pointer (some ⟨D,0,none⟩)] 33)).heap.size:=by simp
    have C0:=Lib.hid (And.intro c0 hs0)
    clear h ha ht hR hD c0 hs0
    go_enter Tryz.func27,Tryz.ntmps27
    have HC:=Lib.hid (next_fk wb _ W A n c ws 1 HH.out HA0.out (by omega))
    go_wp2_with fail
    refine HC.out.mono ?_
    rintro e w1 (⟨hv,he,hm⟩ | ⟨s1,hv1,hz1,hp1,rfl,ha,ho⟩)
    · rw [bang] at he
      subst he
      have hRn:R=none:=by rw [HR.out];simp only [hv,Option.bind_none]
      subst hRn
      go_wp2_with fail
      exact ⟨rfl,rfl,hm⟩
    have hs1:w.heap.size < w1.heap.size:=Nat.lt_of_lt_of_le C0.out.2 ho.size
    have c0:w1.cell? ⟨w.heap.size,0,none⟩=some (.pointer (some ⟨D,0,none⟩)):=cell_onD ho C0.out.1 hWW.out
    generalize hbd:w.heap.size=bd at *
    have HA1:=Lib.hid ha
    clear ha ho HC
    have HC:=Lib.hid (num_fk wb _ W A n c ws 2 HH.out HA1.out (by omega))
    go_wp2_with fail
    refine HC.out.mono ?_
    rintro e w2 (⟨hv,he,hm⟩ | ⟨v2,hv2,hz2,hp2,rfl,ha,ho⟩)
    · rw [bang] at he
      subst he
      have hRn:R=none:=by rw [HR.out];simp only [hv1,Option.bind_some,hv,Option.bind_none]
      subst hRn
      go_wp2_with fail
      exact ⟨rfl,rfl,hm⟩
    have hs2:w1.heap.size≤w2.heap.size:=ho.size
    have c0:w2.cell? ⟨bd,0,none⟩=some (.pointer (some ⟨D,0,none⟩)):=cell_onD ho c0 hWW.out
    have HA2:=Lib.hid ha
    clear ha ho HC
    have HC:=Lib.hid (next_fk wb _ W A n c ws 3 HH.out HA2.out (by omega))
    go_wp2_with fail
    refine HC.out.mono ?_
    rintro e w3 (⟨hv,he,hm⟩ | ⟨s3,hv3,hz3,hp3,rfl,ha,ho⟩)
    · rw [bang] at he
      subst he
      have hRn:R=none:=by rw [HR.out];simp only [hv1,Option.bind_some,hv2,Option.bind_some,hv,Option.bind_none]
      subst hRn
      go_wp2_with fail
      exact ⟨rfl,rfl,hm⟩
    have hs3:w2.heap.size≤w3.heap.size:=ho.size
    have c0:w3.cell? ⟨bd,0,none⟩=some (.pointer (some ⟨D,0,none⟩)):=cell_onD ho c0 hWW.out
    have HA3:=Lib.hid ha
    clear ha ho HC
    go_wp2_with fail
    go_returns
    have hRs:R=some (4,fun s=>bkR (closec s.b s1 v2 s3) (closeb s.b s1 v2 s3) s):=by rw [HR.out];simp only [hv1,hv2,hv3,Option.bind_some]
    subst hRs
    exact ⟨_,_,rfl,HA3.out.to (by repeat (first | exact Mor.refl _ | apply Mor.alloc)),do_close D _ bd _ _ _ s1 v2 s3 (cell_morD (by repeat (first | exact Mor.refl _ | apply Mor.alloc)) c0) (new3 _ _ _ _ _ _ _).1 (new3 _ _ _ _ _ _ _).2.1 (new3 _ _ _ _ _ _ _).2.2 (by omega) (by omega) (by omega) (by omega) (by unfold maxLen;omega) (by unfold maxLen;omega),fun args w=>rfl⟩
set_option maxHeartbeats 3200000 in
theorem rd_undo (ws:List ByteArray) (h1:1≤ws.length):RdOk 27 { data:=#[117,110,100,111] } ws:=by
  refine ⟨(nextR ws 1).bind fun s1=>(nextR ws 2).bind fun s2=>(numR ws 3).bind fun v3=>some (4,fun s=>bkR (undoc s.b s1 s2 v3) (undob s.b s1 s2 v3) s),?_,fun wb w W D A n c h hD ht hW ha=>?_⟩
  · intro r hr s hs
    obtain ⟨s1,e1,hr⟩:=Option.bind_eq_some_iff.1 hr
    obtain ⟨s2,e2,hr⟩:=Option.bind_eq_some_iff.1 hr
    obtain ⟨v3,e3,hr⟩:=Option.bind_eq_some_iff.1 hr
    obtain rfl:=Option.some.inj hr
    exact bkR_b hs (undoc_cb _ _ _ _) undo_okD
  · obtain ⟨R,hR⟩:∃ R,R=((nextR ws 1).bind fun s1=>(nextR ws 2).bind fun s2=>(numR ws 3).bind fun v3=>some (4,fun s=>bkR (undoc s.b s1 s2 v3) (undob s.b s1 s2 v3) s):Option (Nat × (St→Do))):=⟨_,rfl⟩
    rw [← hR]
    have HR:=Lib.hid hR
    have hmf:=@mkf
    have hDw:D < w.heap.size:=Nat.lt_of_lt_of_le hD ha.mor.below.size
    have hn1:1≤n:=by rw [← h.len];exact h1
    have HH:=Lib.hid h
    have HT:=Lib.hid ht
    have HA0:=Lib.hid (ha.to (mor_new w (.cells #[.pointer (some ⟨D,0,none⟩)] 33)))
    have hWW:=Lib.hid (show w.heap.size≠W from Nat.ne_of_gt hW)
    have c0:=cell_newD w (.pointer (some ⟨D,0,none⟩)) 33
    have hs0:w.heap.size < (w.alloc (.cells #[.pointer (some ⟨D,0,none⟩)] 33)).heap.size:=by simp
    have C0:=Lib.hid (And.intro c0 hs0)
    clear h ha ht hR hD c0 hs0
    go_enter Tryz.func27,Tryz.ntmps27
    have HC:=Lib.hid (next_fk wb _ W A n c ws 1 HH.out HA0.out (by omega))
    go_wp2_with fail
    refine HC.out.mono ?_
    rintro e w1 (⟨hv,he,hm⟩ | ⟨s1,hv1,hz1,hp1,rfl,ha,ho⟩)
    · rw [bang] at he
      subst he
      have hRn:R=none:=by rw [HR.out];simp only [hv,Option.bind_none]
      subst hRn
      go_wp2_with fail
      exact ⟨rfl,rfl,hm⟩
    have hs1:w.heap.size < w1.heap.size:=Nat.lt_of_lt_of_le C0.out.2 ho.size
    have c0:w1.cell? ⟨w.heap.size,0,none⟩=some (.pointer (some ⟨D,0,none⟩)):=cell_onD ho C0.out.1 hWW.out
    generalize hbd:w.heap.size=bd at *
    have HA1:=Lib.hid ha
    clear ha ho HC
    have HC:=Lib.hid (next_fk wb _ W A n c ws 2 HH.out HA1.out (by omega))
    go_wp2_with fail
    refine HC.out.mono ?_
    rintro e w2 (⟨hv,he,hm⟩ | ⟨s2,hv2,hz2,hp2,rfl,ha,ho⟩)
    · rw [bang] at he
      subst he
      have hRn:R=none:=by rw [HR.out];simp only [hv1,Option.bind_some,hv,Option.bind_none]
      subst hRn
      go_wp2_with fail
      exact ⟨rfl,rfl,hm⟩
    have hs2:w1.heap.size≤w2.heap.size:=ho.size
    have c0:w2.cell? ⟨bd,0,none⟩=some (.pointer (some ⟨D,0,none⟩)):=cell_onD ho c0 hWW.out
    have HA2:=Lib.hid ha
    clear ha ho HC
    have HC:=Lib.hid (num_fk wb _ W A n c ws 3 HH.out HA2.out (by omega))
    go_wp2_with fail
    refine HC.out.mono ?_
    rintro e w3 (⟨hv,he,hm⟩ | ⟨v3,hv3,hz3,hp3,rfl,ha,ho⟩)
    · rw [bang] at he
      subst he
      have hRn:R=none:=by rw [HR.out];simp only [hv1,Option.bind_some,hv2,Option.bind_some,hv,Option.bind_none]
      subst hRn
      go_wp2_with fail
      exact ⟨rfl,rfl,hm⟩
    have hs3:w2.heap.size≤w3.heap.size:=ho.size
    have c0:w3.cell? ⟨bd,0,none⟩=some (.pointer (some ⟨D,0,none⟩)):=cell_onD ho c0 hWW.out
    have HA3:=Lib.hid ha
    clear ha ho HC
    go_wp2_with fail
    go_returns
    have hRs:R=some (4,fun s=>bkR (undoc s.b s1 s2 v3) (undob s.b s1 s2 v3) s):=by rw [HR.out];simp only [hv1,hv2,hv3,Option.bind_some]
    subst hRs
    exact ⟨_,_,rfl,HA3.out.to (by repeat (first | exact Mor.refl _ | apply Mor.alloc)),do_undo D _ bd _ _ _ s1 s2 v3 (cell_morD (by repeat (first | exact Mor.refl _ | apply Mor.alloc)) c0) (new3 _ _ _ _ _ _ _).1 (new3 _ _ _ _ _ _ _).2.1 (new3 _ _ _ _ _ _ _).2.2 (by omega) (by omega) (by omega) (by omega) (by unfold maxLen;omega),fun args w=>rfl⟩
set_option maxHeartbeats 3200000 in
theorem rd_run (ws:List ByteArray) (h1:1≤ws.length):RdOk 27 { data:=#[114,117,110] } ws:=by
  refine ⟨(numR ws 1).bind fun v1=>some (2,fun s=>bkR (runcD s.b s.ps v1) (if runcD s.b s.ps v1=0 then madeb s.b (dueP s.ps v1) else zeroB) s),?_,fun wb w W D A n c h hD ht hW ha=>?_⟩
  · intro r hr s hs
    obtain ⟨v1,e1,hr⟩:=Option.bind_eq_some_iff.1 hr
    obtain rfl:=Option.some.inj hr
    exact bkR_b hs (runcD_cb _ _ _) run_okD
  · obtain ⟨R,hR⟩:∃ R,R=((numR ws 1).bind fun v1=>some (2,fun s=>bkR (runcD s.b s.ps v1) (if runcD s.b s.ps v1=0 then madeb s.b (dueP s.ps v1) else zeroB) s):Option (Nat × (St→Do))):=⟨_,rfl⟩
    rw [← hR]
    have HR:=Lib.hid hR
    have hmf:=@mkf
    have hDw:D < w.heap.size:=Nat.lt_of_lt_of_le hD ha.mor.below.size
    have hn1:1≤n:=by rw [← h.len];exact h1
    have HH:=Lib.hid h
    have HT:=Lib.hid ht
    have HA0:=Lib.hid (ha.to (mor_new w (.cells #[.pointer (some ⟨D,0,none⟩)] 33)))
    have hWW:=Lib.hid (show w.heap.size≠W from Nat.ne_of_gt hW)
    have c0:=cell_newD w (.pointer (some ⟨D,0,none⟩)) 33
    have hs0:w.heap.size < (w.alloc (.cells #[.pointer (some ⟨D,0,none⟩)] 33)).heap.size:=by simp
    have C0:=Lib.hid (And.intro c0 hs0)
    clear h ha ht hR hD c0 hs0
    go_enter Tryz.func27,Tryz.ntmps27
    have HC:=Lib.hid (num_fk wb _ W A n c ws 1 HH.out HA0.out (by omega))
    go_wp2_with fail
    refine HC.out.mono ?_
    rintro e w1 (⟨hv,he,hm⟩ | ⟨v1,hv1,hz1,hp1,rfl,ha,ho⟩)
    · rw [bang] at he
      subst he
      have hRn:R=none:=by rw [HR.out];simp only [hv,Option.bind_none]
      subst hRn
      go_wp2_with fail
      exact ⟨rfl,rfl,hm⟩
    have hs1:w.heap.size < w1.heap.size:=Nat.lt_of_lt_of_le C0.out.2 ho.size
    have c0:w1.cell? ⟨w.heap.size,0,none⟩=some (.pointer (some ⟨D,0,none⟩)):=cell_onD ho C0.out.1 hWW.out
    generalize hbd:w.heap.size=bd at *
    have HA1:=Lib.hid ha
    clear ha ho HC
    go_wp2_with fail
    go_returns
    have hRs:R=some (2,fun s=>bkR (runcD s.b s.ps v1) (if runcD s.b s.ps v1=0 then madeb s.b (dueP s.ps v1) else zeroB) s):=by rw [HR.out];simp only [hv1,Option.bind_some]
    subst hRs
    have HTB:=Lib.hid (fun w' (hm:Mor w1 w')=>And.intro (HT.out.mor (HA1.out.mor.trans' hm)) (HH.out.tb.mor (HA1.out.mor.trans' hm)))
    exact ⟨_,_,rfl,HA1.out.to (by repeat (first | exact Mor.refl _ | apply Mor.alloc)),do_run D _ bd _ v1 (cell_morD (by repeat (first | exact Mor.refl _ | apply Mor.alloc)) c0) (by simp) (by omega) (by omega) (HTB.out _ (by repeat (first | exact Mor.refl _ | apply Mor.alloc))).1,fun args w=>rfl⟩
set_option maxHeartbeats 3200000 in
theorem rd_balance (ws:List ByteArray) (h1:1≤ws.length):RdOk 84 { data:=#[98,97,108,97,110,99,101] } ws:=by
  refine ⟨(nextR ws 1).bind fun s1=>(numR ws 2).bind fun v2=>some (3,fun s=>recR (balc s.b s1 v2) [balv s.b s1 v2] s),?_,fun wb w W D A n c h hD ht hW ha=>?_⟩
  · intro r hr s hs
    obtain ⟨s1,e1,hr⟩:=Option.bind_eq_some_iff.1 hr
    obtain ⟨v2,e2,hr⟩:=Option.bind_eq_some_iff.1 hr
    obtain rfl:=Option.some.inj hr
    exact recR_b hs (balc_cb _ _ _) (lb1 (balv_i64 _ _ _))
  · obtain ⟨R,hR⟩:∃ R,R=((nextR ws 1).bind fun s1=>(numR ws 2).bind fun v2=>some (3,fun s=>recR (balc s.b s1 v2) [balv s.b s1 v2] s):Option (Nat × (St→Do))):=⟨_,rfl⟩
    rw [← hR]
    have HR:=Lib.hid hR
    have hmf:=@mkf
    have hDw:D < w.heap.size:=Nat.lt_of_lt_of_le hD ha.mor.below.size
    have hn1:1≤n:=by rw [← h.len];exact h1
    have HH:=Lib.hid h
    have HT:=Lib.hid ht
    have HA0:=Lib.hid (ha.to (mor_new w (.cells #[.pointer (some ⟨D,0,none⟩)] 33)))
    have hWW:=Lib.hid (show w.heap.size≠W from Nat.ne_of_gt hW)
    have c0:=cell_newD w (.pointer (some ⟨D,0,none⟩)) 33
    have hs0:w.heap.size < (w.alloc (.cells #[.pointer (some ⟨D,0,none⟩)] 33)).heap.size:=by simp
    have C0:=Lib.hid (And.intro c0 hs0)
    clear h ha ht hR hD c0 hs0
    go_enter Tryz.func84,Tryz.ntmps84
    have HC:=Lib.hid (next_fk wb _ W A n c ws 1 HH.out HA0.out (by omega))
    go_wp2_with fail
    refine HC.out.mono ?_
    rintro e w1 (⟨hv,he,hm⟩ | ⟨s1,hv1,hz1,hp1,rfl,ha,ho⟩)
    · rw [bang] at he
      subst he
      have hRn:R=none:=by rw [HR.out];simp only [hv,Option.bind_none]
      subst hRn
      go_wp2_with fail
      exact ⟨rfl,rfl,hm⟩
    have hs1:w.heap.size < w1.heap.size:=Nat.lt_of_lt_of_le C0.out.2 ho.size
    have c0:w1.cell? ⟨w.heap.size,0,none⟩=some (.pointer (some ⟨D,0,none⟩)):=cell_onD ho C0.out.1 hWW.out
    generalize hbd:w.heap.size=bd at *
    have HA1:=Lib.hid ha
    clear ha ho HC
    have HC:=Lib.hid (num_fk wb _ W A n c ws 2 HH.out HA1.out (by omega))
    go_wp2_with fail
    refine HC.out.mono ?_
    rintro e w2 (⟨hv,he,hm⟩ | ⟨v2,hv2,hz2,hp2,rfl,ha,ho⟩)
    · rw [bang] at he
      subst he
      have hRn:R=none:=by rw [HR.out];simp only [hv1,Option.bind_some,hv,Option.bind_none]
      subst hRn
      go_wp2_with fail
      exact ⟨rfl,rfl,hm⟩
    have hs2:w1.heap.size≤w2.heap.size:=ho.size
    have c0:w2.cell? ⟨bd,0,none⟩=some (.pointer (some ⟨D,0,none⟩)):=cell_onD ho c0 hWW.out
    have HA2:=Lib.hid ha
    clear ha ho HC
    go_wp2_with fail
    go_returns
    have hRs:R=some (3,fun s=>recR (balc s.b s1 v2) [balv s.b s1 v2] s):=by rw [HR.out];simp only [hv1,hv2,Option.bind_some]
    subst hRs
    have HTB:=Lib.hid (fun w' (hm:Mor w2 w')=>And.intro (HT.out.mor (HA2.out.mor.trans' hm)) (HH.out.tb.mor (HA2.out.mor.trans' hm)))
    exact ⟨_,_,rfl,HA2.out.to (by repeat (first | exact Mor.refl _ | apply Mor.alloc)),do_balance D _ bd _ _ s1 v2 (cell_morD (by repeat (first | exact Mor.refl _ | apply Mor.alloc)) c0) (by simp) (by simp) (HTB.out _ (by repeat (first | exact Mor.refl _ | apply Mor.alloc))).2,fun args w=>rfl⟩
set_option maxHeartbeats 3200000 in
theorem rd_profit (ws:List ByteArray) (h1:1≤ws.length):RdOk 84 { data:=#[112,114,111,102,105,116] } ws:=by
  refine ⟨(numR ws 1).bind fun v1=>(numR ws 2).bind fun v2=>some (3,fun s=>recR (profc s.b v1 v2) [if profc s.b v1 v2=0 then profv s.b v1 v2 else 0] s),?_,fun wb w W D A n c h hD ht hW ha=>?_⟩
  · intro r hr s hs
    obtain ⟨v1,e1,hr⟩:=Option.bind_eq_some_iff.1 hr
    obtain ⟨v2,e2,hr⟩:=Option.bind_eq_some_iff.1 hr
    obtain rfl:=Option.some.inj hr
    exact recR_b hs (profc_cb _ _ _) (lb1 (profv_i64 _ _ _))
  · obtain ⟨R,hR⟩:∃ R,R=((numR ws 1).bind fun v1=>(numR ws 2).bind fun v2=>some (3,fun s=>recR (profc s.b v1 v2) [if profc s.b v1 v2=0 then profv s.b v1 v2 else 0] s):Option (Nat × (St→Do))):=⟨_,rfl⟩
    rw [← hR]
    have HR:=Lib.hid hR
    have hmf:=@mkf
    have hDw:D < w.heap.size:=Nat.lt_of_lt_of_le hD ha.mor.below.size
    have hn1:1≤n:=by rw [← h.len];exact h1
    have HH:=Lib.hid h
    have HT:=Lib.hid ht
    have HA0:=Lib.hid (ha.to (mor_new w (.cells #[.pointer (some ⟨D,0,none⟩)] 33)))
    have hWW:=Lib.hid (show w.heap.size≠W from Nat.ne_of_gt hW)
    have c0:=cell_newD w (.pointer (some ⟨D,0,none⟩)) 33
    have hs0:w.heap.size < (w.alloc (.cells #[.pointer (some ⟨D,0,none⟩)] 33)).heap.size:=by simp
    have C0:=Lib.hid (And.intro c0 hs0)
    clear h ha ht hR hD c0 hs0
    go_enter Tryz.func84,Tryz.ntmps84
    have HC:=Lib.hid (num_fk wb _ W A n c ws 1 HH.out HA0.out (by omega))
    go_wp2_with fail
    refine HC.out.mono ?_
    rintro e w1 (⟨hv,he,hm⟩ | ⟨v1,hv1,hz1,hp1,rfl,ha,ho⟩)
    · rw [bang] at he
      subst he
      have hRn:R=none:=by rw [HR.out];simp only [hv,Option.bind_none]
      subst hRn
      go_wp2_with fail
      exact ⟨rfl,rfl,hm⟩
    have hs1:w.heap.size < w1.heap.size:=Nat.lt_of_lt_of_le C0.out.2 ho.size
    have c0:w1.cell? ⟨w.heap.size,0,none⟩=some (.pointer (some ⟨D,0,none⟩)):=cell_onD ho C0.out.1 hWW.out
    generalize hbd:w.heap.size=bd at *
    have HA1:=Lib.hid ha
    clear ha ho HC
    have HC:=Lib.hid (num_fk wb _ W A n c ws 2 HH.out HA1.out (by omega))
    go_wp2_with fail
    refine HC.out.mono ?_
    rintro e w2 (⟨hv,he,hm⟩ | ⟨v2,hv2,hz2,hp2,rfl,ha,ho⟩)
    · rw [bang] at he
      subst he
      have hRn:R=none:=by rw [HR.out];simp only [hv1,Option.bind_some,hv,Option.bind_none]
      subst hRn
      go_wp2_with fail
      exact ⟨rfl,rfl,hm⟩
    have hs2:w1.heap.size≤w2.heap.size:=ho.size
    have c0:w2.cell? ⟨bd,0,none⟩=some (.pointer (some ⟨D,0,none⟩)):=cell_onD ho c0 hWW.out
    have HA2:=Lib.hid ha
    clear ha ho HC
    go_wp2_with fail
    go_returns
    have hRs:R=some (3,fun s=>recR (profc s.b v1 v2) [if profc s.b v1 v2=0 then profv s.b v1 v2 else 0] s):=by rw [HR.out];simp only [hv1,hv2,Option.bind_some]
    subst hRs
    have HTB:=Lib.hid (fun w' (hm:Mor w2 w')=>And.intro (HT.out.mor (HA2.out.mor.trans' hm)) (HH.out.tb.mor (HA2.out.mor.trans' hm)))
    exact ⟨_,_,rfl,HA2.out.to (by repeat (first | exact Mor.refl _ | apply Mor.alloc)),do_profit D _ bd _ _ v1 v2 (cell_morD (by repeat (first | exact Mor.refl _ | apply Mor.alloc)) c0) (by simp) (by simp) (HTB.out _ (by repeat (first | exact Mor.refl _ | apply Mor.alloc))).2,fun args w=>rfl⟩
set_option maxHeartbeats 3200000 in
theorem rd_trial (ws:List ByteArray) (h1:1≤ws.length):RdOk 84 { data:=#[116,114,105,97,108] } ws:=by
  refine ⟨(numR ws 1).bind fun v1=>some (2,fun s=>recR (lookc s.b v1) [if lookc s.b v1=0 then posS s.b v1 else 0,if lookc s.b v1=0 then negS s.b v1 else 0] s),?_,fun wb w W D A n c h hD ht hW ha=>?_⟩
  · intro r hr s hs
    obtain ⟨v1,e1,hr⟩:=Option.bind_eq_some_iff.1 hr
    obtain rfl:=Option.some.inj hr
    exact recR_b hs (lookc_cb _ _) ⟨by simp,by simpa using pos_i64 _ _⟩
  · obtain ⟨R,hR⟩:∃ R,R=((numR ws 1).bind fun v1=>some (2,fun s=>recR (lookc s.b v1) [if lookc s.b v1=0 then posS s.b v1 else 0,if lookc s.b v1=0 then negS s.b v1 else 0] s):Option (Nat × (St→Do))):=⟨_,rfl⟩
    rw [← hR]
    have HR:=Lib.hid hR
    have hmf:=@mkf
    have hDw:D < w.heap.size:=Nat.lt_of_lt_of_le hD ha.mor.below.size
    have hn1:1≤n:=by rw [← h.len];exact h1
    have HH:=Lib.hid h
    have HT:=Lib.hid ht
    have HA0:=Lib.hid (ha.to (mor_new w (.cells #[.pointer (some ⟨D,0,none⟩)] 33)))
    have hWW:=Lib.hid (show w.heap.size≠W from Nat.ne_of_gt hW)
    have c0:=cell_newD w (.pointer (some ⟨D,0,none⟩)) 33
    have hs0:w.heap.size < (w.alloc (.cells #[.pointer (some ⟨D,0,none⟩)] 33)).heap.size:=by simp
    have C0:=Lib.hid (And.intro c0 hs0)
    clear h ha ht hR hD c0 hs0
    go_enter Tryz.func84,Tryz.ntmps84
    have HC:=Lib.hid (num_fk wb _ W A n c ws 1 HH.out HA0.out (by omega))
    go_wp2_with fail
    refine HC.out.mono ?_
    rintro e w1 (⟨hv,he,hm⟩ | ⟨v1,hv1,hz1,hp1,rfl,ha,ho⟩)
    · rw [bang] at he
      subst he
      have hRn:R=none:=by rw [HR.out];simp only [hv,Option.bind_none]
      subst hRn
      go_wp2_with fail
      exact ⟨rfl,rfl,hm⟩
    have hs1:w.heap.size < w1.heap.size:=Nat.lt_of_lt_of_le C0.out.2 ho.size
    have c0:w1.cell? ⟨w.heap.size,0,none⟩=some (.pointer (some ⟨D,0,none⟩)):=cell_onD ho C0.out.1 hWW.out
    generalize hbd:w.heap.size=bd at *
    have HA1:=Lib.hid ha
    clear ha ho HC
    go_wp2_with fail
    go_returns
    have hRs:R=some (2,fun s=>recR (lookc s.b v1) [if lookc s.b v1=0 then posS s.b v1 else 0,if lookc s.b v1=0 then negS s.b v1 else 0] s):=by rw [HR.out];simp only [hv1,Option.bind_some]
    subst hRs
    have HTB:=Lib.hid (fun w' (hm:Mor w1 w')=>And.intro (HT.out.mor (HA1.out.mor.trans' hm)) (HH.out.tb.mor (HA1.out.mor.trans' hm)))
    exact ⟨_,_,rfl,HA1.out.to (by repeat (first | exact Mor.refl _ | apply Mor.alloc)),do_trial D _ bd _ v1 (cell_morD (by repeat (first | exact Mor.refl _ | apply Mor.alloc)) c0) (by simp) (HTB.out _ (by repeat (first | exact Mor.refl _ | apply Mor.alloc))).2,fun args w=>rfl⟩
set_option maxHeartbeats 3200000 in
theorem rd_sheet (ws:List ByteArray) (h1:1≤ws.length):RdOk 84 { data:=#[115,104,101,101,116] } ws:=by
  refine ⟨(numR ws 1).bind fun v1=>some (2,fun s=>recR (lookc s.b v1) [if lookc s.b v1=0 then kS s.b.en 0 v1 0 s.b.ac else 0,if lookc s.b v1=0 then -kS s.b.en 0 v1 1 s.b.ac else 0,if lookc s.b v1=0 then -kS s.b.en 0 v1 2 s.b.ac else 0] s),?_,fun wb w W D A n c h hD ht hW ha=>?_⟩
  · intro r hr s hs
    obtain ⟨v1,e1,hr⟩:=Option.bind_eq_some_iff.1 hr
    obtain rfl:=Option.some.inj hr
    exact recR_b hs (lookc_cb _ _) ⟨by simp,by simpa using sheet_i64 _ _⟩
  · obtain ⟨R,hR⟩:∃ R,R=((numR ws 1).bind fun v1=>some (2,fun s=>recR (lookc s.b v1) [if lookc s.b v1=0 then kS s.b.en 0 v1 0 s.b.ac else 0,if lookc s.b v1=0 then -kS s.b.en 0 v1 1 s.b.ac else 0,if lookc s.b v1=0 then -kS s.b.en 0 v1 2 s.b.ac else 0] s):Option (Nat × (St→Do))):=⟨_,rfl⟩
    rw [← hR]
    have HR:=Lib.hid hR
    have hmf:=@mkf
    have hDw:D < w.heap.size:=Nat.lt_of_lt_of_le hD ha.mor.below.size
    have hn1:1≤n:=by rw [← h.len];exact h1
    have HH:=Lib.hid h
    have HT:=Lib.hid ht
    have HA0:=Lib.hid (ha.to (mor_new w (.cells #[.pointer (some ⟨D,0,none⟩)] 33)))
    have hWW:=Lib.hid (show w.heap.size≠W from Nat.ne_of_gt hW)
    have c0:=cell_newD w (.pointer (some ⟨D,0,none⟩)) 33
    have hs0:w.heap.size < (w.alloc (.cells #[.pointer (some ⟨D,0,none⟩)] 33)).heap.size:=by simp
    have C0:=Lib.hid (And.intro c0 hs0)
    clear h ha ht hR hD c0 hs0
    go_enter Tryz.func84,Tryz.ntmps84
    have HC:=Lib.hid (num_fk wb _ W A n c ws 1 HH.out HA0.out (by omega))
    go_wp2_with fail
    refine HC.out.mono ?_
    rintro e w1 (⟨hv,he,hm⟩ | ⟨v1,hv1,hz1,hp1,rfl,ha,ho⟩)
    · rw [bang] at he
      subst he
      have hRn:R=none:=by rw [HR.out];simp only [hv,Option.bind_none]
      subst hRn
      go_wp2_with fail
      exact ⟨rfl,rfl,hm⟩
    have hs1:w.heap.size < w1.heap.size:=Nat.lt_of_lt_of_le C0.out.2 ho.size
    have c0:w1.cell? ⟨w.heap.size,0,none⟩=some (.pointer (some ⟨D,0,none⟩)):=cell_onD ho C0.out.1 hWW.out
    generalize hbd:w.heap.size=bd at *
    have HA1:=Lib.hid ha
    clear ha ho HC
    go_wp2_with fail
    go_returns
    have hRs:R=some (2,fun s=>recR (lookc s.b v1) [if lookc s.b v1=0 then kS s.b.en 0 v1 0 s.b.ac else 0,if lookc s.b v1=0 then -kS s.b.en 0 v1 1 s.b.ac else 0,if lookc s.b v1=0 then -kS s.b.en 0 v1 2 s.b.ac else 0] s):=by rw [HR.out];simp only [hv1,Option.bind_some]
    subst hRs
    have HTB:=Lib.hid (fun w' (hm:Mor w1 w')=>And.intro (HT.out.mor (HA1.out.mor.trans' hm)) (HH.out.tb.mor (HA1.out.mor.trans' hm)))
    exact ⟨_,_,rfl,HA1.out.to (by repeat (first | exact Mor.refl _ | apply Mor.alloc)),do_sheet D _ bd _ v1 (cell_morD (by repeat (first | exact Mor.refl _ | apply Mor.alloc)) c0) (by simp) (HTB.out _ (by repeat (first | exact Mor.refl _ | apply Mor.alloc))).2,fun args w=>rfl⟩
set_option maxHeartbeats 3200000 in
theorem rd_keys (ws:List ByteArray) (h1:1≤ws.length):RdOk 84 { data:=#[107,101,121,115] } ws:=by
  refine ⟨some (1,fun s=>⟨0,keysB s.b.en,s⟩),?_,fun wb w W D A n c h hD ht hW ha=>?_⟩
  · intro r hr s hs
    obtain rfl:=Option.some.inj hr
    exact ⟨cb0,fun _=>good_keys hs,fun _=>hs⟩
  · obtain ⟨R,hR⟩:∃ R,R=(some (1,fun s=>⟨0,keysB s.b.en,s⟩):Option (Nat × (St→Do))):=⟨_,rfl⟩
    rw [← hR]
    have HR:=Lib.hid hR
    have hmf:=@mkf
    have hDw:D < w.heap.size:=Nat.lt_of_lt_of_le hD ha.mor.below.size
    have hn1:1≤n:=by rw [← h.len];exact h1
    have HH:=Lib.hid h
    have HT:=Lib.hid ht
    have HA0:=Lib.hid (ha.to (mor_new w (.cells #[.pointer (some ⟨D,0,none⟩)] 33)))
    have hWW:=Lib.hid (show w.heap.size≠W from Nat.ne_of_gt hW)
    have c0:=cell_newD w (.pointer (some ⟨D,0,none⟩)) 33
    have hs0:w.heap.size < (w.alloc (.cells #[.pointer (some ⟨D,0,none⟩)] 33)).heap.size:=by simp
    have C0:=Lib.hid (And.intro c0 hs0)
    clear h ha ht hR hD c0 hs0
    go_enter Tryz.func84,Tryz.ntmps84
    go_wp2_with fail
    go_returns
    have hRs:R=some (1,fun s=>⟨0,keysB s.b.en,s⟩):=by rw [HR.out]
    subst hRs
    exact ⟨_,_,rfl,HA0.out,do_keys D _ _ C0.out.1,fun args w=>rfl⟩
end Go.Proofs.YtdhbkifpodekcaaGreatDoor
