/- Texts of this claim. -/
import Derived.Test.YtdhbkifpodekcaaGreatDoorDeskZ34
import Derived.Test.YtdhbkifpodekcaaGreatDoorDeskZ42
namespace Go.Proofs.YtdhbkifpodekcaaGreatDoor
open Go.ChangeShapes Go.WideShapes Go.ChangeAt Go.RowKit Go.PlainAid
set_option linter.unusedVariables false
set_option maxRecDepth 100000
theorem OwnEs.snoc {w3 w4:World} {base:Nat} {v v':Value} {m:Nat} {qs:List Ev} {es:List En} {ky:ByteArray} {dy:Int} {A:Option Addr} {n c:Nat} {ls:List Ln} (h:OwnEs w3 base v m qs es)
    (hr:w4.ownsRow base 111 3 v' (m+1) (flat ec qs++[.string ky,.int .i64 dy,.slice A n c])) (hg:w3.grownBy w4 v.ownBlock)
    (hl:w3.ownsRow base 149 2 (.slice A n c) n (flat pc ls)) (hn:ls.length=n) (hk:ky.size≤maxLen) (hs:∀ i,i < n→(cd ls i).size≤maxLen) :
    OwnEs w4 base v' (m+1) (qs++[⟨ky,dy,A,n,c⟩]) (es++[⟨ky,dy,ls⟩]):=by
  refine ⟨by rw [flat_snoc];exact hr,by rw [List.length_append,h.ql];rfl,by rw [List.length_append,h.el];rfl,fun i hi=>?_⟩
  by_cases e:i < m
  · rw [qe_old _ _ _ (by rw [h.ql];exact e),ne_old _ _ _ (by rw [h.el];exact e)]
    have h2:=h.ent i e
    exact ⟨h2.key,h2.day,own_grows h2.row h.row hg (by decide),h2.len,h2.ks,h2.str⟩
  · have e:i=m:=by omega
    subst e
    have h1:qe (qs++[⟨ky,dy,A,n,c⟩]) i=⟨ky,dy,A,n,c⟩:=by rw [← h.ql];exact qe_last _ _
    have h2:ne (es++[⟨ky,dy,ls⟩]) i=⟨ky,dy,ls⟩:=by rw [← h.el];exact ne_last _ _
    rw [h1,h2]
    exact ⟨rfl,rfl,own_grows hl h.row hg (by decide),hn,hk,hs⟩
theorem dueP_take (ps:List Pln) (day:Int) (j:Nat) (h:j < ps.length):dueP (ps.take (j+1)) day=dueP (ps.take j) day++dueK (np ps j) day (np ps j).num.toNat:=by
  unfold dueP
  rw [List.take_succ_eq_append_getElem h,List.flatMap_append,np_eq ps j h]
  simp [due1]
theorem dueP_le (ps:List Pln) (day:Int) (h:∀ i,i < ps.length→Pok (np ps i)) (j:Nat) (hj:j≤ps.length):(dueP (ps.take j) day).length≤40*j:=by
  induction j with
  | zero=>simp [dueP]
  | succ j ih =>
    rw [dueP_take ps day j (by omega),List.length_append]
    have h1:=ih (by omega)
    have h2:=dueK_le (np ps j) day (np ps j).num.toNat
    have h3:=(h j (by omega)).num9
    omega
theorem own_lit {w:World} {B g:Nat} {xs:List Ln} (hg:B≤g) (h:w.heap[g]?=some (.cells (flat pc xs).toArray 149 (0,0))) (hl:xs.length≤1000) :
    w.ownsRow B 149 2 (.slice (some ⟨g,0,none⟩) xs.length xs.length) xs.length (flat pc xs):=by
  have e:=flat_len pc 2 pc_len xs
  refine ⟨by rw [e],.inr ⟨g,xs.length,(flat pc xs).toArray,rfl,hg,h,Nat.le_refl _,by unfold maxLen;omega,?_,?_⟩⟩
  · simp [e]
  · rw [← e];simp
theorem partP_bd {p:Pln} (h:Pok p) {k:Nat} (hk:(k:Int) < p.num):-2000000000000000≤partP p k∧partP p k≤2000000000000000:=by
  have h1:=h.num0
  have h9:=h.num9
  unfold partP
  split
  · unfold dgP
    have a:=dgB_bd p.amt p.num ((k:Int)+1) h.amt0 h.amt9 h1 h9 (by omega) (by omega)
    have b:=dgB_bd p.amt p.num (k:Int) h.amt0 h.amt9 h1 h9 (by omega) (by omega)
    omega
  · unfold stP
    have a:=stB_bd p.amt p.num ((k:Int)+1) h.amt0 h.amt9 h1 (by omega) (by omega)
    have b:=stB_bd p.amt p.num (k:Int) h.amt0 h.amt9 h1 (by omega) (by omega)
    omega
set_option maxRecDepth 100000 in
set_option maxHeartbeats 3200000 in
theorem due_ok (A:Option Addr) (n cap:Nat) (ps:List Pln) (day:Int) (w:World) (hr:Ps w A ps) (hn:ps.length=n) (hcap:n≤cap) (hml:cap≤maxLen) (ht:Tab w) (hc:plc ps=0) (d0:0≤day) (d9:day≤292193) :
    Calls Tryz.prog 134 #[.slice A n cap,.int .i64 day] w fun e w'=>∃ v qs,e=.returned (.tuple #[v,.int .i64 0])∧OwnEs w' w.heap.size v (dueP ps day).length qs (dueP ps day)∧Mor w w':=by
  obtain ⟨i0,hi0,hz0,hz1,hz2⟩:=info_parts info_entry
  obtain ⟨h12,hpk,hds⟩:=plc_ok hc
  have HCk:=Lib.hid (fun w' (h:Mor w w')=>plc_any A n cap ps w' (hr.mor h) hn hcap hml (ht.mor h))
  have HIs:=Lib.hid (fun w=>is_any day w)
  rw [hc] at HCk
  rw [decide_eq_true (⟨d0,d9⟩:0≤day∧day≤292193)] at HIs
  have HR:=Lib.hid hr
  have HN:=Lib.hid hn
  have HT:=Lib.hid ht
  have HPk:=Lib.hid hpk
  have HTk:=Lib.hid (fun j (hj:j < n)=>dueP_take ps day j (by omega))
  have HLe:=Lib.hid (fun j (hj:j≤n)=>dueP_le ps day hpk j (by omega))
  have HAll:=Lib.hid (show ps.take n=ps from List.take_of_length_le (by omega))
  have hn12:n≤12:=by omega
  clear hr ht hds hpk h12 hn
  go_enter Tryz.func134,Tryz.ntmps134
  go_wp2_with (first | (go_at_call 81;(with_reducible refine (HCk.out _ (Mor.refl _)).mono ?_);rintro e w1 ⟨rfl,hm1⟩) | (go_at_call 93;(with_reducible refine (HIs.out _).mono ?_);rintro e w2 ⟨rfl,rfl⟩))
  have HM1:=Lib.hid hm1
  clear hm1 HCk HIs
  go_loopw [7,24] (fun v i wr=>∃ j:Nat,∃ X k,j≤n∧i=.int .i64 j∧v=.slice X (dueP (ps.take j) day).length k∧Hid (Mor w wr∧∃ qs,OwnEs wr w.heap.size (.slice X (dueP (ps.take j) day).length k) (dueP (ps.take j) day).length qs (dueP (ps.take j) day))) (fun _ i _=>n - (intOf i).toNat)
  case atStart=>exact ⟨0,none,0,Nat.zero_le _,rfl,rfl,Lib.hid ⟨HM1.out,[],World.ownsRow_nil _ _ _ _,rfl,rfl,fun i hi=>absurd hi (Nat.not_lt_zero _)⟩⟩
  case round =>
    obtain ⟨j,X,c,hj,rfl,rfl,HJ⟩:=hrel
    obtain ⟨hm,qs,hown⟩:=HJ.out
    by_cases hlt:j < n
    · have hji:(j:Int) < (n:Int):=by omega
      have hj0:(0:Int)≤(j:Int):=by omega
      obtain ⟨x,hA,hxb,hw,c0,c1,c2,c3,c4,c5,c6⟩:=(HR.out.mor hm).at_ j (by rw [HN.out];exact hlt)
      subst hA
      have hp:=HPk.out j (by rw [HN.out];exact hlt)
      have HTj:=Lib.hid (HTk.out j hlt)
      have hle:=HLe.out j hj
      generalize dueP (ps.take j) day=d at *
      generalize np ps j=p at *
      obtain ⟨m,hm0⟩:∃ m:Nat,p.num=m:=⟨p.num.toNat,by have:=hp.num0;omega⟩
      have hm1:=hp.num0
      have hm9:=hp.num9
      rw [hm0] at hm1 hm9
      have hmn:p.num.toNat=m:=by omega
      rw [hmn] at HTj
      have HPa:=Lib.hid (fun w=>jparts_any p w m hm0 hp.amt0 hp.amt9 (by omega) (by omega))
      have HAd:=Lib.hid (fun k (hk:k < m) w' (h:Mor w w')=>have hk2:=pok_k hp (k:=(k:Int)) (by omega) (by omega);add_yes p.frm k w' hp.frm0 hp.frm9 (by omega) (by omega) hk2.1 hk2.2 (HT.out.mor h))
      have HKy:=Lib.hid (fun k (hk:k < 40) w'=>jkey_any p k w' hk (by have:=hp.short;omega))
      have HPb:=Lib.hid (fun k (hk:k < m)=>partP_bd hp (k:=k) (by omega))
      have HSt:=Lib.hid (fun k (hk:k≤m) (h:k < m→day < ad p.frm k)=>dueK_stop hp (day:=day) hk (by omega) h)
      have HSu:=Lib.hid (fun k=>show dueK p day (k+1)=dueK p day k++if ad p.frm k≤day∧partP p k≠0 then [mkE p k] else [] from rfl)
      have HDl:=Lib.hid (fun k=>dueK_le p day k)
      have HPw:=Lib.hid hw
      have HM:=Lib.hid hm
      have HOw:=Lib.hid hown
      have HPok:=Lib.hid hp
      clear hw hm hown HJ hp hmn
      obtain ⟨key,kind,frm,amt,num,deb,cre⟩:=p
      simp only at c0 c1 c2 c3 c4 c5 c6 hm0
      subst hm0
      go_wp2_with (go_at_call 173;(with_reducible refine (HPa.out _).mono ?_);rintro e w2 ⟨b,rfl,hb,hm2⟩)
      obtain ⟨bP,hbP⟩:∃ g,g=wr.heap.size:=⟨_,rfl⟩
      have hP2:=(Bk.new wr 120 #[.string key,.int .i64 kind,.int .i64 frm,.int .i64 amt,.int .i64 m,.string deb,.string cre]).mor hm2
      rw [← hbP] at hP2 ⊢
      have HI:=Lib.hid (And.intro ((HM.out.alloc).trans' hm2) (And.intro hP2 (And.intro hb (HOw.out.mor ((Mor.refl _).alloc.trans' hm2)))))
      clear hm2 hb hP2 hbP HM HOw HPa c0 c1 c2 c3 c4 c5 c6 hxb
      go_loopw [7,31] (fun v i w3=>∃ k:Nat,∃ Y c',k≤m∧i=.int .i64 k∧v=.slice Y (d++dueK ⟨key,kind,frm,amt,m,deb,cre⟩ day k).length c'∧Hid (Mor w w3∧Bk w3 bP 120 #[.string key,.int .i64 kind,.int .i64 frm,.int .i64 amt,.int .i64 m,.string deb,.string cre]∧Bk w3 b 3 (fc (partP ⟨key,kind,frm,amt,m,deb,cre⟩) m m)∧∃ qs,OwnEs w3 w.heap.size (.slice Y (d++dueK ⟨key,kind,frm,amt,m,deb,cre⟩ day k).length c') (d++dueK ⟨key,kind,frm,amt,m,deb,cre⟩ day k).length qs (d++dueK ⟨key,kind,frm,amt,m,deb,cre⟩ day k))) (fun _ i _=>m - (intOf i).toNat)
      case atStart=>exact ⟨0,X,c,Nat.zero_le _,rfl,by show _=Value.slice X (d++[]).length c;rw [List.append_nil],Lib.hid ⟨HI.out.1,HI.out.2.1,HI.out.2.2.1,qs,by show OwnEs _ _ (.slice X (d++[]).length c) (d++[]).length qs (d++[]);rw [List.append_nil];exact HI.out.2.2.2⟩⟩
      case round =>
        obtain ⟨k,Y,c',hk,rfl,rfl,HJ⟩:=hrel
        obtain ⟨hm3,hP3,hb3,qs3,hown3⟩:=HJ.out
        have hdl:=HDl.out k
        have hSk:=HSu.out k
        have hlen40:(d++dueK ⟨key,kind,frm,amt,m,deb,cre⟩ day k).length≤520:=by rw [List.length_append];omega
        by_cases hltk:k < m
        · have hki:(k:Int) < (m:Int):=by omega
          have hk0:(0:Int)≤(k:Int):=by omega
          have p0:=hP3.cell 0
          have p1:=hP3.cell 1
          have p2:=hP3.cell 2
          have p3:=hP3.cell 3
          have p4:=hP3.cell 4
          have p5:=hP3.cell 5
          have p6:=hP3.cell 6
          have pl:=hP3.lt
          have n1:=hb3.cell k
          have nl:=hb3.lt
          rw [fc_get _ _ _ _ hltk,if_pos hltk] at n1
          simp at p0 p1 p2 p3 p4 p5 p6
          have HAk:=Lib.hid (HAd.out k hltk)
          have HKk:=Lib.hid (fun w'=>show Calls Tryz.prog 174 #[.agg #[.string key,.int .i64 kind,.int .i64 frm,.int .i64 amt,.int .i64 m,.string deb,.string cre],.int .i64 k] w' fun e w''=>e=.returned (.string (pk key k))∧Mor w' w'' from HKy.out k (by omega) w')
          have ⟨hb1,hb2⟩:=HPb.out k hltk
          have HStop:=Lib.hid (HSt.out k (by omega))
          have HE:=Lib.hid (show mkE ⟨key,kind,frm,amt,m,deb,cre⟩ k=⟨pk key k,ad frm k,[(deb,partP ⟨key,kind,frm,amt,m,deb,cre⟩ k),(cre,- partP ⟨key,kind,frm,amt,m,deb,cre⟩ k)]⟩ from rfl)
          rw [HE.out] at hSk
          generalize partP ⟨key,kind,frm,amt,m,deb,cre⟩ k=t at *
          generalize ad frm k=aw at *
          have HSk:=Lib.hid hSk
          clear hSk HAd HKy HPb HSt HSu HDl HE
          have HS1:=Lib.hid (show d++dueK ⟨key,kind,frm,amt,m,deb,cre⟩ day (k+1)=(d++dueK ⟨key,kind,frm,amt,m,deb,cre⟩ day k)++(if aw≤day∧t≠0 then [(⟨pk key k,aw,[(deb,t),(cre,-t)]⟩:En)] else []) by rw [HSk.out,List.append_assoc])
          have HS2:=Lib.hid (fun h:day < aw=>show dueP (ps.take (j+1)) day=d++dueK ⟨key,kind,frm,amt,m,deb,cre⟩ day k by rw [HTj.out,HStop.out (fun _=>h)])
          have HAdd:=Lib.hid (HAk.out wr hm3)
          have HM3:=Lib.hid hm3
          have HP3:=Lib.hid hP3
          have HB3:=Lib.hid hb3
          have HO3:=Lib.hid hown3
          clear HSk HStop hm3 hP3 hb3 hown3 HJ HAk hdl
          generalize hde:d++dueK ⟨key,kind,frm,amt,m,deb,cre⟩ day k=e0 at *
          clear hde
          by_cases hbk:day < aw
          · have HE:=Lib.hid (HS2.out hbk)
            clear HS1 HS2 HKk
            go_wp2_with (go_at_call 39;(with_reducible refine HAdd.out.mono ?_);rintro e w6 ⟨rfl,hm6⟩;have HM6:=Lib.hid hm6;clear hm6)
            go_roundw
            case rel=>exact ⟨j+1,Y,c',by omega,by go_num,by rw [HE.out],Lib.hid ⟨HM3.out.trans' HM6.out,qs3,by rw [HE.out];exact HO3.out.mor HM6.out⟩⟩
            case measure=>simp [intOf];omega
          · by_cases ht0:t=0
            · have HE:=Lib.hid (show d++dueK ⟨key,kind,frm,amt,m,deb,cre⟩ day (k+1)=e0 by rw [HS1.out,if_neg (by simp [ht0]),List.append_nil])
              subst ht0
              clear HS1 HS2 HKk
              go_wp2_with (go_at_call 39;(with_reducible refine HAdd.out.mono ?_);rintro e w6 ⟨rfl,hm6⟩;have HM6:=Lib.hid hm6;clear hm6)
              go_roundw
              case rel=>exact ⟨k+1,Y,c',by omega,by go_num,by rw [HE.out],Lib.hid ⟨HM3.out.trans' HM6.out,HP3.out.mor HM6.out,HB3.out.mor HM6.out,qs3,by rw [HE.out];exact HO3.out.mor HM6.out⟩⟩
              case measure=>simp [intOf];omega
            · have HE:=Lib.hid (show d++dueK ⟨key,kind,frm,amt,m,deb,cre⟩ day (k+1)=e0++[(⟨pk key k,aw,[(deb,t),(cre,-t)]⟩:En)] by rw [HS1.out,if_pos ⟨by omega,ht0⟩])
              have htb:(t != 0)=true:=by simpa using ht0
              clear HS1 HS2 ht0
              go_wp2_with (go_at_call 39;(with_reducible refine HAdd.out.mono ?_);rintro e w6 ⟨rfl,hm6⟩;have HM6:=Lib.hid hm6;have hP6:=HP3.out.mor hm6;have p0:=hP6.cell 0;have p1:=hP6.cell 1;have p2:=hP6.cell 2;have p3:=hP6.cell 3;have p4:=hP6.cell 4;have p5:=hP6.cell 5;have p6:=hP6.cell 6;have pl:=hP6.lt;simp at p0 p1 p2 p3 p4 p5 p6;clear hP6 hm6)
              have HM36:=Lib.hid (HM3.out.trans' HM6.out)
              have HP6:=Lib.hid (HP3.out.mor HM6.out)
              have HB6:=Lib.hid (HB3.out.mor HM6.out)
              have HO6:=Lib.hid (HO3.out.mor HM6.out)
              have HKz:=Lib.hid (show (pk key k).size≤maxLen by
                have:=HPok.out.short
                unfold pk
                rw [ByteArray.size_append,ByteArray.size_append]
                show key.size+1+2≤maxLen
                unfold maxLen;simp only at this;omega)
              have HLz:=Lib.hid (fun i (hi:i < 2)=>show (cd [(deb,t),(cre,-t)] i).size≤maxLen by
                match i,hi with
                | 0,_=>exact HPw.out.d
                | 1,_=>exact HPw.out.c)
              clear HM3 HP3 HB3 HO3 HAdd
              generalize pk key k=pkk at *
              have hneg:IntKind.i64.wrap (-t)=-t:=by rw [IntKind.wrap_i64];omega
              have HKp:=Lib.hid (fun w' (h:Bk w' bP 120 #[.string key,.int .i64 kind,.int .i64 frm,.int .i64 amt,.int .i64 m,.string deb,.string cre])=>show (fun w'=>w'.cell? ⟨bP,0,none⟩=some (.string key)∧w'.cell? ⟨bP,1,none⟩=some (.int .i64 kind)∧w'.cell? ⟨bP,2,none⟩=some (.int .i64 frm)∧w'.cell? ⟨bP,3,none⟩=some (.int .i64 amt)∧w'.cell? ⟨bP,4,none⟩=some (.int .i64 m)∧w'.cell? ⟨bP,5,none⟩=some (.string deb)∧w'.cell? ⟨bP,6,none⟩=some (.string cre)) w' from ⟨by simpa using h.cell 0,by simpa using h.cell 1,by simpa using h.cell 2,by simpa using h.cell 3,by simpa using h.cell 4,by simpa using h.cell 5,by simpa using h.cell 6⟩)
              clear p0 p1 p2 p3 p4 p5 p6 pl n1 nl
              go_region_held3 (fun w'=>w'.cell? ⟨bP,0,none⟩=some (.string key)∧w'.cell? ⟨bP,1,none⟩=some (.int .i64 kind)∧w'.cell? ⟨bP,2,none⟩=some (.int .i64 frm)∧w'.cell? ⟨bP,3,none⟩=some (.int .i64 amt)∧w'.cell? ⟨bP,4,none⟩=some (.int .i64 m)∧w'.cell? ⟨bP,5,none⟩=some (.string deb)∧w'.cell? ⟨bP,6,none⟩=some (.string cre))
                ((refine HKp.out _ ?_;repeat (first | exact HX7.out.2.1 | exact HP6.out | apply Bk.alloc | apply Bk.more | apply Bk.drewN | apply Bk.drew)))
                (first
                | (go_at_call 174;(with_reducible refine (HKk.out _).mono ?_);rintro e w7 ⟨rfl,bs,dk,rfl⟩)
                | (refine step_append_own rfl (.tmp 48) (.tmp 64) 35 rfl _ 111 i0 (.agg #[.string { data:=#[] },.int .i64 0,.slice none 0 0]) 3 48 Tryz.underlying35 hi0 hz0 hz1 hz2 rfl (by decide) _ e0.length (flat ec qs3) (by simp [Act.eval]) (own_mor (HO6.out.row) (by repeat (first | exact Mor.refl _ | apply Mor.alloc | apply Mor.more | apply Mor.drewN | apply Mor.drew))) ⟨w6.heap.size+bs.length+1,0,none⟩ 1 1 [.string pkk,.int .i64 aw,.slice (some ⟨w6.heap.size+bs.length,0,none⟩) 2 2] (by simp [Act.eval]) rfl (lit_at _ _ _ rfl (by simp [go_sem])) (by intro u hu;simp at hu;rcases hu with rfl | rfl | rfl <;> rfl) (by unfold maxLen;omega) (by omega) (by have:=HM36.out.below.size;simp [go_sem];omega) ?_;intro u7 w7 hown7 hgrow7;obtain ⟨A7,c7,rfl,_,_,_⟩:=own_shape hown7;have hP7:=Bk.growT (Bk.mor (HP6.out) (by repeat (first | exact Mor.refl _ | apply Mor.alloc | apply Mor.more | apply Mor.drewN | apply Mor.drew))) (own_mor (HO6.out.row) (by repeat (first | exact Mor.refl _ | apply Mor.alloc | apply Mor.more | apply Mor.drewN | apply Mor.drew))) hgrow7 (by decide);have hB7:=Bk.growT (Bk.mor (HB6.out) (by repeat (first | exact Mor.refl _ | apply Mor.alloc | apply Mor.more | apply Mor.drewN | apply Mor.drew))) (own_mor (HO6.out.row) (by repeat (first | exact Mor.refl _ | apply Mor.alloc | apply Mor.more | apply Mor.drewN | apply Mor.drew))) hgrow7 (by decide);have hm7:Mor w w7:=own_step (own_mor (HO6.out.row) (by repeat (first | exact Mor.refl _ | apply Mor.alloc | apply Mor.more | apply Mor.drewN | apply Mor.drew))) (Mor.trans' (HM36.out) (by repeat (first | exact Mor.refl _ | apply Mor.alloc | apply Mor.more | apply Mor.drewN | apply Mor.drew))) hgrow7;have hE7:=OwnEs.snoc (OwnEs.mor (HO6.out) (by repeat (first | exact Mor.refl _ | apply Mor.alloc | apply Mor.more | apply Mor.drewN | apply Mor.drew))) hown7 hgrow7 (ls:=[(deb,t),(cre,-t)]) (own_lit (g:=w6.heap.size+bs.length) (xs:=[(deb,t),(cre,-t)]) (by have:=HM36.out.below.size;omega) (by repeat (first | exact newAt (by simp [go_sem,size_more]) | apply Bk.alloc | apply Bk.drewN | apply Bk.drew | apply Bk.more)) (by simp)) rfl HKz.out HLz.out;have HX7:=Lib.hid (And.intro hm7 (And.intro hP7 (And.intro hB7 hE7)));clear hm7 hP7 hB7 hE7 hown7 hgrow7)
                | (refine step_append_own rfl (.tmp 48) (.tmp 64) 35 rfl _ 111 i0 (.agg #[.string { data:=#[] },.int .i64 0,.slice none 0 0]) 3 48 Tryz.underlying35 hi0 hz0 hz1 hz2 rfl (by decide) _ e0.length (flat ec qs3) (by simp [Act.eval]) (own_mor (HO6.out.row) (by repeat (first | exact Mor.refl _ | apply Mor.alloc | apply Mor.more | apply Mor.drewN | apply Mor.drew))) ⟨w6.heap.size+1+bs.length,0,none⟩ 1 1 [.string pkk,.int .i64 aw,.slice (some ⟨w6.heap.size,0,none⟩) 2 2] (by simp [Act.eval]) rfl (lit_at _ _ _ rfl (by simp [go_sem])) (by intro u hu;simp at hu;rcases hu with rfl | rfl | rfl <;> rfl) (by unfold maxLen;omega) (by omega) (by have:=HM36.out.below.size;simp [go_sem];omega) ?_;intro u7 w7 hown7 hgrow7;obtain ⟨A7,c7,rfl,_,_,_⟩:=own_shape hown7;have hP7:=Bk.growT (Bk.mor (HP6.out) (by repeat (first | exact Mor.refl _ | apply Mor.alloc | apply Mor.more | apply Mor.drewN | apply Mor.drew))) (own_mor (HO6.out.row) (by repeat (first | exact Mor.refl _ | apply Mor.alloc | apply Mor.more | apply Mor.drewN | apply Mor.drew))) hgrow7 (by decide);have hB7:=Bk.growT (Bk.mor (HB6.out) (by repeat (first | exact Mor.refl _ | apply Mor.alloc | apply Mor.more | apply Mor.drewN | apply Mor.drew))) (own_mor (HO6.out.row) (by repeat (first | exact Mor.refl _ | apply Mor.alloc | apply Mor.more | apply Mor.drewN | apply Mor.drew))) hgrow7 (by decide);have hm7:Mor w w7:=own_step (own_mor (HO6.out.row) (by repeat (first | exact Mor.refl _ | apply Mor.alloc | apply Mor.more | apply Mor.drewN | apply Mor.drew))) (Mor.trans' (HM36.out) (by repeat (first | exact Mor.refl _ | apply Mor.alloc | apply Mor.more | apply Mor.drewN | apply Mor.drew))) hgrow7;have hE7:=OwnEs.snoc (OwnEs.mor (HO6.out) (by repeat (first | exact Mor.refl _ | apply Mor.alloc | apply Mor.more | apply Mor.drewN | apply Mor.drew))) hown7 hgrow7 (ls:=[(deb,t),(cre,-t)]) (own_lit (g:=w6.heap.size) (xs:=[(deb,t),(cre,-t)]) (by have:=HM36.out.below.size;omega) (by repeat (first | exact newAt (by simp [go_sem]) | apply Bk.alloc | apply Bk.drewN | apply Bk.drew | apply Bk.more)) (by simp)) rfl HKz.out HLz.out;have HX7:=Lib.hid (And.intro hm7 (And.intro hP7 (And.intro hB7 hE7)));clear hm7 hP7 hB7 hE7 hown7 hgrow7))
              all_goals go_wp2_with fail
              all_goals go_roundw
              all_goals first
                | (exact ⟨k+1,A7,c7,by omega,by go_num,by rw [HE.out,List.length_append];rfl,Lib.hid ⟨HX7.out.1,HX7.out.2.1,HX7.out.2.2.1,_,by rw [HE.out,List.length_append];exact HX7.out.2.2.2⟩⟩)
                | (simp [intOf];omega)
        · obtain rfl:k=m:=by omega
          have HTE:=Lib.hid HTj.out
          go_wp2_with fail
          go_roundw
          case rel=>exact ⟨j+1,Y,c',by omega,by go_num,by rw [HTE.out],Lib.hid ⟨hm3,qs3,by rw [HTE.out];exact hown3⟩⟩
          case measure=>simp [intOf];omega
    · obtain rfl:j=n:=by omega
      rw [HAll.out] at hown ⊢
      have HM:=Lib.hid hm
      have HOw:=Lib.hid hown
      clear hm hown HJ
      go_wp2_with fail
      go_returns
      exact ⟨_,qs,rfl,HOw.out,HM.out⟩
end Go.Proofs.YtdhbkifpodekcaaGreatDoor
