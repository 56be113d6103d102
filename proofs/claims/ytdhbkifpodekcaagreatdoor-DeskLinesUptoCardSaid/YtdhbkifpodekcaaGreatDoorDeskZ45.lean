/- Texts of this claim. -/
import Derived.Test.YtdhbkifpodekcaaGreatDoorDeskZ31
import Derived.Test.YtdhbkifpodekcaaGreatDoorDeskZ44
namespace Go.Proofs.YtdhbkifpodekcaaGreatDoor
open Go Go.ChangeShapes Go.WideShapes Go.ChangeAt Go.RowKit Go.PlainAid
set_option linter.unusedVariables false
set_option maxRecDepth 100000
def pl7 (p:Pln):List Value:=[.string p.key,.int .i64 p.kind,.int .i64 p.frm,.int .i64 p.amt,.int .i64 p.num,.string p.deb,.string p.cre]
theorem pl7_len:∀ p,(pl7 p).length=7:=fun _=>rfl
theorem pl7_one (ps:List Pln):∀ u∈flat pl7 ps,u.oneCell'=true:=by
  intro u hu
  simp only [flat,List.mem_flatMap,pl7,List.mem_cons,List.not_mem_nil,or_false] at hu
  obtain ⟨x,_,rfl | rfl | rfl | rfl | rfl | rfl | rfl⟩:=hu <;> rfl
theorem Ps.own {w:World} {B n c:Nat} {T:TypeId} {A:Option Addr} {ps:List Pln} (h:w.ownsRow B T 7 (.slice A n c) n (flat pl7 ps)) (hw:∀ i,i < ps.length→Pwf (np ps i)):Ps w A ps:=by
  by_cases h0:ps=[]
  · exact .inl h0
  have hl:0 < ps.length:=List.length_pos_iff.2 h0
  obtain ⟨b,o,hA,hb,_⟩:=Rd.field 7 pl7_len (Rd.own h) 0 hl (by omega)
  refine .inr ⟨⟨b,o,none⟩,hA,hb,fun i hi=>⟨hw i hi,?_⟩⟩
  obtain ⟨b',o',e,_,hc⟩:=Rd.field 7 pl7_len (Rd.own h) i hi (by omega)
  rw [hA] at e
  injection e with e
  injection e with e1 e2
  subst e1 e2
  have hn:=np_eq ps i hi
  rw [adds]
  have c0:=hc 0 (by omega)
  have c1:=hc 1 (by omega)
  have c2:=hc 2 (by omega)
  have c3:=hc 3 (by omega)
  have c4:=hc 4 (by omega)
  have c5:=hc 5 (by omega)
  have c6:=hc 6 (by omega)
  rw [← hn] at c0 c1 c2 c3 c4 c5 c6
  exact ⟨by simpa [pl7] using c0,by simpa [pl7] using c1,by simpa [pl7] using c2,by simpa [pl7] using c3,by simpa [pl7] using c4,by simpa [pl7] using c5,by simpa [pl7] using c6⟩
structure St where
  b:Bok
  ps:List Pln
structure Kst (s:St):Prop where
  keys:∀ x∈s.b.en,keyB x.key=true
  few:s.b.en.length≤60
  ac:s.b.ac.length≤24
  ps:s.ps.length≤12
  pwf:∀ i,i < s.ps.length→Pwf (np s.ps i)
structure DkE (w:World) (D:Nat) (s:St) (A:Option Addr) (n c:Nat) (X:Option Addr) (m k:Nat) (P:Option Addr) (p q:Nat):Prop where
  bk:Bk w D 40 #[.slice A n c,.slice X m k,.int .i64 s.b.shut,.slice P p q]
  ob:OwnB w (D+1) (.slice A n c) (.slice X m k) n m s.b
  op:w.ownsRow (D+1) 120 7 (.slice P p q) p (flat pl7 s.ps)
  pl:s.ps.length=p
  kst:Kst s
def Dk (w:World) (D:Nat) (s:St):Prop:=∃ A n c X m k P p q,DkE w D s A n c X m k P p q
theorem DkE.mor {w w':World} {D:Nat} {s:St} {A:Option Addr} {n c:Nat} {X:Option Addr} {m k:Nat} {P:Option Addr} {p q:Nat} (h:DkE w D s A n c X m k P p q) (hm:Mor w w'):DkE w' D s A n c X m k P p q :=
  ⟨h.bk.mor hm,h.ob.mor hm,own_mor h.op hm,h.pl,h.kst⟩
theorem Dk.mor {w w':World} {D:Nat} {s:St} (h:Dk w D s) (hm:Mor w w'):Dk w' D s:=by
  obtain ⟨A,n,c,X,m,k,P,p,q,h⟩:=h
  exact ⟨A,n,c,X,m,k,P,p,q,h.mor hm⟩
theorem DkE.bq {w:World} {D:Nat} {s:St} {A:Option Addr} {n c:Nat} {X:Option Addr} {m k:Nat} {P:Option Addr} {p q:Nat} (h:DkE w D s A n c X m k P p q):Bq w A n c X m k s.b:=own_bq h.ob
theorem DkE.psr {w:World} {D:Nat} {s:St} {A:Option Addr} {n c:Nat} {X:Option Addr} {m k:Nat} {P:Option Addr} {p q:Nat} (h:DkE w D s A n c X m k P p q):Ps w P s.ps∧p≤q∧q≤maxLen:=by
  refine ⟨Ps.own h.op h.kst.pwf,?_⟩
  obtain ⟨_,hh | ⟨g,cap,cur,e,_,_,h1,h2,_,_⟩⟩:=h.op
  · injection hh.1 with _ e2 e3
    subst e2 e3
    exact ⟨Nat.le_refl _,by unfold maxLen;omega⟩
  · injection e with _ _ e3
    subst e3
    exact ⟨h1,h2⟩
theorem OwnB.setD {w:World} {base:Nat} {vA vX:Value} {n m:Nat} {b:Bok} {g i:Nat} {T:TypeId} {cs:Array Value} {u:Value} (h:OwnB w base vA vX n m b) (hg:Bk w g T cs) (h1:144≠T) (h2:111≠T) (h3:149≠T) :
    OwnB (w.setCell ⟨g,i,none⟩ u) base vA vX n m b:=by
  obtain ⟨qs,hq⟩:=h.es
  exact ⟨own_setT h.ac hg h1,h.al,h.astr,qs,⟨own_setT hq.row hg h2,hq.ql,hq.el,fun i hi=>by
    have:=hq.ent i hi
    exact ⟨this.key,this.day,own_setT this.row hg h3,this.len,this.ks,this.str⟩⟩⟩
theorem DkE.put {w:World} {D:Nat} {s:St} {A0:Option Addr} {n0 c0:Nat} {X0:Option Addr} {m0 k0:Nat} {P:Option Addr} {p q:Nat} (h:DkE w D s A0 n0 c0 X0 m0 k0 P p q) {y:Bok} {A:Option Addr} {n c:Nat} {X:Option Addr} {m k:Nat}
    (ho:OwnB w (D+1) (.slice A n c) (.slice X m k) n m y) (hk:Kst ⟨y,s.ps⟩) {sh:Int} (hs:y.shut=sh) :
    DkE (((w.setCell ⟨D,0,none⟩ (.slice A n c)).setCell ⟨D,1,none⟩ (.slice X m k)).setCell ⟨D,2,none⟩ (.int .i64 sh)) D ⟨y,s.ps⟩ A n c X m k P p q:=by
  have b1:=h.bk.set_ 0 (.slice A n c)
  have b2:=b1.set_ 1 (.slice X m k)
  have b3:=b2.set_ 2 (.int .i64 sh)
  refine ⟨?_,((ho.setD h.bk (by decide) (by decide) (by decide)).setD b1 (by decide) (by decide) (by decide)).setD b2 (by decide) (by decide) (by decide),own_setT (own_setT (own_setT h.op h.bk (by decide)) b1 (by decide)) b2 (by decide),h.pl,hk⟩
  rw [hs]
  simpa using b3
theorem on3 (w:World) (D:Nat) (a b c:Value):On D w (((w.setCell ⟨D,0,none⟩ a).setCell ⟨D,1,none⟩ b).setCell ⟨D,2,none⟩ c):=(((On.refl D w).setCell a).setCell b).setCell c
structure Do where
  c:Int
  out:ByteArray
  s:St
structure Good (l:List UInt8):Prop where
  len:l.length≤4000
  nl:(10:UInt8) ∉ l
  beg:(∃ r,l=[111,107]++r)∨∃ r,l=[101,114,114,111,114,32]++r
structure DoB (r:Do):Prop where
  cb:CB r.c
  good:r.c=0→Good (ub r.out)
  kst:r.c=0→Kst r.s
def DoPost (w:World) (D:Nat) (s:St) (r:Do) (e:Ending) (w':World):Prop :=
  ((r.c=0∧e=.returned (.string r.out)∧Dk w' D r.s)∨(r.c≠0∧e=bang r.c∧Dk w' D s))∧On D w w'
def DoC (K:Nat) (cap:Array Value) (D:Nat) (wb:World) (F:St→Do):Prop :=
  ∀ w s,Mor wb w→Dk w D s→Calls Tryz.prog K cap w (DoPost w D s (F s))
def okB:ByteArray:={ data:=#[111,107] }
theorem good_ok:Good (ub okB):=⟨by decide,by decide,.inl ⟨[],rfl⟩⟩
theorem On.to_mor {D:Nat} {w0 w w':World} (h:Mor w0 w) (ho:On D w w') (hD:w0.heap.size≤D):Mor w0 w':=by
  have hB:=h.below
  exact Mor.of_below ⟨ho.os.trans hB.os,ho.tape.trans hB.tape,ho.output.trans hB.output,Nat.le_trans hB.size ho.size,fun k hk=>(ho.block k (by omega) (Nat.lt_of_lt_of_le hk hB.size)).trans (hB.block k hk)⟩
set_option maxHeartbeats 3200000 in
theorem become_ok (D:Nat) (s:St) (w:World) (hd:Dk w D s) (y:Bok) (A:Option Addr) (n c:Nat) (X:Option Addr) (m k:Nat) (ho:OwnB w (D+1) (.slice A n c) (.slice X m k) n m y) (hk:∀ x∈y.en,keyB x.key=true) (h60:y.en.length≤60) (h24:y.ac.length≤24) :
    Calls Tryz.prog 71 #[.pointer (some ⟨D,0,none⟩),bv A n c X m k y.shut,.int .i64 0] w (DoPost w D s ⟨0,okB,⟨y,s.ps⟩⟩):=by
  have HM:=Lib.hid (fun w=>must_ok w)
  obtain ⟨A0,n0,c0,X0,m0,k0,P,p,q,hd⟩:=hd
  have HD:=Lib.hid hd
  have HO:=Lib.hid ho
  have HK:=Lib.hid (show Kst ⟨y,s.ps⟩ from ⟨hk,h60,h24,hd.kst.ps,hd.kst.pwf⟩)
  have d0:=hd.bk.cell 0
  have d1:=hd.bk.cell 1
  have d2:=hd.bk.cell 2
  have d3:=hd.bk.cell 3
  have f0:=hd.bk.frozen 0
  have f1:=hd.bk.frozen 1
  have f2:=hd.bk.frozen 2
  have dl:=hd.bk.lt
  simp at d0 d1 d2 d3
  obtain ⟨b,ps⟩:=s
  dsimp only at *
  generalize hsh:y.shut=sh at *
  have HSh:=Lib.hid hsh
  clear hd ho hk h60 h24 hsh
  go_enter Tryz.func71,Tryz.ntmps71
  go_wp2_with (first | (go_at_call 57;(with_reducible refine (HM.out _).mono ?_);rintro e w1 ⟨rfl,rfl⟩))
  go_returns
  exact ⟨.inl ⟨rfl,rfl,Dk.mor ⟨A,n,c,X,m,k,P,p,q,HD.out.put HO.out HK.out HSh.out⟩ (mor_new _ _)⟩,(on3 w D _ _ _).mor (mor_new _ _)⟩
set_option maxHeartbeats 1600000 in
theorem become_no (D:Nat) (s:St) (w:World) (hd:Dk w D s) (A:Option Addr) (n c:Nat) (X:Option Addr) (m k:Nat) (sh r:Int) (hr:r≠0) :
    Calls Tryz.prog 71 #[.pointer (some ⟨D,0,none⟩),bv A n c X m k sh,.int .i64 r] w fun e w'=>e=bang r∧Mor w w':=by
  have HM:=Lib.hid (fun w=>must_no r w hr)
  clear hr
  go_enter Tryz.func71,Tryz.ntmps71
  go_wp2_with (first | (go_at_call 57;(with_reducible refine (HM.out _).mono ?_);rintro e w1 ⟨he,rfl⟩;rw [bang] at he;subst he))
  exact ⟨rfl,rfl,by repeat (first | exact Mor.refl _ | apply Mor.alloc | apply Mor.more | apply Mor.drewN | apply Mor.drew)⟩
end Go.Proofs.YtdhbkifpodekcaaGreatDoor
