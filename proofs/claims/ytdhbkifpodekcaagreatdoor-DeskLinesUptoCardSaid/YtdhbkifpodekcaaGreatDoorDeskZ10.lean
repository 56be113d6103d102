/- Texts of this claim. -/
import Derived.Test.YtdhbkifpodekcaaGreatDoorDeskZ7
import Derived.Test.YtdhbkifpodekcaaGreatDoorDeskZ9
namespace Go.Proofs.YtdhbkifpodekcaaGreatDoor
open Go.ChangeShapes Go.WideShapes Go.ChangeAt Go.RowKit Go.PlainAid
set_option linter.unusedVariables false
set_option maxRecDepth 100000
theorem own_blk {w:World} {B s n:Nat} {T:TypeId} {v:Value} {xs:List Value} (h:w.ownsRow B T s v n xs) {b:Nat} (hb:v.ownBlock=some b):b < w.heap.size∧B≤b∧∃ cur,w.heap[b]?=some (.cells cur T (0,0)):=by
  obtain ⟨_,hh | ⟨g,cap,cur,rfl,hg,hb2,_⟩⟩:=h
  · rw [hh.1] at hb;simp [Value.ownBlock] at hb
  · simp [Value.ownBlock] at hb
    subst hb
    exact ⟨(Array.getElem?_eq_some_iff.1 hb2).1,hg,cur,hb2⟩
theorem own_other {w w':World} {B s n:Nat} {T:TypeId} {v:Value} {xs:List Value} (h:w.ownsRow B T s v n xs) {b:Nat} {T':TypeId} {cur:Array Value} (hb:w.heap[b]?=some (.cells cur T' (0,0))) (hT:T≠T') (hg:w.grownBy w' (some b)):w'.ownsRow B T s v n xs:=by
  refine ⟨h.1,?_⟩
  rcases h.2 with hn | ⟨g,cap,cur2,rfl,hg2,hh,rest⟩
  · exact .inl hn
  · refine .inr ⟨g,cap,cur2,rfl,hg2,(hg.block g (Array.getElem?_eq_some_iff.1 hh).1 ?_).trans hh,rest⟩
    intro e
    injection e with e
    subst e
    rw [hh] at hb
    injection hb with hb
    injection hb with _ hb _
    exact hT hb
theorem own_kept {w w':World} {B s n:Nat} {T:TypeId} {v:Value} {xs:List Value} (h:w.ownsRow B T s v n xs) (hg:w.grownBy w' none):w'.ownsRow B T s v n xs:=by
  refine ⟨h.1,?_⟩
  rcases h.2 with hn | ⟨g,cap,cur2,rfl,hg2,hh,rest⟩
  · exact .inl hn
  · exact .inr ⟨g,cap,cur2,rfl,hg2,(hg.block g (Array.getElem?_eq_some_iff.1 hh).1 (by simp)).trans hh,rest⟩
theorem grown_mor {w w':World} (h:Mor w w') (r:Option Nat):w.grownBy w' r:=⟨h.below.os,h.below.tape,h.below.output,h.below.size,fun k hk _=>h.below.block k hk⟩
theorem own_mor {w w':World} {B s n:Nat} {T:TypeId} {v:Value} {xs:List Value} (h:w.ownsRow B T s v n xs) (hm:Mor w w'):w'.ownsRow B T s v n xs:=own_kept h (grown_mor hm none)
theorem own_base {w:World} {B B' s n:Nat} {T:TypeId} {u:Value} {ys:List Value} (h:w.ownsRow B T s u n ys) (hB:B'≤B):w.ownsRow B' T s u n ys:=by
  refine ⟨h.1,?_⟩
  rcases h.2 with hn | ⟨g,cap,cur,rfl,hg,rest⟩
  · exact .inl hn
  · exact .inr ⟨g,cap,cur,rfl,Nat.le_trans hB hg,rest⟩
theorem own_lq {w:World} {B n:Nat} {T:TypeId} {v:Value} {xs:List Ln} (h:w.ownsRow B T 2 v n (flat pc xs)) (hl:xs.length=n) (hs:∀ i,i < n→(cd xs i).size≤maxLen) :
    ∃ A c,v=.slice A n c∧Lq w A n c xs:=by
  have hr:=h
  obtain ⟨hlen,hh | ⟨g,cap,cur,rfl,hg,hb,h1,h2,h3,h4⟩⟩:=h
  · obtain ⟨rfl,rfl⟩:=hh
    exact ⟨none,0,rfl,Si.of_rd (Rd.own hr),hl,Nat.le_refl _,by unfold maxLen;omega,fun _=>rfl,hs⟩
  · exact ⟨_,cap,rfl,Si.of_rd (Rd.own hr),hl,h1,h2,(fun h=>by cases h),hs⟩
structure Ev where
  key:ByteArray
  day:Int
  A:Option Addr
  n:Nat
  c:Nat
def ec (q:Ev):List Value:=[.string q.key,.int .i64 q.day,.slice q.A q.n q.c]
theorem ec_len (q:Ev):(ec q).length=3:=rfl
def ev0:Ev:=⟨ByteArray.empty,0,none,0,0⟩
def qe (qs:List Ev) (i:Nat):Ev:=qs.getD i ev0
theorem qe_eq (qs:List Ev) (i:Nat) (h:i < qs.length):qe qs i=qs[i]:=by
  unfold qe;rw [List.getD_eq_getElem?_getD,List.getElem?_eq_getElem h];rfl
structure OwnE (w:World) (base:Nat) (q:Ev) (x:En):Prop where
  key:q.key=x.key
  day:q.day=x.day
  row:w.ownsRow base 149 2 (.slice q.A q.n q.c) q.n (flat pc x.ls)
  len:x.ls.length=q.n
  ks:x.key.size≤maxLen
  str:∀ i,i < q.n→(cd x.ls i).size≤maxLen
theorem OwnE.mor {w w':World} {base:Nat} {q:Ev} {x:En} (h:OwnE w base q x) (hm:Mor w w'):OwnE w' base q x:=⟨h.key,h.day,own_mor h.row hm,h.len,h.ks,h.str⟩
theorem OwnE.lq {w:World} {base:Nat} {q:Ev} {x:En} (h:OwnE w base q x):Lq w q.A q.n q.c x.ls:=by
  obtain ⟨A,c,e,hl⟩:=own_lq h.row h.len h.str
  injection e with e1 _ e3
  rw [e1,e3];exact hl
structure OwnEs (w:World) (base:Nat) (v:Value) (m:Nat) (qs:List Ev) (es:List En):Prop where
  row:w.ownsRow base 111 3 v m (flat ec qs)
  ql:qs.length=m
  el:es.length=m
  ent:∀ i,i < m→OwnE w base (qe qs i) (ne es i)
theorem OwnEs.mor {w w':World} {base:Nat} {v:Value} {m:Nat} {qs:List Ev} {es:List En} (h:OwnEs w base v m qs es) (hm:Mor w w'):OwnEs w' base v m qs es :=
  ⟨own_mor h.row hm,h.ql,h.el,fun i hi=>(h.ent i hi).mor hm⟩
theorem OwnEs.shape {w:World} {base:Nat} {v:Value} {m:Nat} {qs:List Ev} {es:List En} (h:OwnEs w base v m qs es) :
    ∃ X k,v=.slice X m k∧m≤k∧k≤maxLen∧(X=none→m=0)∧Es w X es:=by
  have hr:=h.row
  obtain ⟨hlen,hh | ⟨g,cap,cur,rfl,hg,hb,h1,h2,h3,h4⟩⟩:=hr
  · obtain ⟨rfl,rfl⟩:=hh
    exact ⟨none,0,rfl,Nat.le_refl _,by unfold maxLen;omega,fun _=>rfl,.inl (List.eq_nil_of_length_eq_zero h.el)⟩
  · refine ⟨_,cap,rfl,h1,h2,(fun h=>by cases h),?_⟩
    by_cases h0:es=[]
    · exact .inl h0
    have hl:0 < qs.length:=by rw [h.ql,← h.el];exact List.length_pos_iff.2 h0
    refine .inr ⟨_,rfl,(Array.getElem?_eq_some_iff.1 hb).1,fun i hi=>?_⟩
    have hi':i < qs.length:=by rw [h.ql,← h.el];exact hi
    have hE:=h.ent i (by rw [← h.el];exact hi)
    obtain ⟨b',o',hA',_,hc⟩:=Rd.field 3 ec_len (Rd.own h.row) i hi' (by omega)
    injection hA' with hA'
    injection hA' with e1 e2
    subst e1 e2
    have c0:=hc 0 (by omega)
    have c1:=hc 1 (by omega)
    have c2:=hc 2 (by omega)
    have eq1:qs[i]=qe qs i:=(qe_eq qs i hi').symm
    rw [adds]
    refine ⟨hE.ks,(qe qs i).A,(qe qs i).n,(qe qs i).c,?_,?_,?_,hE.lq⟩
    · rw [← hE.key,← eq1];simpa [ec] using c0
    · rw [← hE.day,← eq1];simpa [ec] using c1
    · rw [← eq1];simpa [ec] using c2
structure OwnB (w:World) (base:Nat) (vA vX:Value) (n m:Nat) (b:Bok):Prop where
  ac:w.ownsRow base 144 2 vA n (flat pc b.ac)
  al:b.ac.length=n
  astr:∀ i,i < n→(cd b.ac i).size≤maxLen
  es:∃ qs,OwnEs w base vX m qs b.en
theorem OwnB.mor {w w':World} {base:Nat} {vA vX:Value} {n m:Nat} {b:Bok} (h:OwnB w base vA vX n m b) (hm:Mor w w'):OwnB w' base vA vX n m b:=by
  obtain ⟨qs,hq⟩:=h.es
  exact ⟨own_mor h.ac hm,h.al,h.astr,qs,hq.mor hm⟩
theorem OwnB.bq {w:World} {base:Nat} {vA vX:Value} {n m:Nat} {b:Bok} (h:OwnB w base vA vX n m b) :
    ∃ A c X k,vA=.slice A n c∧vX=.slice X m k∧Bq w A n c X m k b:=by
  obtain ⟨A,c,rfl,hl⟩:=own_lq h.ac h.al h.astr
  obtain ⟨qs,hq⟩:=h.es
  obtain ⟨X,k,rfl,h1,h2,h3,h4⟩:=hq.shape
  exact ⟨A,c,X,k,rfl,rfl,hl,h4,hq.el,h1,h2,h3⟩
end Go.Proofs.YtdhbkifpodekcaaGreatDoor
namespace Go.Proofs.YtdhbkifpodekcaaGreatDoor
open Go.ChangeShapes Go.WideShapes Go.ChangeAt Go.RowKit Go.PlainAid
set_option linter.unusedVariables false
structure Pln where
  key:ByteArray
  kind:Int
  frm:Int
  amt:Int
  num:Int
  deb:ByteArray
  cre:ByteArray
instance : Inhabited Pln := ⟨⟨ByteArray.empty, 0, 0, 0, 0, ByteArray.empty, ByteArray.empty⟩⟩
def np (ps:List Pln) (i:Nat):Pln:=ps.getD i default
theorem np_eq (ps:List Pln) (i:Nat) (h:i < ps.length):np ps i=ps[i]:=by
  unfold np;rw [List.getD_eq_getElem?_getD,List.getElem?_eq_getElem h];rfl
def wi64 (n:Int):Prop:=-9223372036854775808≤n∧n≤9223372036854775807
structure Pwf (p:Pln):Prop where
  k:p.key.size≤maxLen
  d:p.deb.size≤maxLen
  c:p.cre.size≤maxLen
  frm:wi64 p.frm
  amt:wi64 p.amt
  num:wi64 p.num
  kind:wi64 p.kind
structure Pat (w:World) (x:Addr) (p:Pln):Prop where
  c0:w.cell? x=some (.string p.key)
  c1:w.cell? ⟨x.block,x.off+1,none⟩=some (.int .i64 p.kind)
  c2:w.cell? ⟨x.block,x.off+2,none⟩=some (.int .i64 p.frm)
  c3:w.cell? ⟨x.block,x.off+3,none⟩=some (.int .i64 p.amt)
  c4:w.cell? ⟨x.block,x.off+4,none⟩=some (.int .i64 p.num)
  c5:w.cell? ⟨x.block,x.off+5,none⟩=some (.string p.deb)
  c6:w.cell? ⟨x.block,x.off+6,none⟩=some (.string p.cre)
theorem Pat.mor {w w':World} {x:Addr} {p:Pln} (h:Pat w x p) (hx:x.block < w.heap.size) (hm:Mor w w'):Pat w' x p:=by
  have hB:=hm.below
  exact ⟨(hB.cell (p:=x) hx).trans h.c0,(hB.cell (p:=⟨x.block,x.off+1,none⟩) hx).trans h.c1,(hB.cell (p:=⟨x.block,x.off+2,none⟩) hx).trans h.c2,(hB.cell (p:=⟨x.block,x.off+3,none⟩) hx).trans h.c3,
    (hB.cell (p:=⟨x.block,x.off+4,none⟩) hx).trans h.c4,(hB.cell (p:=⟨x.block,x.off+5,none⟩) hx).trans h.c5,(hB.cell (p:=⟨x.block,x.off+6,none⟩) hx).trans h.c6⟩
def Ps (w:World) (A:Option Addr) (ps:List Pln):Prop :=
  ps=[]∨∃ x,A=some x∧x.block < w.heap.size∧∀ i,i < ps.length→Pwf (np ps i)∧Pat w (x.add (i*7)) (np ps i)
theorem Ps.mor {w w':World} {A:Option Addr} {ps:List Pln} (h:Ps w A ps) (hm:Mor w w'):Ps w' A ps:=by
  rcases h with h | ⟨x,e,hb,hc⟩
  · exact .inl h
  · exact .inr ⟨x,e,by have:=hm.below.size;omega,fun i hi=>⟨(hc i hi).1,(hc i hi).2.mor (by rw [addb];exact hb) hm⟩⟩
theorem Ps.at_ {w:World} {A:Option Addr} {ps:List Pln} (h:Ps w A ps) (i:Nat) (hi:i < ps.length) :
    ∃ x,A=some x∧x.block < w.heap.size∧Pwf (np ps i)∧Pat w (x.add (i*7)) (np ps i):=by
  rcases h with h | ⟨x,e,hb,hc⟩
  · subst h;simp at hi
  · exact ⟨x,e,hb,hc i hi⟩
set_option maxRecDepth 20000
end Go.Proofs.YtdhbkifpodekcaaGreatDoor
namespace Go.Proofs.YtdhbkifpodekcaaGreatDoor
open Go.ChangeShapes Go.WideShapes Go.ChangeAt Go.RowKit Go.PlainAid
set_option linter.unusedVariables false
set_option maxRecDepth 100000
def TurnedPost2 (w:World) (key:ByteArray) (day:Int) (n:Nat) (ys:List Ln) (e:Ending) (w':World):Prop :=
  ∃ A c,e=.returned (.tuple #[.agg #[.string key,.int .i64 day,.slice A n c],.int .i64 0])∧w'.ownsRow w.heap.size 149 2 (.slice A n c) n (flat pc ys)∧Mor w w'
def TurnedPost (w:World) (key:ByteArray) (day:Int) (n:Nat) (ys:List Ln) (e:Ending) (w':World):Prop :=
  ∃ A c,e=.returned (.tuple #[.agg #[.string key,.int .i64 day,.slice A n c],.int .i64 0])∧Lq w' A n c ys∧Mor w w'
set_option maxRecDepth 100000 in
set_option maxHeartbeats 3200000 in
theorem turned_ok2 (key0:ByteArray) (day0:Int) (A:Option Addr) (n cap:Nat) (xs:List Ln) (key:ByteArray) (day:Int) (w:World) (hk0:key0.size≤maxLen) (hr:Si w A xs) (hn:xs.length=n) (hcap:n≤cap) (hml:n≤maxLen) (hs:∀ i,i < n→(cd xs i).size≤maxLen)
    (hk:key.size≤maxLen) (hc:entc key0 day0 xs=0) (hkb:keyB key=true) (d0:0≤day) (d9:day≤292193) (h12:n≤12) :
    Calls Tryz.prog 130 #[.agg #[.string key0,.int .i64 day0,.slice A n cap],.string key,.int .i64 day] w (TurnedPost2 w key day n (turn xs)):=by
  obtain ⟨i0,hi,hz0,hz1,hz2⟩:=info_parts info_line
  have HC:=Lib.hid (fun w (h:Si w A xs)=>check_any key0 day0 A n cap xs w hk0 h hn hcap hml hs)
  rw [hc] at HC
  have HK:=Lib.hid (fun w=>key_any key w hk)
  rw [hkb] at HK
  have HD:=Lib.hid (fun w=>cis_any day w)
  rw [show (decide (0≤day) && decide (day≤292193))=true by simp;omega] at HD
  have HR:=Lib.hid hr
  have HN:=Lib.hid hn
  obtain ⟨_,_,_,hlc⟩:=entc_ok hc
  have HAB:=Lib.hid (fun k (hk:k < n)=>show -1000000000000≤am xs k∧am xs k≤1000000000000 from by
    have h:=lnAt_ok ((linec_ok hlc).2.2.2 k (by omega))
    exact ⟨h.2.1,h.2.2.1⟩)
  have HS:=Lib.hid hs
  clear hr hs hc hkb hn hlc
  go_enter Tryz.func130,Tryz.ntmps130
  go_wp2_with fail
  refine (HC.out _ HR.out.alloc.alloc).mono ?_
  rintro e w1 ⟨rfl,hm⟩
  obtain ⟨bs,dr,rfl⟩:=hm
  go_wp2_with (first | (go_at_call 161;(with_reducible refine (HK.out _).mono ?_);rintro e w1 ⟨rfl,rfl⟩) | (go_at_call 93;(with_reducible refine (HD.out _).mono ?_);rintro e w1 ⟨rfl,rfl⟩))
  obtain ⟨wB,hwB⟩:∃ wB:World,wB=((more ((w.alloc (.cells #[.string key0,.int .i64 day0,.slice A n cap] 111)).alloc (.cells #[.string { data:=#[] },.int .i64 0,.slice none 0 0] 111)) bs dr).alloc (.cells #[.string key,.int .i64 day,.slice none 0 0] 111)):=⟨_,rfl⟩
  rw [← hwB]
  have hw1:(w.alloc (.cells #[.string key0,.int .i64 day0,.slice A n cap] 111)).heap.size=w.heap.size+1:=by show (w.heap.push _).size=_;rw [Array.size_push]
  obtain ⟨g9,hg9⟩:∃ g,g=w.heap.size+1+1+bs.length:=⟨_,rfl⟩
  obtain ⟨g6,hg6⟩:∃ g,g=w.heap.size+1:=⟨_,rfl⟩
  rw [← hg9,← hg6]
  have hB6:Bk wB g6 111 #[.string { data:=#[] },.int .i64 0,.slice none 0 0]:=by
    rw [hwB,hg6,← hw1];exact ((Bk.new _ _ _).more _ _).alloc _
  have hw2:(more ((w.alloc (.cells #[.string key0,.int .i64 day0,.slice A n cap] 111)).alloc (.cells #[.string { data:=#[] },.int .i64 0,.slice none 0 0] 111)) bs dr).heap.size=g9:=by
    rw [size_more,hg9]
    congr 1
    show ((w.heap.push _).push _).size=_
    rw [Array.size_push,Array.size_push]
  have hB9:Bk wB g9 111 #[.string key,.int .i64 day,.slice none 0 0]:=by
    rw [hwB,← hw2];exact Bk.new _ _ _
  have hMB:Mor w wB:=by rw [hwB];exact ((Mor.refl _).alloc.alloc.more).alloc
  have hne:g6≠g9:=by omega
  have hw6:w.heap.size≤g6:=by omega
  have hw9:w.heap.size≤g9:=by omega
  clear hw1 hw2 hwB hg9 hg6
  obtain ⟨hl6,hl9⟩:g6 < wB.heap.size∧g9 < wB.heap.size:=⟨hB6.lt,hB9.lt⟩
  have HNE:=Lib.hid hne
  clear hne
  have HWB:=Lib.hid (show w.heap.size≤wB.heap.size from hMB.below.size)
  go_loopw [32] (fun i wr=>∃ k:Nat,k≤n∧i=.int .i64 k∧Hid (∃ v,Bk wr g9 111 #[.string key,.int .i64 day,v]∧wr.ownsRow wB.heap.size 149 2 v k (flat pc (turn (xs.take k)))∧Bk wr g6 111 #[.string { data:=#[] },.int .i64 0,.slice none 0 0]∧Below w.heap.size w wr∧wB.heap.size≤wr.heap.size)) (fun i _=>n - (intOf i).toNat)
  case atStart=>exact ⟨0,Nat.zero_le _,rfl,Lib.hid ⟨_,hB9,World.ownsRow_nil _ _ _ _,hB6,hMB.below,Nat.le_refl _⟩⟩
  case round =>
    clear hB6 hB9
    obtain ⟨k,hk,rfl,HQ⟩:=hrel
    obtain ⟨v,b9,ho,b6,hx,hBs⟩:=HQ.out
    obtain ⟨A',c',rfl,hc',_,_⟩:=own_shape ho
    have cz:=b9.cell 2
    simp at cz
    have hl9':g9 < wr.heap.size:=by omega
    by_cases hlt:k < n
    · have hki:(k:Int) < (n:Int):=by omega
      have hk0:(0:Int)≤(k:Int):=by omega
      obtain ⟨x,hA,hxb,c1,c2⟩:=(HR.out.mor (Mor.of_below hx)).at_ k (by rw [HN.out];exact hlt)
      subst hA
      obtain ⟨z1,z2⟩:=HAB.out k hlt
      have HT:=Lib.hid (turn_take xs k (by rw [HN.out];exact hlt))
      have HO:=Lib.hid ho
      have H9:=Lib.hid b9
      have H6:=Lib.hid b6
      have HX:=Lib.hid hx
      generalize cd xs k=s at *
      generalize am xs k=a at *
      clear ho b9 b6 hx HQ
      go_wp2_with (at_builtin;refine wpList_append_own _ rfl _ _ 109 rfl wB.heap.size 149 i0 (.agg #[.string { data:=#[] },.int .i64 0]) 2 24 Tryz.underlying109 hi hz0 hz1 hz2 rfl (by decide) _ _ _ rfl ((HO.out.alloc _).alloc _) ⟨wr.heap.size+1,0,none⟩ 1 1 [.string s,.int .i64 (-a)] rfl rfl ?_ ?_ ?_ ?_ ?_ ?_)
      case refine_6 =>
        intro v' w1 hown' hgrow _
        obtain ⟨A2,c2',rfl,_,_,_⟩:=own_shape hown'
        have hbel:=(Below.refl wB.heap.size ((wr.alloc (.cells #[.string s,.int .i64 (-a)] 149)).alloc (.cells #[.string s,.int .i64 (-a)] 149))).grown hgrow (by show _≤((wr.heap.push _).push _).size;rw [Array.size_push,Array.size_push];omega) (by
          intro j hj
          obtain ⟨_,h | ⟨g,cap,cur,hv,hg,_⟩⟩:=HO.out
          · rw [h.1] at hj;simp [Value.ownBlock] at hj
          · rw [hv] at hj;simp [Value.ownBlock] at hj;omega)
        have b9':=((H9.out.alloc _).alloc _).below hbel hl9
        have b6':=((H6.out.alloc _).alloc _).below hbel hl6
        have cz':=b9'.cell 2
        have fz':=b9'.frozen 2
        simp at cz'
        have HO':=Lib.hid hown'
        have H9':=Lib.hid b9'
        have H6':=Lib.hid b6'
        have HX':=Lib.hid (show Below w.heap.size w w1 from (Below.mono (HX.out.alloc (HX.out.size) _ |>.alloc (by have:=HX.out.size;show _≤(wr.heap.push _).size;rw [Array.size_push];omega) _) (Nat.le_refl _)).trans (Below.mono hbel (by omega)))
        have HSz:=Lib.hid hbel.size
        have hlw:g9 < w1.heap.size:=b9'.lt
        clear hown' hgrow hbel b9' b6'
        go_wp2
        go_roundw
        case rel=>exact ⟨k+1,by omega,by go_num,Lib.hid ⟨.slice A2 (k+1) c2',by have:=H9'.out.set_ 2 (.slice A2 (k+1) c2');simpa using this,own_set (by rw [HT.out,flat_snoc];simpa [pc] using HO'.out) hl9,H6'.out.set_other _ _ _ HNE.out,HX'.out.setCell (p:=⟨g9,2,none⟩) hw9 _,by have:=HSz.out;have e:((wr.alloc (.cells #[.string s,.int .i64 (-a)] 149)).alloc (.cells #[.string s,.int .i64 (-a)] 149)).heap.size=wr.heap.size+1+1:=(by show ((wr.heap.push _).push _).size=_;rw [Array.size_push,Array.size_push]);simp [World.setCell];omega⟩⟩
        case measure=>simp [intOf];omega
      all_goals try (first | (exact rfl) | (intro u hu;simp at hu;rcases hu with rfl | rfl <;> rfl) | (unfold maxLen;omega) | omega | (show _≤((wr.heap.push _).push _).size;rw [Array.size_push,Array.size_push];omega) | (intro j u hj;match j,hj with | 0,hj=>simp at hj;subst hj;simp [Addr.add] | 1,hj=>simp at hj;subst hj;simp [Addr.add]))
    · obtain rfl:k=n:=by omega
      rw [List.take_of_length_le (by rw [HN.out];exact Nat.le_refl _)] at ho
      have k0:=b9.cell 0
      have k1:=b9.cell 1
      have m0:=b6.cell 0
      have m1:=b6.cell 1
      have m2:=b6.cell 2
      have f0:=b6.frozen 0
      have f1:=b6.frozen 1
      have f2:=b6.frozen 2
      simp at k0 k1 m0 m1 m2
      have hl6':g6 < wr.heap.size:=by omega
      have HO:=Lib.hid ho
      have HX:=Lib.hid hx
      have hne:=HNE.out
      have hne':g9≠g6:=fun e=>hne e.symm
      have q0:=(b6.set_ 0 (.string key)).cell 0
      have q1:=((b6.set_ 0 (.string key)).set_ 1 (.int .i64 day)).cell 1
      have q2:=(((b6.set_ 0 (.string key)).set_ 1 (.int .i64 day)).set_ 2 (.slice A' k c')).cell 2
      simp at q0 q1 q2
      clear ho b9 b6 hx HQ
      go_wp2
      (try simp only [Exit.inBlock,Exit.then])
      refine bodyPost_ret (by simp [results,Tryz.results130,go_sem,q0,q1,q2];try rfl) rfl ?_
      exact ⟨A',c',rfl,own_base (own_set (i:=2) (u:=.slice A' k c') (own_set (i:=1) (u:=.int .i64 day) (own_set (i:=0) (u:=.string key) HO.out hl6) hl6) hl6) HWB.out,Mor.of_below (((HX.out.setCell (p:=⟨g6,0,none⟩) hw6 _).setCell (p:=⟨g6,1,none⟩) hw6 _).setCell (p:=⟨g6,2,none⟩) hw6 _)⟩
theorem turned_ok (key0:ByteArray) (day0:Int) (A:Option Addr) (n cap:Nat) (xs:List Ln) (key:ByteArray) (day:Int) (w:World) (hk0:key0.size≤maxLen) (hr:Si w A xs) (hn:xs.length=n) (hcap:n≤cap) (hml:n≤maxLen) (hs:∀ i,i < n→(cd xs i).size≤maxLen)
    (hk:key.size≤maxLen) (hc:entc key0 day0 xs=0) (hkb:keyB key=true) (d0:0≤day) (d9:day≤292193) (h12:n≤12) :
    Calls Tryz.prog 130 #[.agg #[.string key0,.int .i64 day0,.slice A n cap],.string key,.int .i64 day] w (TurnedPost w key day n (turn xs)) :=
  (turned_ok2 key0 day0 A n cap xs key day w hk0 hr hn hcap hml hs hk hc hkb d0 d9 h12).mono (by
    rintro e w' ⟨A',c',h1,h2,h3⟩
    obtain ⟨A9,c9,e9,hq9⟩:=own_lq h2 (by rw [turn_len,hn]) (fun i hi=>by rw [cd_turn];exact hs i hi)
    injection e9 with e1 _ e3
    subst e1 e3
    exact ⟨A',c',h1,hq9,h3⟩)
def turnc (key0:ByteArray) (day0:Int) (xs:List Ln) (key:ByteArray) (day:Int):Int :=
  if entc key0 day0 xs≠0 then entc key0 day0 xs else if keyB key=false then 3 else if day < 0∨292193 < day then 1 else 0
set_option maxHeartbeats 3200000 in
theorem turned_no (key0:ByteArray) (day0:Int) (A:Option Addr) (n cap:Nat) (xs:List Ln) (key:ByteArray) (day:Int) (w:World) (hk0:key0.size≤maxLen) (hr:Si w A xs) (hn:xs.length=n) (hcap:n≤cap) (hml:n≤maxLen) (hs:∀ i,i < n→(cd xs i).size≤maxLen)
    (hk:key.size≤maxLen) (hc:turnc key0 day0 xs key day≠0) :
    Calls Tryz.prog 130 #[.agg #[.string key0,.int .i64 day0,.slice A n cap],.string key,.int .i64 day] w fun e w'=>e=.returned (.tuple #[.agg #[.string { data:=#[] },.int .i64 0,.slice none 0 0],.int .i64 (turnc key0 day0 xs key day)])∧Mor w w':=by
  have HC:=Lib.hid (fun w (h:Si w A xs)=>check_any key0 day0 A n cap xs w hk0 h hn hcap hml hs)
  have HK:=Lib.hid (fun w=>key_any key w hk)
  have HD:=Lib.hid (fun w=>cis_any day w)
  have HR:=Lib.hid hr
  clear hr hs hn
  unfold turnc at hc ⊢
  by_cases h0:entc key0 day0 xs=0
  · rw [h0] at HC
    rw [if_neg (by simp [h0])] at hc ⊢
    cases hkb:keyB key
    · rw [hkb] at HK
      rw [if_pos rfl]
      clear hc h0 hkb
      go_enter Tryz.func130,Tryz.ntmps130
      go_wp2_with (first | (go_at_call 118;(with_reducible refine (HC.out _ HR.out.alloc.alloc).mono ?_);rintro e w1 ⟨rfl,bs,dr,rfl⟩) | (go_at_call 161;(with_reducible refine (HK.out _).mono ?_);rintro e w1 ⟨rfl,rfl⟩))
      go_returns
      exact ⟨rfl,by repeat (first | exact Mor.refl _ | apply Mor.alloc | apply Mor.more | apply Mor.drewN | apply Mor.drew)⟩
    · rw [hkb] at HK hc
      rw [if_neg (by simp)] at hc ⊢
      have hd:day < 0∨292193 < day:=by
        by_cases h:day < 0∨292193 < day
        · exact h
        · rw [if_neg h] at hc;exact absurd rfl hc
      rw [if_pos hd]
      rw [show (decide (0≤day) && decide (day≤292193))=false by simp;omega] at HD
      clear hc h0 hkb hd
      go_enter Tryz.func130,Tryz.ntmps130
      go_wp2_with (first | (go_at_call 118;(with_reducible refine (HC.out _ HR.out.alloc.alloc).mono ?_);rintro e w1 ⟨rfl,bs,dr,rfl⟩) | (go_at_call 161;(with_reducible refine (HK.out _).mono ?_);rintro e w1 ⟨rfl,rfl⟩) | (go_at_call 93;(with_reducible refine (HD.out _).mono ?_);rintro e w1 ⟨rfl,rfl⟩))
      go_returns
      exact ⟨rfl,by repeat (first | exact Mor.refl _ | apply Mor.alloc | apply Mor.more | apply Mor.drewN | apply Mor.drew)⟩
  · rw [if_pos h0]
    generalize entc key0 day0 xs=c at *
    have hb:(c != 0)=true:=by simpa using h0
    clear hc h0
    go_enter Tryz.func130,Tryz.ntmps130
    go_wp2_with ((go_at_call 118;(with_reducible refine (HC.out _ HR.out.alloc.alloc).mono ?_);rintro e w1 ⟨rfl,bs,dr,rfl⟩))
    go_returns
    exact ⟨rfl,by repeat (first | exact Mor.refl _ | apply Mor.alloc | apply Mor.more | apply Mor.drewN | apply Mor.drew)⟩
end Go.Proofs.YtdhbkifpodekcaaGreatDoor
