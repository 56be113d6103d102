/- Texts of this claim. -/
import Derived.Test.YtdhbkifpodekcaaGreatDoorDeskZ10
import Derived.Deep.RegionLaw
import Derived.Laws.AppendOwn
namespace Go.Proofs.YtdhbkifpodekcaaGreatDoor
open Go.ChangeShapes Go.WideShapes Go.ChangeAt Go.RowKit Go.PlainAid
set_option linter.unusedVariables false
set_option maxRecDepth 100000
theorem own_at {w w':World} {B s n:Nat} {T:TypeId} {v:Value} {xs:List Value} (h:w.ownsRow B T s v n xs) (hb:∀ (g:Nat) (cur:Array Value),w.heap[g]?=some (Obj.cells cur T (0,0))→w'.heap[g]?=w.heap[g]?):w'.ownsRow B T s v n xs:=by
  refine ⟨h.1,?_⟩
  rcases h.2 with hn | ⟨g,cap,cur2,rfl,hg2,hh,rest⟩
  · exact .inl hn
  · exact .inr ⟨g,cap,cur2,rfl,hg2,(hb g _ hh).trans hh,rest⟩
theorem own_setT {w:World} {B s n g i:Nat} {T T':TypeId} {v u:Value} {xs:List Value} {cs:Array Value} (h:w.ownsRow B T s v n xs) (hb:Bk w g T' cs) (hT:T≠T'):(w.setCell ⟨g,i,none⟩ u).ownsRow B T s v n xs :=
  own_at h fun g2 cur hg=>Below.heap_setCell _ _ _ _ (by
    intro e
    simp only at e
    subst e
    unfold Bk at hb
    rw [hb] at hg
    injection hg with hg
    injection hg with _ hg _
    exact hT hg.symm)
theorem Bk.grows {w w':World} {B g s n:Nat} {t T:TypeId} {cs:Array Value} {v:Value} {xs:List Value} (h:Bk w g t cs) (hv:w.ownsRow B T s v n xs) (hg:w.grownBy w' v.ownBlock) (hB:g < B):Bk w' g t cs :=
  (hg.block g h.lt (fun e=>by have:=(own_blk hv e.symm).2.1;omega)).trans h
theorem own_grows {w w':World} {B B' s s' n n':Nat} {T T':TypeId} {v v':Value} {xs xs':List Value} (h:w.ownsRow B T s v n xs) (hv:w.ownsRow B' T' s' v' n' xs') (hg:w.grownBy w' v'.ownBlock) (hT:T≠T'):w'.ownsRow B T s v n xs:=by
  cases hb:v'.ownBlock with
  | none=>rw [hb] at hg;exact own_kept h hg
  | some b =>
    rw [hb] at hg
    obtain ⟨_,_,cur,hc⟩:=own_blk hv hb
    exact own_other h hc hT hg
theorem qe_old (qs:List Ev) (q:Ev) (i:Nat) (h:i < qs.length):qe (qs++[q]) i=qe qs i:=by
  unfold qe;rw [List.getD_eq_getElem?_getD,List.getD_eq_getElem?_getD,List.getElem?_append_left h]
theorem qe_last (qs:List Ev) (q:Ev):qe (qs++[q]) qs.length=q:=by
  unfold qe;rw [List.getD_eq_getElem?_getD,List.getElem?_append_right (Nat.le_refl _),Nat.sub_self];rfl
theorem lit_at {w:World} {b:Nat} (l:List Value) (C:Array Value) (t:TypeId) (hC:C=l.toArray) (hb:b=w.heap.size):∀ (j:Nat) (u:Value),l[j]?=some u→(w.alloc (.cells C t)).cell? ((⟨b,0,none⟩:Addr).add j)=some u:=by
  intro j u hu
  subst hC hb
  rw [adds,Nat.zero_add,(Bk.new w t l.toArray).cell,List.getElem?_toArray]
  exact hu
theorem Bk.growT {w w':World} {B g s n:Nat} {t T:TypeId} {cs:Array Value} {v:Value} {xs:List Value} (h:Bk w g t cs) (hv:w.ownsRow B T s v n xs) (hg:w.grownBy w' v.ownBlock) (hT:t≠T):Bk w' g t cs:=by
  refine (hg.block g h.lt (fun e=>?_)).trans h
  obtain ⟨_,_,cur,hc⟩:=own_blk hv e.symm
  unfold Bk at h
  rw [h] at hc
  injection hc with hc
  injection hc with _ hc _
  exact hT hc
theorem step_append_own {P:Program} {ops:Array Oper} {o:Oper} {a:Act} {w:World} {K:Act→World→Prop} {Q:Exit→Act→World→Prop} {E:Prop} (hgd:o.guard=none) (s x:Operand) (t:TypeId)
    (ho:o.op=.call { callee:=.builtin .append,args:=#[s,x],argTypes:=#[t,t] })
    (base:Nat) (e:TypeId) (i:TypeInfo) (z:Value) (size bytes:Nat) (ht:P.underlying t=some (.slice e)) (hi:P.info? e=some i) (hz:i.zero=some z)
    (hsize:i.size=size) (hby:i.bytes=bytes) (hzs:z.cells.size=size) (hsz:0 < size)
    (v:Value) (n:Nat) (xs:List Value) (hs:a.eval s=v) (hown:w.ownsRow base e size v n xs)
    (ad:Addr) (m c:Nat) (news:List Value) (hx:a.eval x=.slice (some ad) m c) (hl:news.length=m*size) (hnews:∀ j u,news[j]?=some u→w.cell? (ad.add j)=some u) (h1:∀ u∈news,u.oneCell'=true)
    (h63:n+m≤maxLen) (hbytes:(n+m)*bytes≤140737488355328) (hbase:base≤w.heap.size)
    (h:∀ v' w',w'.ownsRow base e size v' (n+m) (xs++news)→w.grownBy w' v.ownBlock→K (a.put o.dst v') w') :
    if Region.wanted o (yielded ops a.tmps)=true then Oper.wp P o a w K Q else E:=by
  have hw:Region.wanted o (yielded ops a.tmps)=true:=by simp [Region.wanted,hgd]
  rw [if_pos hw]
  exact wp_append_own w s x t ho base e i z size bytes ht hi hz hsize hby hzs hsz v n xs hs hown ad m c news hx hl hnews h1 h63 hbytes hbase fun v' w' h2 h3 _=>h v' w' h2 h3
theorem own_step {w wr w1:World} {T:TypeId} {s:Nat} {v:Value} {n:Nat} {xs:List Value} (hown:wr.ownsRow w.heap.size T s v n xs) (hnx:Mor w wr)
    (hgrow:wr.grownBy w1 v.ownBlock):Mor w w1:=by
  refine Mor.of_below (hnx.below.grown hgrow hnx.below.size ?_)
  intro k hk
  obtain ⟨_,h | ⟨g,cap,cur,rfl,hg,_⟩⟩:=hown
  · rw [h.1] at hk;simp [Value.ownBlock] at hk
  · simp [Value.ownBlock] at hk;omega
theorem ne_old (d:List En) (x:En) (i:Nat) (h:i < d.length):ne (d++[x]) i=ne d i:=by
  rw [ne_eq _ _ (by rw [List.length_append];omega),ne_eq _ _ h,List.getElem_append_left h]
theorem ne_last (d:List En) (x:En):ne (d++[x]) d.length=x:=by
  rw [ne_eq _ _ (by rw [List.length_append];simp),List.getElem_append_right (Nat.le_refl _)];simp
end Go.Proofs.YtdhbkifpodekcaaGreatDoor
