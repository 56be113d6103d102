/- Texts of this claim. -/
import Derived.Test.YtdhbkifpodekcaaGreatDoorDeskZ1
import Derived.OwnWalk
namespace Go.Proofs.YtdhbkifpodekcaaGreatDoor
open Go.ChangeShapes Go.WideShapes Go.ChangeAt Go.RowKit
set_option linter.unusedVariables false
set_option maxRecDepth 100000
theorem own_drewN {w:World} {B:Nat} {T:TypeId} {s:Nat} {v:Value} {n k:Nat} {xs:List Value} (h:w.ownsRow B T s v n xs):(w.drewN k).ownsRow B T s v n xs:=h
theorem own_stepS {w wr w1:World} {T:TypeId} {s:Nat} {v:Value} {n m:Nat} {xs:List Value} {o:Obj} (hown:wr.ownsRow w.heap.size T s v n xs) (hnx:Below w.heap.size w wr)
    (hgrow:((wr.alloc o).drewN m).grownBy w1 v.ownBlock):Below w.heap.size w w1:=by
  have h1:Below w.heap.size w ((wr.alloc o).drewN m):=bel_dN (hnx.alloc hnx.size o)
  refine h1.grown hgrow h1.size ?_
  intro k hk
  obtain ⟨_,h | ⟨g,cap,cur,rfl,hg,_⟩⟩:=hown
  · rw [h.1] at hk;simp [Value.ownBlock] at hk
  · simp [Value.ownBlock] at hk;omega
theorem Mor.trans {w w1 w2:World} (h:Mor w w1) (h':Mor w1 w2):Mor w w2:=by
  obtain ⟨bs,k,rfl⟩:=h';exact h.more
@[go_sem, simp] theorem drawn_more (w : World) (bs : List Obj) (k : Nat) : (more w bs k).drawn = k := rfl
def Rd (w:World) (A:Option Addr) (vs:List Value):Prop :=
  vs=[]∨∃ b o,A=some ⟨b,o,none⟩∧b < w.heap.size∧∀ i,i < vs.length→w.cell? ⟨b,o+i,none⟩=some (vs.getD i (.int .i64 0))
theorem Rd.more {w:World} {A:Option Addr} {vs:List Value} {bs:List Obj} {k:Nat} (h:Rd w A vs):Rd (more w bs k) A vs:=by
  rcases h with rfl | ⟨b,o,rfl,hb,hc⟩
  · exact .inl rfl
  · exact .inr ⟨b,o,rfl,by rw [size_more];omega,fun i hi=>by rw [cell?_more _ _ _ _ _ hb];exact hc i hi⟩
theorem Rd.mor {w w':World} {A:Option Addr} {vs:List Value} (h:Rd w A vs) (hm:Mor w w'):Rd w' A vs:=by
  obtain ⟨bs,k,rfl⟩:=hm;exact h.more
theorem Rd.own {w:World} {base s n:Nat} {T:TypeId} {A:Option Addr} {c:Nat} {vs:List Value} (h:w.ownsRow base T s (.slice A n c) n vs):Rd w A vs:=by
  obtain ⟨hl,h | ⟨g,cap,cur,hv,hg,hb,h1,h2,h3,h4⟩⟩:=h
  · have:n=0:=h.2
    subst this
    exact .inl (List.eq_nil_of_length_eq_zero (by simpa using hl))
  · injection hv with hA hn hc
    subst hA
    refine .inr ⟨g,0,rfl,?_,fun i hi=>?_⟩
    · rcases Nat.lt_or_ge g w.heap.size with hs | hs
      · exact hs
      · rw [Array.getElem?_eq_none (by omega)] at hb;simp at hb
    · have e:cur[i]?=some (vs.getD i (.int .i64 0)):=by
        have:=congrArg (fun l:List Value=>l[i]?) h4
        simp only [List.getElem?_take] at this
        rw [if_pos (by omega)] at this
        rw [← Array.getElem?_toList,this,List.getD_eq_getElem?_getD,List.getElem?_eq_getElem hi]
        rfl
      rw [Nat.zero_add]
      simp [World.cell?,hb,e]
theorem own_shape {w:World} {base s n:Nat} {T:TypeId} {v:Value} {vs:List Value} (h:w.ownsRow base T s v n vs):∃ A c,v=.slice A n c∧n≤c∧Rd w A vs∧(0 < n→∃ g,A=some ⟨g,0,none⟩∧base≤g):=by
  have h0:=h
  obtain ⟨hl,hh | ⟨g,cap,cur,rfl,hg,hb,h1,h2,h3,h4⟩⟩:=h
  · obtain ⟨rfl,rfl⟩:=hh
    exact ⟨none,0,rfl,Nat.le_refl _,Rd.own h0,fun h=>by omega⟩
  · exact ⟨_,_,rfl,h1,Rd.own h0,fun _=>⟨g,rfl,hg⟩⟩
def flat {α:Type} (f:α→List Value) (xs:List α):List Value:=xs.flatMap f
theorem flat_snoc {α:Type} (f:α→List Value) (xs:List α) (x:α):flat f (xs++[x])=flat f xs++f x:=by simp [flat]
theorem flat_len {α:Type} (f:α→List Value) (s:Nat) (hs:∀ x,(f x).length=s) (xs:List α):(flat f xs).length=xs.length*s:=by
  induction xs with
  | nil=>simp [flat]
  | cons x xs ih =>
    have e:flat f (x :: xs)=f x++flat f xs:=by simp [flat]
    rw [e,List.length_append,ih,hs,List.length_cons,Nat.add_mul];omega
theorem flat_get {α:Type} (f:α→List Value) (s:Nat) (hs:∀ x,(f x).length=s) (xs:List α) (k j:Nat) (hk:k < xs.length) (hj:j < s) (d:Value):(flat f xs).getD (k*s+j) d=(f xs[k]).getD j d:=by
  induction xs generalizing k with
  | nil=>simp at hk
  | cons x xs ih =>
    have e:flat f (x :: xs)=f x++flat f xs:=by simp [flat]
    rw [e]
    cases k with
    | zero =>
      simp only [Nat.zero_mul,Nat.zero_add,List.getElem_cons_zero]
      rw [List.getD_eq_getElem?_getD,List.getD_eq_getElem?_getD,List.getElem?_append_left (by rw [hs];exact hj)]
    | succ k =>
      simp only [List.length_cons] at hk
      simp only [List.getElem_cons_succ]
      rw [← ih k (by omega)]
      rw [List.getD_eq_getElem?_getD,List.getD_eq_getElem?_getD,List.getElem?_append_right (by rw [hs,Nat.add_mul];omega),hs]
      congr 2
      rw [Nat.add_mul];omega
theorem Rd.field {α:Type} {w:World} {A:Option Addr} {f:α→List Value} {xs:List α} (s:Nat) (hs:∀ x,(f x).length=s) (h:Rd w A (flat f xs)) (k:Nat) (hk:k < xs.length) (h1:0 < s) :
    ∃ b o,A=some ⟨b,o,none⟩∧b < w.heap.size∧∀ j,j < s→w.cell? ⟨b,o+k*s+j,none⟩=some ((f xs[k]).getD j (.int .i64 0)):=by
  have hl:=flat_len f s hs xs
  have hks:∀ j,j < s→k*s+j < xs.length*s:=by
    intro j hj
    have:(k+1)*s≤xs.length*s:=Nat.mul_le_mul_right s hk
    rw [Nat.add_mul] at this;omega
  rcases h with e | ⟨b,o,rfl,hb,hc⟩
  · rw [e] at hl
    have h2:=hks 0 h1
    rw [← hl] at h2
    exact absurd h2 (Nat.not_lt_zero _)
  · exact ⟨b,o,rfl,hb,fun j hj=>by rw [Nat.add_assoc,hc _ (by rw [hl];exact hks j hj),flat_get f s hs xs k j hk hj]⟩
end Go.Proofs.YtdhbkifpodekcaaGreatDoor
