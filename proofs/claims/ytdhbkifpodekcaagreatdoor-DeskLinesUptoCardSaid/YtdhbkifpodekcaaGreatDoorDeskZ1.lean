/- Texts of this claim. -/
import Derived.BigQuiet
import Derived.Deep.QuietTactic
import Derived.Handy
import Derived.Lib.Hide
import Derived.OpenShut
import Derived.Outline
import Derived.PlainAid
import Derived.ProofKit
import Derived.RegionTactic
import Derived.WalkKit
namespace Go.Proofs.YtdhbkifpodekcaaGreatDoor
open Go.ChangeShapes Go.WideShapes Go.ChangeAt Go.RowKit
set_option maxRecDepth 100000
theorem ret_i {k:IntKind} {a b:Int} (h:a=b):Ending.returned (.int k a)=.returned (.int k b):=by rw [h]
@[go_sem, simp] theorem alloc_drewN (w : World) (k : Nat) (o : Obj) : (w.drewN k).alloc o = (w.alloc o).drewN k := rfl
@[go_sem, simp] theorem setCell_drewN (w : World) (k : Nat) (a : Addr) (v : Value) : (w.drewN k).setCell a v = (w.setCell a v).drewN k := rfl
theorem quiet_eq {P:Program} {f:FuncId} {args:Array Value} {w:World} {n:Nat} {v:Value} (h:Calls P f args (w.drewN n) fun e w'=>e=.returned v∧w.drewN n=w') :
    Calls P f args (w.drewN n) fun e w''=>e=.returned v∧∃ m,w''=w.drewN m :=
  h.mono fun _ _ ⟨he,hm⟩=>⟨he,n,hm.symm⟩
theorem bel_dN {B:Nat} {w w':World} {k:Nat} (h:Below B w w'):Below B w (w'.drewN k):=⟨h.os,h.tape,h.output,h.size,h.block⟩
def more (w:World) (bs:List Obj) (k:Nat):World:={ w with heap:=w.heap++bs.toArray,drawn:=k }
theorem more_nil (w:World) (k:Nat):more w [] (w.drawn+k)=w.drewN k:=by simp [more,World.drewN]
theorem more_zero (w:World):w=more w [] w.drawn:=by simp [more]
theorem more_alloc (w:World) (bs:List Obj) (k:Nat) (o:Obj):(more w bs k).alloc o=more w (bs++[o]) k:=by
  simp [more,World.alloc]
theorem more_drewN (w:World) (bs:List Obj) (k n:Nat):(more w bs k).drewN n=more w bs (k+n):=by
  simp [more,World.drewN]
theorem more_drew (w:World) (bs:List Obj) (k:Nat):(more w bs k).drew=more w bs (k+1):=by
  simp [more,World.drew]
@[go_sem, simp] theorem drewN_more (w : World) (bs : List Obj) (k n : Nat) : more (w.drewN n) bs k = more w bs k := by
  simp [more,World.drewN]
@[go_sem, simp] theorem drew_more (w : World) (bs : List Obj) (k : Nat) : more w.drew bs k = more w bs k := by
  show ({ w with heap:=w.heap++bs.toArray,drawn:=k }:World)={ w with heap:=w.heap++bs.toArray,drawn:=k }
  rfl
@[go_sem, simp] theorem more_more (w : World) (bs cs : List Obj) (k n : Nat) : more (more w bs k) cs n = more w (bs ++ cs) n := by
  simp [more]
theorem more_of_below {w w':World} (h:Below w.heap.size w w'):∃ bs,w'=more w bs w'.drawn:=by
  refine ⟨w'.heap.toList.drop w.heap.size,?_⟩
  have e:w'.heap=w.heap++(w'.heap.toList.drop w.heap.size).toArray:=by
    apply Array.ext_getElem?
    intro i
    rw [Array.getElem?_append]
    by_cases hi:i < w.heap.size
    · rw [if_pos hi,h.block i hi]
    · rw [if_neg hi]
      simp only [List.getElem?_toArray,List.getElem?_drop,Array.getElem?_toList]
      rw [show w.heap.size+(i - w.heap.size)=i by omega]
  obtain ⟨heap,tape,drawn,os,output⟩:=w
  obtain ⟨heap',tape',drawn',os',output'⟩:=w'
  have h1:=h.os
  have h2:=h.tape
  have h3:=h.output
  simp only at h1 h2 h3 e
  subst h1 h2 h3
  simp only [more,World.mk.injEq,and_true]
  exact e
@[go_sem, simp] theorem size_more (w : World) (bs : List Obj) (k : Nat) : (more w bs k).heap.size = w.heap.size + bs.length := by
  simp [more]
theorem block_more (w:World) (bs:List Obj) (k i:Nat) (h:i < w.heap.size):(more w bs k).heap[i]?=w.heap[i]?:=by
  simp [more,Array.getElem?_append_left h]
theorem block_more_new (w:World) (bs:List Obj) (k j:Nat):(more w bs k).heap[w.heap.size+j]?=bs[j]?:=by
  simp only [more]
  rw [Array.getElem?_append_right (by omega)]
  simp
@[go_sem] theorem cell?_more (w : World) (bs : List Obj) (k n i : Nat) (h : n < w.heap.size) : (more w bs k).cell? ⟨n, i, none⟩ = w.cell? ⟨n, i, none⟩ :=
  World.cell?_of_block (block_more w bs k n h)
@[go_sem] theorem frozen?_more (w : World) (bs : List Obj) (k n i : Nat) (h : n < w.heap.size) : (more w bs k).frozen? ⟨n, i, none⟩ = w.frozen? ⟨n, i, none⟩ :=
  World.frozen?_of_block (block_more w bs k n h)
@[go_sem] theorem setCell_more (w : World) (bs : List Obj) (k n i : Nat) (v : Value) (h : n < w.heap.size) : (more w bs k).setCell ⟨n, i, none⟩ v = more (w.setCell ⟨n, i, none⟩ v) bs k := by
  simp only [more,World.setCell]
  congr 1
  apply Array.ext_getElem?
  intro j
  simp only [Array.getElem?_modify,Array.getElem?_append,Array.size_modify]
  by_cases hj:j=n
  · subst hj;simp [h]
  · have:¬ n=j:=fun e=>hj e.symm
    simp [this]
@[go_sem] theorem blt0 (a : Nat) : (a < a + 1) = True := eq_true (by omega)
@[go_sem] theorem bne0 (a : Nat) : (a = a + 1) = False := eq_false (by omega)
@[go_sem] theorem bnf0 (a : Nat) : (a + 1 = a) = False := eq_false (by omega)
@[go_sem] theorem blt1 (a x0 : Nat) : (a < a + 1 + x0) = True := eq_true (by omega)
@[go_sem] theorem bne1 (a x0 : Nat) : (a = a + 1 + x0) = False := eq_false (by omega)
@[go_sem] theorem bnf1 (a x0 : Nat) : (a + 1 + x0 = a) = False := eq_false (by omega)
@[go_sem] theorem blt2 (a x0 x1 : Nat) : (a < a + 1 + x0 + x1) = True := eq_true (by omega)
@[go_sem] theorem bne2 (a x0 x1 : Nat) : (a = a + 1 + x0 + x1) = False := eq_false (by omega)
@[go_sem] theorem bnf2 (a x0 x1 : Nat) : (a + 1 + x0 + x1 = a) = False := eq_false (by omega)
@[go_sem] theorem blt3 (a x0 x1 x2 : Nat) : (a < a + 1 + x0 + x1 + x2) = True := eq_true (by omega)
@[go_sem] theorem bne3 (a x0 x1 x2 : Nat) : (a = a + 1 + x0 + x1 + x2) = False := eq_false (by omega)
@[go_sem] theorem bnf3 (a x0 x1 x2 : Nat) : (a + 1 + x0 + x1 + x2 = a) = False := eq_false (by omega)
@[go_sem] theorem blt4 (a x0 x1 x2 x3 : Nat) : (a < a + 1 + x0 + x1 + x2 + x3) = True := eq_true (by omega)
@[go_sem] theorem bne4 (a x0 x1 x2 x3 : Nat) : (a = a + 1 + x0 + x1 + x2 + x3) = False := eq_false (by omega)
@[go_sem] theorem bnf4 (a x0 x1 x2 x3 : Nat) : (a + 1 + x0 + x1 + x2 + x3 = a) = False := eq_false (by omega)
@[go_sem] theorem blt5 (a x0 x1 x2 x3 x4 : Nat) : (a < a + 1 + x0 + x1 + x2 + x3 + x4) = True := eq_true (by omega)
@[go_sem] theorem bne5 (a x0 x1 x2 x3 x4 : Nat) : (a = a + 1 + x0 + x1 + x2 + x3 + x4) = False := eq_false (by omega)
@[go_sem] theorem bnf5 (a x0 x1 x2 x3 x4 : Nat) : (a + 1 + x0 + x1 + x2 + x3 + x4 = a) = False := eq_false (by omega)
@[go_sem] theorem blt6 (a x0 x1 x2 x3 x4 x5 : Nat) : (a < a + 1 + x0 + x1 + x2 + x3 + x4 + x5) = True := eq_true (by omega)
@[go_sem] theorem bne6 (a x0 x1 x2 x3 x4 x5 : Nat) : (a = a + 1 + x0 + x1 + x2 + x3 + x4 + x5) = False := eq_false (by omega)
@[go_sem] theorem bnf6 (a x0 x1 x2 x3 x4 x5 : Nat) : (a + 1 + x0 + x1 + x2 + x3 + x4 + x5 = a) = False := eq_false (by omega)
@[go_sem] theorem blt7 (a x0 x1 x2 x3 x4 x5 x6 : Nat) : (a < a + 1 + x0 + x1 + x2 + x3 + x4 + x5 + x6) = True := eq_true (by omega)
@[go_sem] theorem bne7 (a x0 x1 x2 x3 x4 x5 x6 : Nat) : (a = a + 1 + x0 + x1 + x2 + x3 + x4 + x5 + x6) = False := eq_false (by omega)
@[go_sem] theorem bnf7 (a x0 x1 x2 x3 x4 x5 x6 : Nat) : (a + 1 + x0 + x1 + x2 + x3 + x4 + x5 + x6 = a) = False := eq_false (by omega)
@[go_sem] theorem blt8 (a x0 x1 x2 x3 x4 x5 x6 x7 : Nat) : (a < a + 1 + x0 + x1 + x2 + x3 + x4 + x5 + x6 + x7) = True := eq_true (by omega)
@[go_sem] theorem bne8 (a x0 x1 x2 x3 x4 x5 x6 x7 : Nat) : (a = a + 1 + x0 + x1 + x2 + x3 + x4 + x5 + x6 + x7) = False := eq_false (by omega)
@[go_sem] theorem bnf8 (a x0 x1 x2 x3 x4 x5 x6 x7 : Nat) : (a + 1 + x0 + x1 + x2 + x3 + x4 + x5 + x6 + x7 = a) = False := eq_false (by omega)
@[go_sem] theorem blt9 (a x0 x1 x2 x3 x4 x5 x6 x7 x8 : Nat) : (a < a + 1 + x0 + x1 + x2 + x3 + x4 + x5 + x6 + x7 + x8) = True := eq_true (by omega)
@[go_sem] theorem bne9 (a x0 x1 x2 x3 x4 x5 x6 x7 x8 : Nat) : (a = a + 1 + x0 + x1 + x2 + x3 + x4 + x5 + x6 + x7 + x8) = False := eq_false (by omega)
@[go_sem] theorem bnf9 (a x0 x1 x2 x3 x4 x5 x6 x7 x8 : Nat) : (a + 1 + x0 + x1 + x2 + x3 + x4 + x5 + x6 + x7 + x8 = a) = False := eq_false (by omega)
@[go_sem] theorem blt10 (a x0 x1 x2 x3 x4 x5 x6 x7 x8 x9 : Nat) : (a < a + 1 + x0 + x1 + x2 + x3 + x4 + x5 + x6 + x7 + x8 + x9) = True := eq_true (by omega)
@[go_sem] theorem bne10 (a x0 x1 x2 x3 x4 x5 x6 x7 x8 x9 : Nat) : (a = a + 1 + x0 + x1 + x2 + x3 + x4 + x5 + x6 + x7 + x8 + x9) = False := eq_false (by omega)
@[go_sem] theorem bnf10 (a x0 x1 x2 x3 x4 x5 x6 x7 x8 x9 : Nat) : (a + 1 + x0 + x1 + x2 + x3 + x4 + x5 + x6 + x7 + x8 + x9 = a) = False := eq_false (by omega)
@[go_sem] theorem blt11 (a x0 x1 x2 x3 x4 x5 x6 x7 x8 x9 x10 : Nat) : (a < a + 1 + x0 + x1 + x2 + x3 + x4 + x5 + x6 + x7 + x8 + x9 + x10) = True := eq_true (by omega)
@[go_sem] theorem bne11 (a x0 x1 x2 x3 x4 x5 x6 x7 x8 x9 x10 : Nat) : (a = a + 1 + x0 + x1 + x2 + x3 + x4 + x5 + x6 + x7 + x8 + x9 + x10) = False := eq_false (by omega)
@[go_sem] theorem bnf11 (a x0 x1 x2 x3 x4 x5 x6 x7 x8 x9 x10 : Nat) : (a + 1 + x0 + x1 + x2 + x3 + x4 + x5 + x6 + x7 + x8 + x9 + x10 = a) = False := eq_false (by omega)
@[go_sem] theorem blt12 (a x0 x1 x2 x3 x4 x5 x6 x7 x8 x9 x10 x11 : Nat) : (a < a + 1 + x0 + x1 + x2 + x3 + x4 + x5 + x6 + x7 + x8 + x9 + x10 + x11) = True := eq_true (by omega)
@[go_sem] theorem bne12 (a x0 x1 x2 x3 x4 x5 x6 x7 x8 x9 x10 x11 : Nat) : (a = a + 1 + x0 + x1 + x2 + x3 + x4 + x5 + x6 + x7 + x8 + x9 + x10 + x11) = False := eq_false (by omega)
@[go_sem] theorem bnf12 (a x0 x1 x2 x3 x4 x5 x6 x7 x8 x9 x10 x11 : Nat) : (a + 1 + x0 + x1 + x2 + x3 + x4 + x5 + x6 + x7 + x8 + x9 + x10 + x11 = a) = False := eq_false (by omega)
@[go_sem] theorem blt13 (a x0 x1 x2 x3 x4 x5 x6 x7 x8 x9 x10 x11 x12 : Nat) : (a < a + 1 + x0 + x1 + x2 + x3 + x4 + x5 + x6 + x7 + x8 + x9 + x10 + x11 + x12) = True := eq_true (by omega)
@[go_sem] theorem bne13 (a x0 x1 x2 x3 x4 x5 x6 x7 x8 x9 x10 x11 x12 : Nat) : (a = a + 1 + x0 + x1 + x2 + x3 + x4 + x5 + x6 + x7 + x8 + x9 + x10 + x11 + x12) = False := eq_false (by omega)
@[go_sem] theorem bnf13 (a x0 x1 x2 x3 x4 x5 x6 x7 x8 x9 x10 x11 x12 : Nat) : (a + 1 + x0 + x1 + x2 + x3 + x4 + x5 + x6 + x7 + x8 + x9 + x10 + x11 + x12 = a) = False := eq_false (by omega)
@[go_sem] theorem blt14 (a x0 x1 x2 x3 x4 x5 x6 x7 x8 x9 x10 x11 x12 x13 : Nat) : (a < a + 1 + x0 + x1 + x2 + x3 + x4 + x5 + x6 + x7 + x8 + x9 + x10 + x11 + x12 + x13) = True := eq_true (by omega)
@[go_sem] theorem bne14 (a x0 x1 x2 x3 x4 x5 x6 x7 x8 x9 x10 x11 x12 x13 : Nat) : (a = a + 1 + x0 + x1 + x2 + x3 + x4 + x5 + x6 + x7 + x8 + x9 + x10 + x11 + x12 + x13) = False := eq_false (by omega)
@[go_sem] theorem bnf14 (a x0 x1 x2 x3 x4 x5 x6 x7 x8 x9 x10 x11 x12 x13 : Nat) : (a + 1 + x0 + x1 + x2 + x3 + x4 + x5 + x6 + x7 + x8 + x9 + x10 + x11 + x12 + x13 = a) = False := eq_false (by omega)
def Mor (w w':World):Prop:=∃ bs k,w'=more w bs k
theorem Mor.refl (w:World):Mor w w:=⟨[],w.drawn,more_zero w⟩
theorem Mor.of_below {w w':World} (h:Below w.heap.size w w'):Mor w w':=by
  obtain ⟨bs,e⟩:=more_of_below h;exact ⟨bs,_,e⟩
theorem Mor.drewN {w w':World} {k:Nat} (h:Mor w w'):Mor w (w'.drewN k):=by
  obtain ⟨bs,n,rfl⟩:=h;exact ⟨bs,n+k,more_drewN ..⟩
theorem Mor.drew {w w':World} (h:Mor w w'):Mor w w'.drew:=by
  obtain ⟨bs,n,rfl⟩:=h;exact ⟨bs,n+1,more_drew ..⟩
theorem Mor.alloc {w w':World} {o:Obj} (h:Mor w w'):Mor w (w'.alloc o):=by
  obtain ⟨bs,n,rfl⟩:=h;exact ⟨bs++[o],n,more_alloc ..⟩
theorem Mor.more {w w':World} {bs:List Obj} {k:Nat} (h:Mor w w'):Mor w (more w' bs k):=by
  obtain ⟨cs,n,rfl⟩:=h;exact ⟨_,_,more_more ..⟩
theorem Mor.below {w w':World} (h:Mor w w'):Below w.heap.size w w':=by
  obtain ⟨bs,k,rfl⟩:=h
  exact ⟨rfl,rfl,rfl,by rw [size_more];omega,fun i hi=>block_more w bs k i hi⟩
end Go.Proofs.YtdhbkifpodekcaaGreatDoor
namespace Go.Proofs.YtdhbkifpodekcaaGreatDoor
open Go.ChangeShapes Go.WideShapes Go.ChangeAt Go.RowKit
set_option linter.unusedVariables false
set_option maxRecDepth 100000
theorem Mor.trans' {w w1 w2:World} (h:Mor w w1) (h':Mor w1 w2):Mor w w2:=by
  obtain ⟨bs,k,rfl⟩:=h';exact h.more
theorem addb (x:Addr) (i:Nat):(x.add i).block=x.block:=by unfold Addr.add;split <;> rfl
theorem adds (b o i:Nat):(⟨b,o,none⟩:Addr).add i=⟨b,o+i,none⟩:=by
  unfold Addr.add;split
  · subst_vars;rfl
  · rfl
end Go.Proofs.YtdhbkifpodekcaaGreatDoor
namespace Go.Proofs.YtdhbkifpodekcaaGreatDoor
open Go.ChangeShapes Go.WideShapes Go.ChangeAt Go.RowKit
set_option linter.unusedVariables false
set_option maxRecDepth 100000
def Bk (w:World) (g:Nat) (t:TypeId) (cs:Array Value):Prop:=w.heap[g]?=some (.cells cs t (0,0))
section
variable {w w' : World} {g : Nat} {t : TypeId} {cs : Array Value}
theorem Bk.lt (h:Bk w g t cs):g < w.heap.size:=by
  rcases Nat.lt_or_ge g w.heap.size with hlt | hge
  · exact hlt
  · unfold Bk at h;rw [Array.getElem?_eq_none hge] at h;cases h
theorem Bk.cell (h:Bk w g t cs) (i:Nat):w.cell? ⟨g,i,none⟩=cs[i]?:=by
  unfold Bk at h
  simp [World.cell?,h]
theorem Bk.frozen (h:Bk w g t cs) (i:Nat):w.frozen? ⟨g,i,none⟩=false:=by
  unfold Bk at h
  simp [World.frozen?,h]
theorem Bk.new (w:World) (t:TypeId) (cs:Array Value):Bk (w.alloc (.cells cs t)) w.heap.size t cs:=heap_alloc_new w _
theorem Bk.drewN (h:Bk w g t cs) (n:Nat):Bk (w.drewN n) g t cs:=h
theorem Bk.drew (h:Bk w g t cs):Bk w.drew g t cs:=h
theorem Bk.alloc (h:Bk w g t cs) (o:Obj):Bk (w.alloc o) g t cs:=(Below.heap_alloc w o g h.lt).trans h
theorem Bk.more (h:Bk w g t cs) (bs:List Obj) (k:Nat):Bk (Go.Proofs.YtdhbkifpodekcaaGreatDoor.more w bs k) g t cs:=(block_more w bs k g h.lt).trans h
theorem Bk.set_ (h:Bk w g t cs) (i:Nat) (u:Value):Bk (w.setCell ⟨g,i,none⟩ u) g t (cs.setIfInBounds i u):=by
  unfold Bk at h ⊢
  simp [World.setCell,Array.getElem?_modify,h]
theorem Bk.set_other (h:Bk w g t cs) (g' i:Nat) (u:Value) (hg:g≠g'):Bk (w.setCell ⟨g',i,none⟩ u) g t cs:=(Below.heap_setCell _ _ _ _ hg).trans h
theorem Bk.below {B:Nat} (h:Bk w g t cs) (hb:Below B w w') (hg:g < B):Bk w' g t cs:=(hb.block g hg).trans h
theorem Bk.mor (h:Bk w g t cs) (hm:Mor w w'):Bk w' g t cs:=h.below hm.below h.lt
end
end Go.Proofs.YtdhbkifpodekcaaGreatDoor
namespace Go.Proofs.YtdhbkifpodekcaaGreatDoor.Stb
set_option linter.unusedVariables false
set_option maxRecDepth 100000
set_option linter.unusedSectionVars false
section
variable {α : Type} (key : α → Int)
def Srt (xs:List α):Prop:=xs.Pairwise (fun a b=>key a≤key b)
def Same (xs ys:List α):Prop:=∀ k,xs.filter (fun x=>decide (key x=k))=ys.filter (fun x=>decide (key x=k))
variable {key}
theorem Same.refl (xs:List α):Same key xs xs:=fun _=>rfl
theorem Same.symm {xs ys:List α} (h:Same key xs ys):Same key ys xs:=fun k=>(h k).symm
theorem Same.trans {xs ys zs:List α} (h:Same key xs ys) (h':Same key ys zs):Same key xs zs:=fun k=>(h k).trans (h' k)
theorem Same.append {a b c d:List α} (h:Same key a b) (h':Same key c d):Same key (a++c) (b++d):=fun k=>by
  rw [List.filter_append,List.filter_append,h k,h' k]
theorem Same.mem {xs ys:List α} (h:Same key xs ys) {x:α} (hx:x∈xs):x∈ys:=by
  have h1:x∈xs.filter (fun y=>decide (key y=key x)):=List.mem_filter.2 ⟨hx,by simp⟩
  rw [h (key x)] at h1
  exact (List.mem_filter.1 h1).1
theorem Same.swap {X Y:List α} (h:∀ x∈X,∀ y∈Y,key y < key x):Same key (X++Y) (Y++X):=fun k=>by
  rw [List.filter_append,List.filter_append]
  by_cases hx:∃ x∈X,key x=k
  · obtain ⟨x,hx,e⟩:=hx
    have:Y.filter (fun y=>decide (key y=k))=[]:=List.filter_eq_nil_iff.2 fun y hy=>by
      have:=h x hx y hy
      simp;omega
    rw [this];simp
  · have:X.filter (fun y=>decide (key y=k))=[]:=List.filter_eq_nil_iff.2 fun y hy=>by
      simp;intro e;exact hx ⟨y,hy,e⟩
    rw [this];simp
theorem Same.cons_inv {x:α} {xs ys:List α} (h:Same key (x :: xs) (x :: ys)):Same key xs ys:=fun k=>by
  have:=h k
  by_cases e:key x=k
  · rw [List.filter_cons_of_pos (by simpa using e),List.filter_cons_of_pos (by simpa using e)] at this
    injection this
  · rw [List.filter_cons_of_neg (by simpa using e),List.filter_cons_of_neg (by simpa using e)] at this
    exact this
theorem Srt.unique {xs ys:List α} (hx:Srt key xs) (hy:Srt key ys) (h:Same key xs ys):xs=ys:=by
  induction xs generalizing ys with
  | nil =>
    cases ys with
    | nil=>rfl
    | cons y ys=>exact absurd (h.symm.mem (List.mem_cons_self)) (by simp)
  | cons x xs ih =>
    cases ys with
    | nil=>exact absurd (h.mem (List.mem_cons_self)) (by simp)
    | cons y ys =>
      unfold Srt at hx hy
      rw [List.pairwise_cons] at hx hy
      have m1:x∈y :: ys:=h.mem List.mem_cons_self
      have m2:y∈x :: xs:=h.symm.mem List.mem_cons_self
      have k1:key y≤key x:=by
        rcases List.mem_cons.1 m1 with e | e
        · rw [e];exact Int.le_refl _
        · exact hy.1 x e
      have k2:key x≤key y:=by
        rcases List.mem_cons.1 m2 with e | e
        · rw [e];exact Int.le_refl _
        · exact hx.1 y e
      have h0:=h (key x)
      rw [List.filter_cons_of_pos (by simp),List.filter_cons_of_pos (by simp;omega)] at h0
      injection h0 with e _
      subst e
      rw [ih hx.2 hy.2 h.cons_inv]
theorem Srt.append {X Y:List α}:Srt key (X++Y)↔Srt key X∧Srt key Y∧∀ x∈X,∀ y∈Y,key x≤key y:=List.pairwise_append
def seg (xs:List α) (a b:Nat):List α:=(xs.take b).drop a
theorem seg_len (xs:List α) (a b:Nat) (h:b≤xs.length):(seg xs a b).length=b - a:=by
  unfold seg;rw [List.length_drop,List.length_take];omega
theorem seg_get (xs:List α) (a b i:Nat):(seg xs a b)[i]?=if a+i < b then xs[a+i]? else none:=by
  unfold seg;rw [List.getElem?_drop,List.getElem?_take]
theorem seg_split (xs:List α) {a m b:Nat} (h1:a≤m) (h2:m≤b):seg xs a b=seg xs a m++seg xs m b:=by
  unfold seg
  by_cases hl:m≤xs.length
  · have:xs.take b=xs.take m++(xs.take b).drop m:=by
      conv=>lhs;rw [← List.take_append_drop m (xs.take b)]
      rw [List.take_take,Nat.min_eq_left h2]
    conv=>lhs;rw [this]
    rw [List.drop_append_of_le_length (by rw [List.length_take];omega)]
  · rw [List.take_of_length_le (show xs.length≤b by omega),List.take_of_length_le (show xs.length≤m by omega),List.drop_of_length_le (show xs.length≤m by omega),List.append_nil]
theorem seg_nil (xs:List α) {a b:Nat} (h:b≤a):seg xs a b=[]:=by
  unfold seg;exact List.drop_of_length_le (by rw [List.length_take];omega)
theorem seg_all (xs:List α) {n:Nat} (h:xs.length=n):seg xs 0 n=xs:=by
  unfold seg;rw [List.drop_zero,List.take_of_length_le (by omega)]
variable [Inhabited α]
def ge (xs:List α) (i:Nat):α:=xs.getD i default
theorem ge_some {xs:List α} {i:Nat} (h:i < xs.length):xs[i]?=some (ge xs i):=by
  unfold ge;rw [List.getD_eq_getElem?_getD,List.getElem?_eq_getElem h];rfl
theorem mem_seg {xs:List α} {a b:Nat} (hb:b≤xs.length) {x:α}:x∈seg xs a b↔∃ i,a≤i∧i < b∧ge xs i=x:=by
  rw [List.mem_iff_getElem?]
  constructor
  · rintro ⟨i,h⟩
    rw [seg_get] at h
    split at h
    · rw [ge_some (by omega)] at h
      injection h with h
      exact ⟨a+i,by omega,by assumption,h⟩
    · cases h
  · rintro ⟨i,h1,h2,h3⟩
    refine ⟨i - a,?_⟩
    rw [seg_get,show a+(i - a)=i by omega,if_pos h2,ge_some (by omega),h3]
theorem srt_seg {xs:List α} {a b:Nat} (hb:b≤xs.length):Srt key (seg xs a b)↔∀ i j,a≤i→i < j→j < b→key (ge xs i)≤key (ge xs j):=by
  unfold Srt
  rw [List.pairwise_iff_getElem]
  constructor
  · intro h i j h1 h2 h3
    have l:=seg_len xs a b hb
    have:=h (i - a) (j - a) (by omega) (by omega) (by omega)
    have e1:(seg xs a b)[i - a]?=some (ge xs i):=by rw [seg_get,show a+(i - a)=i by omega,if_pos (by omega),ge_some (by omega)]
    have e2:(seg xs a b)[j - a]?=some (ge xs j):=by rw [seg_get,show a+(j - a)=j by omega,if_pos (by omega),ge_some (by omega)]
    rw [List.getElem?_eq_getElem (by omega)] at e1 e2
    injection e1 with e1
    injection e2 with e2
    rw [e1,e2] at this;exact this
  · intro h i j hi hj hij
    have l:=seg_len xs a b hb
    have e1:(seg xs a b)[i]?=some (ge xs (a+i)):=by rw [seg_get,if_pos (by omega),ge_some (by omega)]
    have e2:(seg xs a b)[j]?=some (ge xs (a+j)):=by rw [seg_get,if_pos (by omega),ge_some (by omega)]
    rw [List.getElem?_eq_getElem (by omega)] at e1 e2
    injection e1 with e1
    injection e2 with e2
    rw [e1,e2];exact h _ _ (by omega) (by omega) (by omega)
structure Chg (xs ys:List α) (a b:Nat):Prop where
  len:ys.length=xs.length
  out:∀ i,(i < a∨b≤i)→ys[i]?=xs[i]?
theorem Chg.refl (xs:List α) (a b:Nat):Chg xs xs a b:=⟨rfl,fun _ _=>rfl⟩
theorem Chg.trans {xs ys zs:List α} {a b:Nat} (h:Chg xs ys a b) (h':Chg ys zs a b):Chg xs zs a b:=⟨h'.len.trans h.len,fun i hi=>(h'.out i hi).trans (h.out i hi)⟩
theorem Chg.wide {xs ys:List α} {a b a' b':Nat} (h:Chg xs ys a b) (h1:a'≤a) (h2:b≤b'):Chg xs ys a' b':=⟨h.len,fun i hi=>h.out i (by omega)⟩
theorem Chg.seg {xs ys:List α} {a b c d:Nat} (h:Chg xs ys a b) (hcd:d≤a∨b≤c):seg ys c d=Stb.seg xs c d:=by
  apply List.ext_getElem?
  intro i
  rw [seg_get,seg_get]
  split
  · exact h.out _ (by omega)
  · rfl
structure Mg (key:α→Int) (xs ys:List α) (a b:Nat):Prop where
  chg:Chg xs ys a b
  srt:Srt key (seg ys a b)
  same:Same key (seg ys a b) (seg xs a b)
def rix (s m e i:Nat):Nat:=if i < s∨e≤i then i else if i < s+(e - m) then i+(m - s) else i - (e - m)
structure Rot (xs ys:List α) (s m e:Nat):Prop where
  len:ys.length=xs.length
  at_:∀ i,ys[i]?=xs[rix s m e i]?
theorem Rot.chg {xs ys:List α} {s m e:Nat} (h:Rot xs ys s m e):Chg xs ys s e:=⟨h.len,fun i hi=>by rw [h.at_,rix,if_pos hi]⟩
theorem Rot.lo {xs ys:List α} {s m e:Nat} (h:Rot xs ys s m e) (h1:s≤m) (h2:m≤e):seg ys s (s+(e - m))=seg xs m e:=by
  apply List.ext_getElem?
  intro i
  rw [seg_get,seg_get,h.at_]
  by_cases c:s+i < s+(e - m)
  · rw [if_pos c,if_pos (by omega),rix,if_neg (by omega),if_pos c];congr 1;omega
  · rw [if_neg c,if_neg (by omega)]
theorem Rot.hi {xs ys:List α} {s m e:Nat} (h:Rot xs ys s m e) (h1:s≤m) (h2:m≤e):seg ys (s+(e - m)) e=seg xs s m:=by
  apply List.ext_getElem?
  intro i
  rw [seg_get,seg_get,h.at_]
  by_cases c:s+(e - m)+i < e
  · rw [if_pos c,if_pos (by omega),rix,if_neg (by omega),if_neg (by omega)];congr 1;omega
  · rw [if_neg c,if_neg (by omega)]
theorem Rot.none_l (xs:List α) (s e:Nat) (h:s≤e):Rot xs xs s s e:=⟨rfl,fun i=>by congr 1;unfold rix;split <;> (try split) <;> omega⟩
theorem Rot.none_r (xs:List α) (s e:Nat) (h:s≤e):Rot xs xs s e e:=⟨rfl,fun i=>by congr 1;unfold rix;split <;> (try split) <;> omega⟩
def swp (xs:List α) (i j:Nat):List α:=(xs.set i (ge xs j)).set j (ge xs i)
theorem swp_len (xs:List α) (i j:Nat):(swp xs i j).length=xs.length:=by simp [swp]
theorem swp_get (xs:List α) (i j k:Nat) (hi:i < xs.length) (hj:j < xs.length):(swp xs i j)[k]?=xs[if k=i then j else if k=j then i else k]?:=by
  unfold swp
  rw [List.getElem?_set,List.getElem?_set,List.length_set]
  by_cases h1:j=k
  · subst h1
    rw [if_pos rfl,if_pos hj]
    by_cases h2:j=i
    · rw [if_pos h2,ge_some hj,h2]
    · rw [if_neg h2,if_pos rfl,ge_some hi]
  · rw [if_neg h1]
    by_cases h2:i=k
    · subst h2;rw [if_pos rfl,if_pos hi,if_pos rfl,ge_some hj]
    · rw [if_neg h2,if_neg (Ne.symm h2),if_neg (Ne.symm h1)]
theorem Rot.down {xs ys:List α} {j m:Nat} (h:Rot xs ys j m (m+1)) (h1:1≤j) (h2:j≤m) (hm:m < xs.length):Rot xs (swp ys j (j - 1)) (j - 1) m (m+1):=by
  have hl:=h.len
  refine ⟨by rw [swp_len,hl],fun i=>?_⟩
  rw [swp_get _ _ _ _ (by omega) (by omega),h.at_]
  congr 1
  unfold rix
  repeat' split
  all_goals omega
theorem Rot.up {xs ys:List α} {a k:Nat} (h:Rot xs ys a (a+1) (k+1)) (h1:a≤k) (hm:k+1 < xs.length):Rot xs (swp ys k (k+1)) a (a+1) (k+1+1):=by
  have hl:=h.len
  refine ⟨by rw [swp_len,hl],fun i=>?_⟩
  rw [swp_get _ _ _ _ (by omega) (by omega),h.at_]
  congr 1
  unfold rix
  repeat' split
  all_goals omega
def six (a b n k:Nat):Nat:=if a≤k∧k < a+n then k+(b - a) else if b≤k∧k < b+n then k - (b - a) else k
structure Swr (xs ys:List α) (a b n:Nat):Prop where
  len:ys.length=xs.length
  at_:∀ i,ys[i]?=xs[six a b n i]?
theorem Swr.zero (xs:List α) (a b:Nat):Swr xs xs a b 0:=⟨rfl,fun i=>by congr 1;unfold six;split <;> (try split) <;> omega⟩
theorem Swr.step {xs ys:List α} {a b n:Nat} (h:Swr xs ys a b n) (h1:a+n < b) (h2:b+n < xs.length):Swr xs (swp ys (a+n) (b+n)) a b (n+1):=by
  have hl:=h.len
  refine ⟨by rw [swp_len,hl],fun i=>?_⟩
  rw [swp_get _ _ _ _ (by omega) (by omega),h.at_]
  congr 1
  unfold six
  repeat' split
  all_goals omega
structure Todo (cur ts:List α) (s m e:Nat):Prop where
  len:ts.length=cur.length
  at_:∀ i,ts[i]?=cur[rix s m e i]?
theorem Todo.left {cur nxt ts:List α} {m i j:Nat} (h:Todo cur ts (m - i) m (m+j)) (hs:Swr cur nxt (m - i) m j) (hi:i≤m) (hij:j < i):Todo nxt ts (m - (i - j)) m (m+j):=by
  refine ⟨by rw [h.len,hs.len],fun k=>?_⟩
  rw [h.at_,hs.at_]
  congr 1
  unfold rix six
  repeat' split
  all_goals omega
theorem Todo.right {cur nxt ts:List α} {m i j:Nat} (h:Todo cur ts (m - i) m (m+j)) (hs:Swr cur nxt (m - i) (m+j - i) i) (hi:i≤m) (hij:i < j):Todo nxt ts (m - i) m (m+(j - i)):=by
  refine ⟨by rw [h.len,hs.len],fun k=>?_⟩
  rw [h.at_,hs.at_]
  congr 1
  unfold rix six
  repeat' split
  all_goals omega
theorem Todo.last {cur nxt ts:List α} {m i:Nat} (h:Todo cur ts (m - i) m (m+i)) (hs:Swr cur nxt (m - i) m i) (hi:i≤m):ts=nxt:=by
  apply List.ext_getElem?
  intro k
  rw [h.at_,hs.at_]
  congr 1
  unfold rix six
  repeat' split
  all_goals omega
theorem sym_plain {xs zs us vs:List α} {a m b s e mid:Nat} (hab:a≤s) (hsm:s≤m) (hsd:s≤mid) (hme:m≤e) (hde:mid≤e) (heb:e≤b) (hb:b≤xs.length) (hmid:mid+m=s+e)
    (h1:Srt key (seg xs a m)) (h2:Srt key (seg xs m b))
    (c1:s < m→m < e→key (ge xs (e - 1)) < key (ge xs s)) (c2:a < s→e < b→key (ge xs (s - 1))≤key (ge xs e))
    (hr:Rot xs zs s m e) (hu:Mg key zs us a mid) (hv:Mg key us vs mid b):Mg key xs vs a b:=by
  have I1:=(srt_seg (key:=key) (show m≤xs.length by omega)).1 h1
  have I2:=(srt_seg (key:=key) hb).1 h2
  have lz:zs.length=xs.length:=hr.chg.len
  have lu:us.length=xs.length:=hu.chg.len.trans lz
  have lv:vs.length=xs.length:=hv.chg.len.trans lu
  have hd:s+(e - m)=mid:=by omega
  have r1:=hr.lo hsm hme
  have r2:=hr.hi hsm hme
  rw [hd] at r1 r2
  -- the pieces of zs
  have z1:seg zs a mid=seg xs a s++seg xs m e:=by
    rw [seg_split zs hab hsd,hr.chg.seg (.inl (Nat.le_refl _)),r1]
  have z2:seg zs mid b=seg xs s m++seg xs e b:=by
    rw [seg_split zs hde heb,r2,hr.chg.seg (.inr (Nat.le_refl _))]
  have sx:seg xs a b=(seg xs a s++seg xs s m)++(seg xs m e++seg xs e b):=by
    rw [← seg_split xs hab hsm,← seg_split xs hme heb,← seg_split xs (by omega) (by omega)]
  -- what stands left is no more than what stands right
  have x12:∀ x∈seg xs m e,∀ y∈seg xs s m,key x < key y:=by
    intro x hx y hy
    obtain ⟨i,i1,i2,rfl⟩:=(mem_seg (by omega)).1 hx
    obtain ⟨j,j1,j2,rfl⟩:=(mem_seg (by omega)).1 hy
    have a1:=c1 (by omega) (by omega)
    have a2:key (ge xs i)≤key (ge xs (e - 1)):=by
      by_cases q:i=e - 1
      · subst q;exact Int.le_refl _
      · exact I2 i (e - 1) i1 (by omega) (by omega)
    have a3:key (ge xs s)≤key (ge xs j):=by
      by_cases q:s=j
      · subst q;exact Int.le_refl _
      · exact I1 s j hab (by omega) j2
    omega
  have cross:∀ x∈seg xs a s++seg xs m e,∀ y∈seg xs s m++seg xs e b,key x≤key y:=by
    intro x hx y hy
    rcases List.mem_append.1 hx with hx | hx <;> rcases List.mem_append.1 hy with hy | hy
    · obtain ⟨i,i1,i2,rfl⟩:=(mem_seg (by omega)).1 hx
      obtain ⟨j,j1,j2,rfl⟩:=(mem_seg (by omega)).1 hy
      exact I1 i j i1 (by omega) j2
    · obtain ⟨i,i1,i2,rfl⟩:=(mem_seg (by omega)).1 hx
      obtain ⟨j,j1,j2,rfl⟩:=(mem_seg hb).1 hy
      have a1:=c2 (by omega) (by omega)
      have a2:key (ge xs i)≤key (ge xs (s - 1)):=by
        by_cases q:i=s - 1
        · subst q;exact Int.le_refl _
        · exact I1 i (s - 1) i1 (by omega) (by omega)
      have a3:key (ge xs e)≤key (ge xs j):=by
        by_cases q:e=j
        · subst q;exact Int.le_refl _
        · exact I2 e j hme (by omega) j2
      omega
    · exact Int.le_of_lt (x12 x hx y hy)
    · obtain ⟨i,i1,i2,rfl⟩:=(mem_seg (by omega)).1 hx
      obtain ⟨j,j1,j2,rfl⟩:=(mem_seg hb).1 hy
      exact I2 i j i1 (by omega) j2
  have v1:seg vs a mid=seg us a mid:=hv.chg.seg (.inl (Nat.le_refl _))
  have u2:seg us mid b=seg zs mid b:=hu.chg.seg (.inr (Nat.le_refl _))
  have sv:seg vs a b=seg us a mid++seg vs mid b:=by rw [seg_split vs (show a≤mid by omega) (show mid≤b by omega),v1]
  have same1:Same key (seg us a mid) (seg xs a s++seg xs m e):=by rw [← z1];exact hu.same
  have same2:Same key (seg vs mid b) (seg xs s m++seg xs e b):=by rw [← z2,← u2];exact hv.same
  refine ⟨((hr.chg.wide hab heb).trans (hu.chg.wide (Nat.le_refl _) (by omega))).trans (hv.chg.wide (by omega) (Nat.le_refl _)),?_,?_⟩
  · rw [sv]
    exact Srt.append.2 ⟨hu.srt,hv.srt,fun x hx y hy=>cross x (same1.mem hx) y (same2.mem hy)⟩
  · rw [sv,sx]
    refine (same1.append same2).trans ?_
    have:Same key (seg xs m e++seg xs s m) (seg xs s m++seg xs m e):=(Same.swap (fun x hx y hy=>x12 y hy x hx)).symm
    have:=((Same.refl (seg xs a s)).append this).append (Same.refl (seg xs e b))
    simpa [List.append_assoc] using this
theorem Mg.id {xs:List α} {a b:Nat} (h:Srt key (seg xs a b)):Mg key xs xs a b:=⟨Chg.refl _ _ _,h,Same.refl _⟩
theorem rot_mg {xs zs:List α} {a m b s e:Nat} (hab:a≤s) (hsm:s≤m) (hme:m≤e) (heb:e≤b) (hb:b≤xs.length)
    (h1:Srt key (seg xs a m)) (h2:Srt key (seg xs m b))
    (c1:s < m→m < e→key (ge xs (e - 1)) < key (ge xs s)) (c2:a < s→e < b→key (ge xs (s - 1))≤key (ge xs e))
    (c3:s < m→e < b→key (ge xs (m - 1))≤key (ge xs e)) (c4:a < s→m < e→key (ge xs (s - 1))≤key (ge xs m))
    (hr:Rot xs zs s m e):Mg key xs zs a b:=by
  have I1:=(srt_seg (key:=key) (show m≤xs.length by omega)).1 h1
  have I2:=(srt_seg (key:=key) hb).1 h2
  have r1:=hr.lo hsm hme
  have r2:=hr.hi hsm hme
  refine sym_plain (s:=s) (e:=e) (m:=m) (mid:=s+(e - m)) hab hsm (by omega) hme (by omega) heb hb (by omega) h1 h2 c1 c2 hr (Mg.id ?_) (Mg.id ?_)
  · rw [seg_split zs hab (by omega),hr.chg.seg (.inl (Nat.le_refl _)),r1]
    refine Srt.append.2 ⟨(srt_seg (by omega)).2 fun i j i1 i2 i3=>I1 i j i1 i2 (by omega),(srt_seg (by omega)).2 fun i j i1 i2 i3=>I2 i j i1 i2 (by omega),fun x hx y hy=>?_⟩
    obtain ⟨i,i1,i2,rfl⟩:=(mem_seg (by omega)).1 hx
    obtain ⟨j,j1,j2,rfl⟩:=(mem_seg (by omega)).1 hy
    have a1:=c4 (by omega) (by omega)
    have a2:key (ge xs i)≤key (ge xs (s - 1)):=by
      by_cases q:i=s - 1
      · subst q;exact Int.le_refl _
      · exact I1 i (s - 1) i1 (by omega) (by omega)
    have a3:key (ge xs m)≤key (ge xs j):=by
      by_cases q:m=j
      · subst q;exact Int.le_refl _
      · exact I2 m j (Nat.le_refl _) (by omega) (by omega)
    omega
  · rw [seg_split zs (show s+(e - m)≤e by omega) heb,hr.chg.seg (.inr (Nat.le_refl _)),r2]
    refine Srt.append.2 ⟨(srt_seg (by omega)).2 fun i j i1 i2 i3=>I1 i j (by omega) i2 (by omega),(srt_seg (by omega)).2 fun i j i1 i2 i3=>I2 i j (by omega) i2 (by omega),fun x hx y hy=>?_⟩
    obtain ⟨i,i1,i2,rfl⟩:=(mem_seg (by omega)).1 hx
    obtain ⟨j,j1,j2,rfl⟩:=(mem_seg (by omega)).1 hy
    have a1:=c3 (by omega) (by omega)
    have a2:key (ge xs i)≤key (ge xs (m - 1)):=by
      by_cases q:i=m - 1
      · subst q;exact Int.le_refl _
      · exact I1 i (m - 1) (by omega) (by omega) (by omega)
    have a3:key (ge xs e)≤key (ge xs j):=by
      by_cases q:e=j
      · subst q;exact Int.le_refl _
      · exact I2 e j (by omega) (by omega) (by omega)
    omega
theorem Mg.step {xs ys zs:List α} {a i:Nat} (h:Mg key xs ys a i) (h':Mg key ys zs a (i+1)) (hai:a≤i):Mg key xs zs a (i+1):=by
  refine ⟨(h.chg.wide (Nat.le_refl _) (by omega)).trans h'.chg,h'.srt,h'.same.trans ?_⟩
  rw [seg_split ys hai (by omega),seg_split xs hai (show i≤i+1 by omega)]
  refine h.same.append ?_
  rw [h.chg.seg (.inr (Nat.le_refl _))]
  exact Same.refl _
theorem Mg.one (xs:List α) (a:Nat) (ha:a≤xs.length):Mg key xs xs a a:=Mg.id (by rw [seg_nil _ (Nat.le_refl _)];exact List.Pairwise.nil)
theorem Mg.single (xs:List α) (a:Nat) (ha:a+1≤xs.length):Mg key xs xs a (a+1):=Mg.id ((srt_seg ha).2 fun i j h1 h2 h3=>by omega)
end
end Go.Proofs.YtdhbkifpodekcaaGreatDoor.Stb
namespace Go.Proofs.YtdhbkifpodekcaaGreatDoor.Stb
set_option linter.unusedVariables false
set_option maxRecDepth 100000
set_option linter.unusedSectionVars false
variable {α : Type}
def sins (key:α→Int) (x:α):List α→List α
  | []=>[x]
  | y :: ys=>if key x≤key y then x :: y :: ys else y :: sins key x ys
def isort (key:α→Int):List α→List α
  | []=>[]
  | x :: xs=>sins key x (isort key xs)
variable {key : α → Int}
theorem mem_sins {x z:α} {ys:List α}:z∈sins key x ys↔z=x∨z∈ys:=by
  induction ys with
  | nil=>simp [sins]
  | cons y ys ih =>
    unfold sins
    split
    · simp
    · simp only [List.mem_cons,ih]
      constructor
      · rintro (h | h | h)
        · exact .inr (.inl h)
        · exact .inl h
        · exact .inr (.inr h)
      · rintro (h | h | h)
        · exact .inr (.inl h)
        · exact .inl h
        · exact .inr (.inr h)
theorem srt_sins {x:α} {ys:List α} (h:Srt key ys):Srt key (sins key x ys):=by
  induction ys with
  | nil=>simp [sins,Srt]
  | cons y ys ih =>
    unfold Srt at h
    rw [List.pairwise_cons] at h
    unfold sins
    split
    · rename_i c
      unfold Srt
      rw [List.pairwise_cons,List.pairwise_cons]
      refine ⟨fun z hz=>?_,h.1,h.2⟩
      rcases List.mem_cons.1 hz with rfl | hz
      · exact c
      · have:=h.1 z hz;omega
    · rename_i c
      unfold Srt
      rw [List.pairwise_cons]
      refine ⟨fun z hz=>?_,ih h.2⟩
      rcases mem_sins.1 hz with rfl | hz
      · omega
      · exact h.1 z hz
theorem same_sins {x:α} {ys:List α}:Same key (sins key x ys) (x :: ys):=by
  induction ys with
  | nil=>exact Same.refl _
  | cons y ys ih =>
    unfold sins
    split
    · exact Same.refl _
    · rename_i c
      refine (Same.append (a:=[y]) (b:=[y]) (Same.refl _) ih).trans ?_
      exact Same.append (a:=[y]++[x]) (b:=[x]++[y]) (c:=ys) (d:=ys) (Same.swap (X:=[x]) (Y:=[y]) fun p hp q hq=>by simp at hp hq;subst hp hq;omega).symm (Same.refl _)
theorem isort_srt (xs:List α):Srt key (isort key xs):=by
  induction xs with
  | nil=>exact List.Pairwise.nil
  | cons x xs ih=>exact srt_sins ih
theorem isort_same (xs:List α):Same key (isort key xs) xs:=by
  induction xs with
  | nil=>exact Same.refl _
  | cons x xs ih=>exact same_sins.trans (Same.append (a:=[x]) (b:=[x]) (Same.refl _) ih)
theorem isort_eq {xs ys:List α} (h1:Srt key ys) (h2:Same key ys xs):ys=isort key xs :=
  Srt.unique h1 (isort_srt xs) (h2.trans (isort_same xs).symm)
theorem sins_len (x:α) (ys:List α):(sins key x ys).length=ys.length+1:=by
  induction ys with
  | nil=>rfl
  | cons y ys ih=>unfold sins;split <;> simp [ih]
theorem isort_len (xs:List α):(isort key xs).length=xs.length:=by
  induction xs with
  | nil=>rfl
  | cons x xs ih=>show (sins key x (isort key xs)).length=_;rw [sins_len,ih];rfl
end Go.Proofs.YtdhbkifpodekcaaGreatDoor.Stb
namespace Go.Proofs.YtdhbkifpodekcaaGreatDoor
open Stb
set_option linter.unusedVariables false
set_option maxRecDepth 100000
def idx (n:Nat):List Int:=(List.range n).map Int.ofNat
theorem idx_len (n:Nat):(idx n).length=n:=by simp [idx]
theorem mem_idx {n:Nat} {x:Int}:x∈idx n↔∃ i:Nat,i < n∧x=(i:Int):=by
  simp [idx,eq_comm]
theorem idx_nodup (n:Nat):(idx n).Nodup:=by
  unfold idx List.Nodup
  rw [List.pairwise_map]
  exact (List.nodup_range (n:=n)).imp fun h e=>h (Int.ofNat.inj e)
def sumr (n:Nat) (f:Nat→Int):Int:=((List.range n).map f).sum
theorem sumr_zero (f:Nat→Int):sumr 0 f=0:=rfl
theorem sumr_succ (n:Nat) (f:Nat→Int):sumr (n+1) f=sumr n f+f n:=by
  simp [sumr,List.range_succ]
theorem sumr_add (n:Nat) (f g:Nat→Int):sumr n (fun i=>f i+g i)=sumr n f+sumr n g:=by
  induction n with
  | zero=>rfl
  | succ n ih=>rw [sumr_succ,sumr_succ,sumr_succ,ih];omega
theorem sumr_mul (n:Nat) (c:Int) (f:Nat→Int):sumr n (fun i=>c*f i)=c*sumr n f:=by
  induction n with
  | zero=>simp [sumr]
  | succ n ih=>rw [sumr_succ,sumr_succ,ih,Int.mul_add]
theorem sumr_congr {n:Nat} {f g:Nat→Int} (h:∀ i,i < n→f i=g i):sumr n f=sumr n g:=by
  induction n with
  | zero=>rfl
  | succ n ih=>rw [sumr_succ,sumr_succ,ih fun i hi=>h i (by omega),h n (by omega)]
theorem sumr_le {n:Nat} {f g:Nat→Int} (h:∀ i,i < n→f i≤g i):sumr n f≤sumr n g:=by
  induction n with
  | zero=>exact Int.le_refl _
  | succ n ih=>rw [sumr_succ,sumr_succ];have:=ih fun i hi=>h i (by omega);have:=h n (by omega);omega
theorem sumr_const (n:Nat) (c:Int):sumr n (fun _=>c)=n*c:=by
  induction n with
  | zero=>simp [sumr]
  | succ n ih=>rw [sumr_succ,ih,Int.natCast_add,Int.add_mul];simp
theorem sumr_one {n j:Nat} (hj:j < n):sumr n (fun i=>if (i:Int)=(j:Int) then 1 else 0)=1:=by
  induction n with
  | zero=>omega
  | succ n ih =>
    rw [sumr_succ]
    by_cases e:j=n
    · subst e
      rw [if_pos rfl,sumr_congr (g:=fun _=>0) (fun i hi=>by rw [if_neg (by omega)]),sumr_const];simp
    · rw [ih (by omega),if_neg (by omega)];simp
theorem sum_getD (l:List Int):sumr l.length (fun i=>l.getD i 0)=l.sum:=by
  have:(List.range l.length).map (fun i=>l.getD i 0)=l:=by
    apply List.ext_getElem (by simp)
    intro i h1 h2
    simp [List.getD_eq_getElem?_getD,h2]
  unfold sumr
  rw [this]
theorem count_sum (n:Nat) (L:List Int) (h:∀ x∈L,x∈idx n):sumr n (fun i=>(L.count (i:Int):Int))=L.length:=by
  induction L with
  | nil=>simp [sumr_const]
  | cons x L ih =>
    obtain ⟨j,hj,rfl⟩:=mem_idx.1 (h x (by simp))
    have e:∀ i:Nat,((List.count (i:Int) ((j:Int) :: L):Nat):Int)=(List.count (i:Int) L:Nat)+if (i:Int)=(j:Int) then 1 else 0:=fun i=>by
      rw [List.count_cons]
      by_cases c:(i:Int)=(j:Int)
      · simp [c]
      · have:¬ (j:Int)=(i:Int):=fun h=>c h.symm
        simp [c,this]
    rw [sumr_congr (fun i _=>e i),sumr_add,ih fun y hy=>h y (by simp [hy]),sumr_one hj]
    simp
def skey (a S:Int) (l:List Int) (x:Int):Int:=-(a*l.getD x.toNat 0 % S)
def flos (a S:Int) (l:List Int):Int:=sumr l.length fun i=>a*l.getD i 0 / S
def rems (a S:Int) (l:List Int):Int:=sumr l.length fun i=>a*l.getD i 0 % S
def left (a S:Int) (l:List Int):Int:=a - flos a S l
structure Ordp (a S:Int) (l ys:List Int):Prop where
  len:ys.length=l.length
  srt:Srt (skey a S l) ys
  same:Same (skey a S l) ys (idx l.length)
def prt (a S:Int) (l ys:List Int) (i:Nat):Int:=a*l.getD i 0 / S+(((ys.take (left a S l).toNat).count (i:Int):Nat):Int)
def prts (a S:Int) (l ys:List Int):List Int:=(List.range l.length).map (prt a S l ys)
theorem flos_rems (a S:Int) (l:List Int):S*flos a S l+rems a S l=a*l.sum:=by
  unfold flos rems
  rw [← sumr_mul,← sumr_add,sumr_congr (fun i _=>Int.mul_ediv_add_emod (a*l.getD i 0) S),sumr_mul,sum_getD]
theorem left_rems (a:Int) (l:List Int):l.sum*left a l.sum l=rems a l.sum l:=by
  have:=flos_rems a l.sum l
  unfold left
  rw [Int.mul_sub,Int.mul_comm l.sum a];omega
theorem psum_eq {xs ys:List Int} (h:xs.Perm ys):xs.sum=ys.sum:=by
  induction h with
  | nil=>rfl
  | cons x _ ih=>simp [ih]
  | swap x y l=>simp;omega
  | trans _ _ h1 h2=>exact h1.trans h2
theorem same_count {key:Int→Int} {xs ys:List Int} (h:Same key xs ys) (x:Int):xs.count x=ys.count x:=by
  have e:∀ l:List Int,l.count x=(l.filter fun y=>decide (key y=key x)).count x:=fun l=>by rw [List.count_filter (by simp)]
  rw [e xs,e ys,h (key x)]
section
variable {a S : Int} {l ys : List Int} (ho : Ordp a S l ys)
include ho
theorem Ordp.count (i:Nat) (hi:i < l.length):ys.count (i:Int)=1:=by
  rw [same_count ho.same]
  exact Nat.le_antisymm (List.nodup_iff_count.1 (idx_nodup _) _) (List.count_pos_iff.2 (mem_idx.2 ⟨i,hi,rfl⟩))
theorem Ordp.le_one (i k:Nat) (hi:i < l.length):(ys.take k).count (i:Int)≤1:=by
  have:=(List.take_sublist k ys).count_le (i:Int)
  rw [ho.count i hi] at this;exact this
theorem Ordp.perm_sum (f:Nat→Int):(ys.map fun x=>f x.toNat).sum=sumr l.length f:=by
  have hp:ys.Perm (idx l.length):=List.perm_iff_count.2 fun x=>same_count ho.same x
  have h2:=psum_eq (hp.map fun x=>f x.toNat)
  rw [h2]
  unfold idx sumr
  rw [List.map_map];rfl
end
theorem sum_bound (L:List Int) (f:Int→Int) (M:Int) (h:∀ x∈L,f x≤M):(L.map f).sum≤M*L.length:=by
  induction L with
  | nil=>simp
  | cons x L ih =>
    have a:=h x (by simp)
    have b:=ih fun y hy=>h y (by simp [hy])
    simp only [List.map_cons,List.sum_cons,List.length_cons]
    have:M*((L.length+1:Nat):Int)=M*L.length+M:=by rw [Int.natCast_add,Int.mul_add];simp
    omega
theorem sum_bound_one (L:List Int) (f:Int→Int) (M:Int) (hM:0≤M) (h:∀ x∈L,f x≤M) (z:Int) (hz:z∈L) (h0:f z≤0):(L.map f).sum+M≤M*L.length:=by
  induction L with
  | nil=>simp at hz
  | cons x L ih =>
    simp only [List.map_cons,List.sum_cons,List.length_cons]
    have e:M*((L.length+1:Nat):Int)=M*L.length+M:=by rw [Int.natCast_add,Int.mul_add];simp
    rcases List.mem_cons.1 hz with rfl | hz
    · have b:=sum_bound L f M fun y hy=>h y (by simp [hy])
      omega
    · have a:=h x (by simp)
      have b:=ih (fun y hy=>h y (by simp [hy])) hz
      omega
section
variable {a : Int} {l ys : List Int} (ho : Ordp a l.sum l ys) (hS : 0 < l.sum)
include hS
theorem rems_nonneg:0≤rems a l.sum l:=by
  have:=sumr_le (n:=l.length) (f:=fun _=>0) (g:=fun i=>a*l.getD i 0 % l.sum) fun i _=>Int.emod_nonneg _ (by omega)
  rw [sumr_const] at this
  unfold rems;omega
theorem left_nonneg:0≤left a l.sum l:=by
  have h:=left_rems a l
  have h2:=rems_nonneg (a:=a) hS
  rcases Int.lt_or_le (left a l.sum l) 0 with c | c
  · have:=Int.mul_neg_of_pos_of_neg hS c
    omega
  · exact c
theorem left_le:left a l.sum l≤l.length:=by
  have h:=left_rems a l
  have h2:rems a l.sum l≤l.length*(l.sum - 1):=by
    have:=sumr_le (n:=l.length) (f:=fun i=>a*l.getD i 0 % l.sum) (g:=fun _=>l.sum - 1) fun i _=>by
      have:=Int.emod_lt_of_pos (a*l.getD i 0) hS
      omega
    rw [sumr_const] at this
    exact this
  rcases Int.lt_or_le (l.length:Int) (left a l.sum l) with c | c
  · have h3:l.sum*(l.length:Int)≤l.sum*left a l.sum l:=Int.mul_le_mul_of_nonneg_left (by omega) (by omega)
    have h4:(l.length:Int)*(l.sum - 1)=l.sum*(l.length:Int) - l.length:=by rw [Int.mul_sub,Int.mul_comm];simp
    have h5:l.sum*((l.length:Int)+1)≤l.sum*left a l.sum l:=Int.mul_le_mul_of_nonneg_left (by omega) (by omega)
    rw [Int.mul_add] at h5
    omega
  · exact c
include ho
theorem prts_sum:(prts a l.sum l ys).sum=a:=by
  have h1:=left_nonneg (a:=a) hS
  have h2:=left_le (a:=a) hS
  have e:(prts a l.sum l ys).sum=sumr l.length (prt a l.sum l ys):=rfl
  rw [e]
  unfold prt
  rw [sumr_add,count_sum _ _ (fun x hx=>ho.same.mem (List.mem_of_mem_take hx)),List.length_take,ho.len]
  have:flos a l.sum l=a - left a l.sum l:=by unfold left;omega
  show flos a l.sum l+_=a
  omega
theorem no_more (i:Nat) (hi:i < l.length) (h:a*l.getD i 0 % l.sum=0):(ys.take (left a l.sum l).toNat).count (i:Int)=0:=by
  have l1:=left_nonneg (a:=a) hS
  have l2:=left_le (a:=a) hS
  rcases Nat.eq_zero_or_pos ((ys.take (left a l.sum l).toNat).count (i:Int)) with c | c
  · exact c
  · exfalso
    have m:=List.count_pos_iff.1 c
    have hs:=ho.srt
    rw [← List.take_append_drop (left a l.sum l).toNat ys] at hs
    have hd:=(Srt.append.1 hs).2.2
    have hk:skey a l.sum l (i:Int)=0:=by unfold skey;rw [Int.toNat_natCast,h];rfl
    have p:=ho.perm_sum fun i=>a*l.getD i 0 % l.sum
    rw [← List.take_append_drop (left a l.sum l).toNat ys,List.map_append,List.sum_append_int] at p
    have b1:=sum_bound_one (ys.take (left a l.sum l).toNat) (fun x=>a*l.getD x.toNat 0 % l.sum) (l.sum - 1) (by omega) (fun x _=>by have:=Int.emod_lt_of_pos (a*l.getD x.toNat 0) hS;omega) (i:Int) m (by show a*l.getD (Int.toNat (i:Int)) 0 % l.sum≤0;rw [Int.toNat_natCast];omega)
    have b2:=sum_bound (ys.drop (left a l.sum l).toNat) (fun x=>a*l.getD x.toNat 0 % l.sum) 0 (fun x hx=>by
      have:=hd _ m x hx
      rw [hk] at this
      unfold skey at this
      show a*l.getD x.toNat 0 % l.sum≤0
      omega)
    have e1:((ys.take (left a l.sum l).toNat).length:Int)=left a l.sum l:=by rw [List.length_take,ho.len];omega
    rw [e1] at b1
    have e2:=left_rems a l
    have e3:(l.sum - 1)*left a l.sum l=l.sum*left a l.sum l - left a l.sum l:=by rw [Int.sub_mul];omega
    have e4:1≤left a l.sum l:=by
      rcases Int.lt_or_le (left a l.sum l) 1 with q | q
      · rw [show (left a l.sum l).toNat=0 by omega] at m;simp at m
      · exact q
    change _=rems a l.sum l at p
    omega
theorem prt_near (i:Nat) (hi:i < l.length):-l.sum < prt a l.sum l ys i*l.sum - a*l.getD i 0∧prt a l.sum l ys i*l.sum - a*l.getD i 0 < l.sum:=by
  have h1:=ho.le_one i (left a l.sum l).toNat hi
  have h2:=no_more ho hS i hi
  have h3:=Int.mul_ediv_add_emod (a*l.getD i 0) l.sum
  have h4:=Int.emod_nonneg (a*l.getD i 0) (show l.sum≠0 by omega)
  have h5:=Int.emod_lt_of_pos (a*l.getD i 0) hS
  unfold prt
  generalize (ys.take (left a l.sum l).toNat).count (i:Int)=c at *
  have e:(a*l.getD i 0 / l.sum+(c:Int))*l.sum=l.sum*(a*l.getD i 0 / l.sum)+(c:Int)*l.sum:=by rw [Int.add_mul,Int.mul_comm]
  rw [e]
  clear e
  generalize a*l.getD i 0=p at *
  generalize l.sum*(p / l.sum)=q at *
  have hc:c=0∨c=1:=by omega
  rcases hc with rfl | rfl
  · simp only [Int.natCast_zero,Int.zero_mul];omega
  · by_cases z:p % l.sum=0
    · have:=h2 z;omega
    · simp only [Int.natCast_one,Int.one_mul];omega
end
end Go.Proofs.YtdhbkifpodekcaaGreatDoor
namespace Go.Proofs.YtdhbkifpodekcaaGreatDoor
open Go Go.PlainAid
set_option linter.unusedVariables false
set_option maxRecDepth 100000
def digB (c:Int):Bool:=decide (48≤c) && decide (c≤57)
def keyC (c:Int):Bool:=(decide (97≤c) && decide (c≤122)) || (decide (48≤c) && decide (c≤57)) || decide (c=45)
def allB (p:Int→Bool) (s:ByteArray) (k:Nat):Bool:=(List.range k).all (fun i=>p (bt s i))
theorem allB_succ (p:Int→Bool) (s:ByteArray) (k:Nat):allB p s (k+1)=(allB p s k && p (bt s k)):=by
  unfold allB;rw [List.range_succ,List.all_append];simp
theorem allB_bad {p:Int→Bool} {s:ByteArray} {k n:Nat} (h:p (bt s k)=false) (hk:k < n):allB p s n=false:=by
  unfold allB
  rw [List.all_eq_false]
  exact ⟨k,List.mem_range.2 hk,by simp [h]⟩
def codeB (s:ByteArray):Bool:=decide (1≤s.size) && decide (s.size≤8) && allB digB s s.size
def keyB (s:ByteArray):Bool:=decide (1≤s.size) && decide (s.size≤12) && allB keyC s s.size
abbrev Ln:=ByteArray × Int
def cd (xs:List Ln) (i:Nat):ByteArray:=(xs.getD i (ByteArray.empty,0)).1
def am (xs:List Ln) (i:Nat):Int:=(xs.getD i (ByteArray.empty,0)).2
def twB (xs:List Ln) (i:Nat):Bool:=(List.range i).any (fun j=>decide (cd xs j=cd xs i))
def lnAt (xs:List Ln) (i:Nat):Int :=
  if codeB (cd xs i)=false then 3 else if am xs i < -1000000000000∨1000000000000 < am xs i∨am xs i=0 then 1 else if twB xs i=true then 5 else 0
def lnUp (xs:List Ln):Nat→Int
  | 0=>0
  | k+1=>if lnUp xs k≠0 then lnUp xs k else lnAt xs k
theorem lnUp_bad {xs:List Ln} {k n:Nat} (h:lnUp xs k=0) (hb:lnAt xs k≠0) (hk:k < n):lnUp xs n=lnAt xs k:=by
  induction n with
  | zero=>omega
  | succ n ih =>
    unfold lnUp
    by_cases e:k=n
    · subst e;rw [if_neg (by simp [h])]
    · rw [ih (by omega),if_pos hb]
theorem lnUp_ok {xs:List Ln} {k:Nat} (h:lnUp xs k=0) (hb:lnAt xs k=0):lnUp xs (k+1)=0:=by
  unfold lnUp;rw [if_neg (by simp [h]),hb]
theorem lnUp_at {xs:List Ln} {k n:Nat} (h:lnUp xs n=0) (hk:k < n):lnAt xs k=0:=by
  induction n with
  | zero=>omega
  | succ n ih =>
    unfold lnUp at h
    by_cases e:lnUp xs n=0
    · rw [if_neg (by simp [e])] at h
      by_cases e2:k=n
      · subst e2;exact h
      · exact ih e (by omega)
    · rw [if_pos e] at h;exact absurd h e
theorem lnUp_all {xs:List Ln} {n:Nat} (h:∀ k,k < n→lnAt xs k=0):lnUp xs n=0:=by
  induction n with
  | zero=>rfl
  | succ n ih=>exact lnUp_ok (ih fun k hk=>h k (by omega)) (h n (by omega))
def amS (xs:List Ln):Nat→Int
  | 0=>0
  | k+1=>amS xs k+am xs k
def linec (xs:List Ln):Int :=
  if 12 < xs.length then 2 else if lnUp xs xs.length≠0 then lnUp xs xs.length else if xs.length < 2∨amS xs xs.length≠0 then 7 else 0
theorem amS_bd {xs:List Ln} {n:Nat} (h:∀ k,k < n→lnAt xs k=0):-(1000000000000*n)≤amS xs n∧amS xs n≤1000000000000*n:=by
  induction n with
  | zero=>simp [amS]
  | succ n ih =>
    have h1:=ih fun k hk=>h k (by omega)
    have h2:=h n (by omega)
    unfold lnAt at h2
    unfold amS
    split at h2
    · omega
    · split at h2
      · omega
      · omega
def entc (key:ByteArray) (day:Int) (xs:List Ln):Int:=if keyB key=false then 3 else if day < 0∨292193 < day then 1 else linec xs
def turn (xs:List Ln):List Ln:=xs.map (fun x=>(x.1,-x.2))
theorem turn_len (xs:List Ln):(turn xs).length=xs.length:=by simp [turn]
theorem cd_turn (xs:List Ln) (i:Nat):cd (turn xs) i=cd xs i:=by
  unfold cd turn
  rw [List.getD_eq_getElem?_getD,List.getD_eq_getElem?_getD,List.getElem?_map]
  cases xs[i]? <;> rfl
theorem lnAt_ok {xs:List Ln} {i:Nat} (h:lnAt xs i=0):codeB (cd xs i)=true∧-1000000000000≤am xs i∧am xs i≤1000000000000∧am xs i≠0∧twB xs i=false:=by
  unfold lnAt at h
  split at h
  · omega
  · rename_i h1
    split at h
    · omega
    · rename_i h2
      split at h
      · omega
      · rename_i h3
        exact ⟨by simpa using h1,by omega,by omega,by omega,by simpa using h3⟩
theorem linec_ok {xs:List Ln} (h:linec xs=0):xs.length≤12∧2≤xs.length∧amS xs xs.length=0∧∀ k,k < xs.length→lnAt xs k=0:=by
  unfold linec at h
  split at h
  · omega
  · split at h
    · rename_i h2;exact absurd h h2
    · rename_i h1 h2
      split at h
      · omega
      · rename_i h3
        have h4:lnUp xs xs.length=0:=by simpa using h2
        exact ⟨by omega,by omega,by omega,fun k hk=>lnUp_at h4 hk⟩
theorem entc_ok {key:ByteArray} {day:Int} {xs:List Ln} (h:entc key day xs=0):keyB key=true∧0≤day∧day≤292193∧linec xs=0:=by
  unfold entc at h
  split at h
  · omega
  · rename_i h1
    split at h
    · omega
    · exact ⟨by simpa using h1,by omega,by omega,h⟩
theorem turn_take (xs:List Ln) (k:Nat) (hk:k < xs.length):turn (xs.take (k+1))=turn (xs.take k)++[(cd xs k,-am xs k)]:=by
  rw [List.take_succ_eq_append_getElem hk]
  unfold turn
  rw [List.map_append]
  congr 1
  unfold cd am
  rw [List.getD_eq_getElem?_getD,List.getElem?_eq_getElem hk]
  rfl
end Go.Proofs.YtdhbkifpodekcaaGreatDoor
namespace Go.Proofs.YtdhbkifpodekcaaGreatDoor
set_option linter.unusedVariables false
set_option maxRecDepth 100000
theorem cd_at (xs:List Ln) (i:Nat) (h:i < xs.length):cd xs i=xs[i].1∧am xs i=xs[i].2:=by
  unfold cd am;rw [List.getD_eq_getElem?_getD,List.getElem?_eq_getElem h];exact ⟨rfl,rfl⟩
def okL (x:Ln):Prop:=codeB x.1=true∧-1000000000000≤x.2∧x.2≤1000000000000∧x.2≠0
theorem amS_sum (xs:List Ln) (n:Nat) (h:n≤xs.length):amS xs n=((xs.take n).map (·.2)).sum:=by
  induction n with
  | zero=>simp [amS]
  | succ n ih =>
    rw [List.take_succ_eq_append_getElem (by omega),List.map_append,List.sum_append,← ih (by omega)]
    show amS xs n+am xs n=_
    rw [(cd_at xs n (by omega)).2];simp
theorem all_of {xs:List Ln} (h:∀ k,k < xs.length→lnAt xs k=0):(∀ x∈xs,okL x)∧(xs.map (·.1)).Nodup:=by
  constructor
  · intro x hx
    obtain ⟨i,hi,rfl⟩:=List.getElem_of_mem hx
    obtain ⟨a,b,c,d,_⟩:=lnAt_ok (h i hi)
    obtain ⟨e1,e2⟩:=cd_at xs i hi
    rw [e1] at a
    rw [e2] at b c d
    exact ⟨a,b,c,d⟩
  · unfold List.Nodup
    rw [List.pairwise_iff_getElem]
    intro i j hi hj hij
    simp only [List.length_map] at hi hj
    have ht:=(lnAt_ok (h j hj)).2.2.2.2
    unfold twB at ht
    rw [List.any_eq_false] at ht
    have:=ht i (List.mem_range.2 hij)
    rw [(cd_at xs i hi).1,(cd_at xs j hj).1] at this
    simpa using this
theorem of_all {xs:List Ln} (h1:∀ x∈xs,okL x) (h2:(xs.map (·.1)).Nodup):∀ k,k < xs.length→lnAt xs k=0:=by
  intro k hk
  obtain ⟨a,b,c,d⟩:=h1 _ (List.getElem_mem hk)
  obtain ⟨e1,e2⟩:=cd_at xs k hk
  rw [← e1] at a
  rw [← e2] at b c d
  have ht:twB xs k=false:=by
    unfold twB
    rw [List.any_eq_false]
    intro j hj
    have hj':=List.mem_range.1 hj
    unfold List.Nodup at h2
    rw [List.pairwise_iff_getElem] at h2
    have:=h2 j k (by simp;omega) (by simpa using hk) hj'
    rw [(cd_at xs j (by omega)).1,e1]
    simpa using this
  unfold lnAt
  rw [if_neg (by simp [a]),if_neg (by omega),if_neg (by simp [ht])]
theorem linec_iff {xs:List Ln}:linec xs=0↔xs.length≤12∧2≤xs.length∧(xs.map (·.2)).sum=0∧(∀ x∈xs,okL x)∧(xs.map (·.1)).Nodup:=by
  constructor
  · intro h
    obtain ⟨a,b,c,d⟩:=linec_ok h
    obtain ⟨e,f⟩:=all_of d
    rw [amS_sum xs _ (Nat.le_refl _),List.take_of_length_le (Nat.le_refl _)] at c
    exact ⟨a,b,c,e,f⟩
  · rintro ⟨a,b,c,d,e⟩
    have hl:=lnUp_all (of_all d e)
    unfold linec
    rw [if_neg (by omega),if_neg (by simp [hl]),if_neg]
    rw [amS_sum xs _ (Nat.le_refl _),List.take_of_length_le (Nat.le_refl _),c]
    simp;omega
end Go.Proofs.YtdhbkifpodekcaaGreatDoor
