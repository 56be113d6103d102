/- Texts of this claim. -/
import Derived.Test.YtdhbkifpodekcaaGreatDoorDeskZ8
import Derived.Test.YtdhbkifpodekcaaGreatDoorRows
import Derived.Deep.OwnRows
namespace Go.Proofs.YtdhbkifpodekcaaGreatDoor
open Go.ChangeShapes Go.WideShapes Go.ChangeAt Go.RowKit
set_option linter.unusedVariables false
set_option maxRecDepth 100000
def Row (w:World) (b o:Nat) (xs:List Int):Prop:=b < w.heap.size∧∀ i,i < xs.length→w.cell? ⟨b,o+i,none⟩=some (.int .i64 (xs.getD i 0))
theorem sum_take_succ (xs:List Int) (k:Nat) (h:k < xs.length):(xs.take (k+1)).sum=(xs.take k).sum+xs.getD k 0:=by
  rw [List.take_succ_eq_append_getElem h,List.sum_append_int]
  simp [List.getD_eq_getElem?_getD,h]
theorem sum_bd (xs:List Int) (M:Int) (hM:0≤M) (h:∀ x∈xs,-M≤x∧x≤M):-(M*xs.length)≤xs.sum∧xs.sum≤M*xs.length:=by
  induction xs with
  | nil=>simp
  | cons x xs ih =>
    have a:=h x (by simp)
    have b:=ih (fun y hy=>h y (by simp [hy]))
    simp only [List.sum_cons,List.length_cons]
    have:M*((xs.length+1:Nat):Int)=M*xs.length+M:=by rw [Int.natCast_add,Int.mul_add];simp
    omega
def fc (f:Nat→Int) (m k:Nat):Array Value:=((List.range m).map (fun i=>Value.int .i64 (if i < k then f i else 0))).toArray
theorem fc_size (f:Nat→Int) (m k:Nat):(fc f m k).size=m:=by simp [fc]
theorem fc_get (f:Nat→Int) (m k i:Nat) (h:i < m):(fc f m k)[i]?=some (.int .i64 (if i < k then f i else 0)):=by simp [fc,h]
theorem fc_zero (f:Nat→Int) (m:Nat):madeCells #[Value.int .i64 0] m=fc f m 0:=by
  apply Array.ext_getElem?
  intro i
  by_cases h:i < m
  · rw [fc_get _ _ _ _ h];simp [madeCells,h,Nat.mod_one]
  · rw [Array.getElem?_eq_none (by rw [size_madeCells];omega),Array.getElem?_eq_none (by rw [fc_size];omega)]
theorem fc_step (f:Nat→Int) (m k:Nat) (hk:k < m):(fc f m k).setIfInBounds k (.int .i64 (f k))=fc f m (k+1):=by
  apply Array.ext_getElem?
  intro i
  rw [Array.getElem?_setIfInBounds,fc_size]
  by_cases h:i < m
  · by_cases hi:k=i
    · subst hi;rw [if_pos rfl,if_pos hk,fc_get _ _ _ _ h,if_pos (by omega)]
    · rw [if_neg hi,fc_get _ _ _ _ h,fc_get _ _ _ _ h]
      by_cases hl:i < k
      · rw [if_pos hl,if_pos (by omega)]
      · rw [if_neg hl,if_neg (by omega)]
  · rw [if_neg (by omega),Array.getElem?_eq_none (by rw [fc_size];omega),Array.getElem?_eq_none (by rw [fc_size];omega)]
end Go.Proofs.YtdhbkifpodekcaaGreatDoor
namespace Go.Proofs.YtdhbkifpodekcaaGreatDoor
open Go.ChangeShapes Go.WideShapes Go.ChangeAt Go.RowKit
set_option linter.unusedVariables false
set_option maxRecDepth 100000
theorem getD_mem (xs:List Int) (i:Nat) (hi:i < xs.length):xs.getD i 0∈xs:=by
  rw [List.getD_eq_getElem?_getD,List.getElem?_eq_getElem hi];exact List.getElem_mem hi
def Ri (w:World) (A:Option Addr) (xs:List Int):Prop :=
  xs=[]∨∃ x,A=some x∧x.block < w.heap.size∧∀ i,i < xs.length→w.cell? (x.add i)=some (.int .i64 (xs.getD i 0))
theorem add_block (x:Addr) (i:Nat):(x.add i).block=x.block:=by unfold Addr.add;split <;> rfl
theorem add_mk (b o i:Nat):(⟨b,o,none⟩:Addr).add i=⟨b,o+i,none⟩:=by
  unfold Addr.add;split
  · subst_vars;rfl
  · rfl
theorem Ri.mor {w w':World} {A:Option Addr} {xs:List Int} (h:Ri w A xs) (hm:Mor w w'):Ri w' A xs:=by
  rcases h with h | ⟨x,e,hb,hc⟩
  · exact .inl h
  · have hB:=hm.below
    exact .inr ⟨x,e,by have:=hB.size;omega,fun i hi=>(hB.cell (p:=x.add i) (by rw [add_block];exact hb)).trans (hc i hi)⟩
theorem Ri.below {w w':World} {A:Option Addr} {xs:List Int} (h:Ri w A xs) (hB:Below w.heap.size w w'):Ri w' A xs:=by
  rcases h with h | ⟨x,e,hb,hc⟩
  · exact .inl h
  · exact .inr ⟨x,e,by have:=hB.size;omega,fun i hi=>(hB.cell (p:=x.add i) (by rw [add_block];exact hb)).trans (hc i hi)⟩
theorem Ri.of_row {w:World} {b o:Nat} {xs:List Int} (h:Row w b o xs):Ri w (some ⟨b,o,none⟩) xs :=
  .inr ⟨_,rfl,h.1,fun i hi=>by rw [add_mk];exact h.2 i hi⟩
theorem Ri.at_ {w:World} {A:Option Addr} {xs:List Int} (h:Ri w A xs) (i:Nat) (hi:i < xs.length):∃ x,A=some x∧x.block < w.heap.size∧w.cell? (x.add i)=some (.int .i64 (xs.getD i 0)):=by
  rcases h with h | ⟨x,e,hb,hc⟩
  · subst h;simp at hi
  · exact ⟨x,e,hb,hc i hi⟩
def ic (xs:List Int):Array Value:=(xs.map (Value.int .i64)).toArray
theorem ic_get (xs:List Int) (i:Nat) (h:i < xs.length):(ic xs)[i]?=some (.int .i64 (xs.getD i 0)):=by
  simp [ic,List.getD_eq_getElem?_getD,h]
theorem ic_set (xs:List Int) (i:Nat) (v:Int):(ic xs).setIfInBounds i (.int .i64 v)=ic (xs.set i v):=by
  simp [ic,List.map_set]
theorem ic_zero (m:Nat):madeCells #[Value.int .i64 0] m=ic (List.replicate m 0):=by
  apply Array.ext_getElem?
  intro i
  by_cases h:i < m
  · rw [ic_get _ _ (by simpa using h)]
    simp [madeCells,h,Nat.mod_one,List.getD_eq_getElem?_getD]
  · rw [Array.getElem?_eq_none (by rw [size_madeCells];omega),Array.getElem?_eq_none (by simp [ic];omega)]
def Blk (w:World) (g:Nat) (t:TypeId) (cs:Array Value):Prop:=w.heap[g]?=some (.cells cs t (0,0))
section
variable {w w' : World} {g : Nat} {t : TypeId} {cs : Array Value}
theorem Blk.lt (h:Blk w g t cs):g < w.heap.size:=by
  rcases Nat.lt_or_ge g w.heap.size with hlt | hge
  · exact hlt
  · unfold Blk at h;rw [Array.getElem?_eq_none hge] at h;cases h
theorem Blk.cell (h:Blk w g t cs) (i:Nat):w.cell? ⟨g,i,none⟩=cs[i]?:=by
  unfold Blk at h
  simp [World.cell?,h]
theorem Blk.frozen (h:Blk w g t cs) (i:Nat):w.frozen? ⟨g,i,none⟩=false:=by
  unfold Blk at h
  simp [World.frozen?,h]
theorem Blk.new (w:World) (t:TypeId) (cs:Array Value):Blk (w.alloc (.cells cs t)) w.heap.size t cs:=heap_alloc_new w _
theorem Blk.drewN (h:Blk w g t cs) (n:Nat):Blk (w.drewN n) g t cs:=h
theorem Blk.alloc (h:Blk w g t cs) (o:Obj):Blk (w.alloc o) g t cs:=(Below.heap_alloc w o g h.lt).trans h
theorem Blk.set_ (h:Blk w g t cs) (i:Nat) (u:Value):Blk (w.setCell ⟨g,i,none⟩ u) g t (cs.setIfInBounds i u):=by
  unfold Blk at h ⊢
  simp [World.setCell,Array.getElem?_modify,h]
theorem Blk.below {B:Nat} (h:Blk w g t cs) (hb:Below B w w') (hg:g < B):Blk w' g t cs:=(hb.block g hg).trans h
end
theorem Blk.row {w:World} {g:Nat} {t:TypeId} {xs:List Int} (h:Blk w g t (ic xs)):Row w g 0 xs :=
  ⟨h.lt,fun i hi=>by rw [Nat.zero_add,h.cell,ic_get _ _ hi]⟩
theorem info_int':(Tryz.prog.info? 3).map (fun i=>(i.zero,i.size,i.bytes))=some (some (.int .i64 0),1,8):=by kernel_rfl
def CurR (cur:Array Value) (xs:List Int):Prop:=∀ i,i < xs.length→cur[i]?=some (.int .i64 (xs.getD i 0))
theorem CurR.set {cur:Array Value} {xs:List Int} (h:CurR cur xs) (i:Nat) (v:Int):CurR (cur.setIfInBounds i (.int .i64 v)) (xs.set i v):=by
  intro j hj
  rw [List.length_set] at hj
  have hs:j < cur.size:=by
    rcases Nat.lt_or_ge j cur.size with a | a
    · exact a
    · have:=h j hj;rw [Array.getElem?_eq_none a] at this;cases this
  rw [Array.getElem?_setIfInBounds,List.getD_eq_getElem?_getD,List.getElem?_set]
  by_cases e:i=j
  · subst e;rw [if_pos rfl,if_pos hs,if_pos rfl,if_pos hj];rfl
  · rw [if_neg e,if_neg e,h j hj,List.getD_eq_getElem?_getD]
theorem CurR.ri {w:World} {g:Nat} {T:TypeId} {cur:Array Value} {xs:List Int} (h:CurR cur xs) (hb:Blk w g T cur):Ri w (some ⟨g,0,none⟩) xs :=
  .inr ⟨_,rfl,hb.lt,fun i hi=>by rw [add_mk,Nat.zero_add,hb.cell];exact h i hi⟩
theorem own_blkR {w:World} {base n:Nat} {T:TypeId} {v:Value} {xs:List Int} (h:w.ownsRow base T 1 v n (xs.map (Value.int .i64))) (hn:1≤n) :
    ∃ g cap cur,v=.slice (some ⟨g,0,none⟩) n cap∧base≤g∧n≤cap∧Blk w g T cur∧CurR cur xs:=by
  obtain ⟨hl,h | ⟨g,cap,cur,rfl,hg,hb,h1,h2,h3,h4⟩⟩:=h
  · omega
  · refine ⟨g,cap,cur,rfl,hg,h1,hb,fun i hi=>?_⟩
    have:=congrArg (fun l:List Value=>l[i]?) h4
    have hlen:xs.length=n:=by simpa using hl
    simp only [List.getElem?_take,List.getElem?_map] at this
    rw [if_pos (by omega)] at this
    rw [← Array.getElem?_toList,this,List.getD_eq_getElem?_getD,List.getElem?_eq_getElem hi]
    rfl
theorem own_ri {w:World} {base n c:Nat} {T:TypeId} {A:Option Addr} {xs:List Int} (h:w.ownsRow base T 1 (.slice A n c) n (xs.map (Value.int .i64))):Ri w A xs:=by
  have hl:=h.1
  rcases Nat.eq_zero_or_pos n with e | e
  · subst e
    exact .inl (List.eq_nil_of_length_eq_zero (by simpa using hl))
  · obtain ⟨g,cap,cur,hv,_,_,hb,hc⟩:=own_blkR h e
    injection hv with hA
    subst hA
    exact hc.ri hb
end Go.Proofs.YtdhbkifpodekcaaGreatDoor
namespace Go.Proofs.YtdhbkifpodekcaaGreatDoor
open Go.ChangeShapes Go.WideShapes Go.ChangeAt Go.RowKit
set_option linter.unusedVariables false
set_option maxRecDepth 100000
structure On (g:Nat) (w w':World):Prop where
  os:w'.os=w.os
  tape:w'.tape=w.tape
  output:w'.output=w.output
  size:w.heap.size≤w'.heap.size
  block:∀ k,k≠g→k < w.heap.size→w'.heap[k]?=w.heap[k]?
theorem On.refl (g:Nat) (w:World):On g w w:=⟨rfl,rfl,rfl,Nat.le_refl _,fun _ _ _=>rfl⟩
theorem On.trans {g:Nat} {a b c:World} (h:On g a b) (k:On g b c):On g a c :=
  ⟨k.os.trans h.os,k.tape.trans h.tape,k.output.trans h.output,Nat.le_trans h.size k.size,fun i hi hl=>(k.block i hi (Nat.lt_of_lt_of_le hl h.size)).trans (h.block i hi hl)⟩
theorem On.of_mor {g:Nat} {w w':World} (h:Mor w w'):On g w w':=by
  have hb:=h.below
  exact ⟨hb.os,hb.tape,hb.output,hb.size,fun k _ hk=>hb.block k hk⟩
theorem On.mor {g:Nat} {w w1 w2:World} (h:On g w w1) (hm:Mor w1 w2):On g w w2:=h.trans (On.of_mor hm)
theorem On.setCell {g i:Nat} {w w':World} (h:On g w w') (u:Value):On g w (w'.setCell ⟨g,i,none⟩ u) :=
  ⟨h.os,h.tape,h.output,by rw [show (w'.setCell ⟨g,i,none⟩ u).heap.size=w'.heap.size by simp [World.setCell]];exact h.size,fun k hk hl=>(Below.heap_setCell _ _ _ _ hk).trans (h.block k hk hl)⟩
theorem On.drew {g:Nat} {w w':World} (h:On g w w'):On g w w'.drew:=⟨h.os,h.tape,h.output,h.size,h.block⟩
theorem On.drewN {g n:Nat} {w w':World} (h:On g w w'):On g w (w'.drewN n):=⟨h.os,h.tape,h.output,h.size,h.block⟩
theorem On.blk {g:Nat} {w w':World} {b:Nat} {t:TypeId} {cs:Array Value} (h:On g w w') (hb:Blk w b t cs) (hne:b≠g):Blk w' b t cs:=(h.block b hne hb.lt).trans hb
end Go.Proofs.YtdhbkifpodekcaaGreatDoor
namespace Go.Proofs.YtdhbkifpodekcaaGreatDoor
open Go.ChangeShapes Go.WideShapes Go.ChangeAt Go.RowKit Stb
set_option linter.unusedVariables false
set_option maxRecDepth 100000
def Dat (w:World) (g:Nat) (xs:List Int):Prop:=∃ T cur,Blk w g T cur∧CurR cur xs
theorem Dat.cell {w:World} {g:Nat} {xs:List Int} (h:Dat w g xs) (i:Nat) (hi:i < xs.length):w.cell? ⟨g,i,none⟩=some (.int .i64 (ge xs i)):=by
  obtain ⟨T,cur,hb,hc⟩:=h
  rw [hb.cell];exact hc i hi
theorem Dat.frozen {w:World} {g:Nat} {xs:List Int} (h:Dat w g xs) (i:Nat):w.frozen? ⟨g,i,none⟩=false:=by
  obtain ⟨T,cur,hb,hc⟩:=h
  exact hb.frozen i
theorem Dat.swp {w:World} {g:Nat} {xs:List Int} (h:Dat w g xs) (i j:Nat):Dat ((w.setCell ⟨g,i,none⟩ (.int .i64 (ge xs j))).setCell ⟨g,j,none⟩ (.int .i64 (ge xs i))) g (swp xs i j):=by
  obtain ⟨T,cur,hb,hc⟩:=h
  exact ⟨T,_,(hb.set_ i _).set_ j _,(hc.set i _).set j _⟩
theorem Dat.drewN {w:World} {g n:Nat} {xs:List Int} (h:Dat w g xs):Dat (w.drewN n) g xs:=h
theorem Dat.drew {w:World} {g:Nat} {xs:List Int} (h:Dat w g xs):Dat w.drew g xs:=h
def ModPost (w:World) (g:Nat) (R:List Int→Prop) (e:Ending) (w':World):Prop :=
  e=.returned (.tuple #[])∧∃ ys,R ys∧Dat w' g ys∧On g w w'
set_option maxRecDepth 100000 in
set_option maxHeartbeats 3200000 in
theorem swr_any (g N cap a b n:Nat) (cv:Value) (xs:List Int) (w:World) (hd:Dat w g xs) (hN:xs.length=N) (hl:N≤1000) (h1:a+n≤b) (h2:b+n≤N) :
    Calls Tryz.prog 207 #[.slice (some ⟨g,0,none⟩) N cap,.int .i64 a,.int .i64 b,.int .i64 n,cv] w (ModPost w g (fun ys=>Swr xs ys a b n)):=by
  have HD:=Lib.hid hd
  have HN:=Lib.hid hN
  clear hd hN
  go_enter Tryz.func207,Tryz.ntmps207
  go_wp2
  go_loopw [10] (fun i wr=>∃ (k:Nat) (ys:List Int),k≤n∧i=.int .i64 k∧Hid (Swr xs ys a b k)∧Hid (Dat wr g ys)∧Hid (On g w wr)) (fun i _=>n - (intOf i).toNat)
  case atStart=>exact ⟨0,xs,Nat.zero_le _,rfl,Lib.hid (Swr.zero _ _ _),HD,Lib.hid (On.refl _ _)⟩
  case round =>
    obtain ⟨k,ys,hk,rfl,HS,HY,HO⟩:=hrel
    by_cases hlt:k < n
    · have hki:(k:Int) < (n:Int):=by omega
      obtain ⟨p,hp⟩:∃ p,p=a+k:=⟨_,rfl⟩
      obtain ⟨q,hq⟩:∃ q,q=b+k:=⟨_,rfl⟩
      have e1:(a:Int)+(k:Int)=(p:Int):=by omega
      have e2:(b:Int)+(k:Int)=(q:Int):=by omega
      have p0:(0:Int)≤(p:Int):=by omega
      have q0:(0:Int)≤(q:Int):=by omega
      have pN:(p:Int) < (N:Int):=by omega
      have qN:(q:Int) < (N:Int):=by omega
      have hyl:ys.length=N:=by rw [HS.out.len,HN.out]
      have cp:=HY.out.cell p (by omega)
      have cq:=HY.out.cell q (by omega)
      have fp:=HY.out.frozen p
      have fq:=HY.out.frozen q
      have HS':=Lib.hid (show Swr xs (swp ys p q) a b (k+1) by rw [hp,hq];exact HS.out.step (by omega) (by rw [HN.out];omega))
      have HY':=Lib.hid (HY.out.swp p q)
      have HO':=Lib.hid ((HO.out.setCell (i:=p) (.int .i64 (ge ys q))).setCell (i:=q) (.int .i64 (ge ys p)))
      have hpq:p≠q:=by omega
      generalize ge ys p=u at *
      generalize ge ys q=v at *
      clear hp hq hyl
      go_wp2
      go_region
      all_goals go_wp2
      go_roundw
      case rel=>exact ⟨k+1,swp ys p q,by omega,by go_num,HS',Lib.hid (Dat.drew HY'.out),Lib.hid (On.drew HO'.out)⟩
      case measure=>simp [intOf];omega
    · obtain rfl:k=n:=by omega
      go_wp2
      go_end0
      exact ⟨rfl,ys,HS.out,HY.out,HO.out⟩
theorem rotl_ex {xs:List Int} {a m b:Nat} (h1:a≤m) (h2:m≤b) (h3:b≤xs.length):∃ ts,Todo xs ts a m b:=by
  refine ⟨(List.range xs.length).map fun i=>ge xs (rix a m b i),by simp,fun i=>?_⟩
  rw [List.getElem?_map]
  by_cases h:i < xs.length
  · rw [List.getElem?_range h,ge_some (by unfold rix;split <;> (try split) <;> omega)];rfl
  · rw [List.getElem?_eq_none (by simpa using h),rix,if_pos (by omega),List.getElem?_eq_none (by omega)];rfl
set_option maxRecDepth 100000 in
set_option maxHeartbeats 3200000 in
theorem rot_any (g N cap a m b:Nat) (cv:Value) (xs:List Int) (w:World) (hd:Dat w g xs) (hN:xs.length=N) (hl:N≤1000) (h1:a < m) (h2:m < b) (h3:b≤N) :
    Calls Tryz.prog 201 #[.slice (some ⟨g,0,none⟩) N cap,.int .i64 a,.int .i64 m,.int .i64 b,cv] w (ModPost w g (fun ys=>Rot xs ys a m b)):=by
  have HD:=Lib.hid hd
  have HN:=Lib.hid hN
  obtain ⟨ts,hts⟩:=rotl_ex (xs:=xs) (a:=a) (m:=m) (b:=b) (by omega) (by omega) (by omega)
  have HT:=Lib.hid hts
  have HSw:=Lib.hid (fun a b n ys w (h:Dat w g ys) (h2:ys.length=N)=>swr_any g N cap a b n cv ys w h h2 hl)
  clear hts
  clear hd hN
  go_enter Tryz.func201,Tryz.ntmps201
  go_wp2
  go_loopw [10,11] (fun vi vj wr=>∃ (i j:Nat) (ys:List Int),1≤i∧a+i≤m∧1≤j∧m+j≤b∧vi=.int .i64 i∧vj=.int .i64 j∧Hid (ys.length=N)∧Hid (Todo ys ts (m - i) m (m+j))∧Hid (Dat wr g ys)∧Hid (On g w wr)) (fun vi vj _=>(intOf vi).toNat+(intOf vj).toNat)
  case atStart=>exact ⟨m - a,b - m,xs,by omega,by omega,by omega,by omega,by congr 1;omega,by congr 1;omega,HN,Lib.hid (by have:=HT.out;rw [show m - (m - a)=a by omega,show m+(b - m)=b by omega];exact this),HD,Lib.hid (On.refl _ _)⟩
  case round =>
    obtain ⟨i,j,ys,i1,i2,j1,j2,rfl,rfl,HL,HTo,HY,HO⟩:=hrel
    obtain ⟨p,hp⟩:∃ p,p=m - i:=⟨_,rfl⟩
    have e1:(m:Int) - (i:Int)=(p:Int):=by omega
    have HP:=Lib.hid hp
    clear hp
    by_cases hij:i=j
    · subst hij
      have HC:=Lib.hid (HSw.out p m i ys wr HY.out HL.out (by rw [HP.out];omega) (by omega))
      go_wp2_with (first | (go_at_call 207;(with_reducible refine HC.out.mono ?_);rintro e w1 ⟨rfl,zs,hz,hdz,hon⟩))
      go_end0
      rw [HP.out] at hz
      obtain rfl:=HTo.out.last hz (by omega)
      exact ⟨rfl,ts,⟨by rw [hz.len,HL.out,HN.out],HT.out.at_⟩,hdz,HO.out.trans hon⟩
    · by_cases hlt:j < i
      · have hji:(j:Int) < (i:Int):=by omega
        have hne:((i:Int) == (j:Int))=false:=by simp;omega
        have HC:=Lib.hid (HSw.out p m j ys wr HY.out HL.out (by rw [HP.out];omega) (by omega))
        clear hij
        go_wp2_with (first | (go_at_call 207;(with_reducible refine HC.out.mono ?_);rintro e w1 ⟨rfl,zs,hz,hdz,hon⟩))
        have HZ:=Lib.hid hz
        have HDz:=Lib.hid hdz
        have HOn:=Lib.hid (HO.out.trans hon)
        clear hz hdz hon
        go_roundw
        case rel=>exact ⟨i - j,j,zs,by omega,by omega,j1,j2,by congr 1;omega,rfl,Lib.hid (by rw [HZ.out.len,HL.out]),Lib.hid (by have h:=HZ.out;rw [HP.out] at h;exact HTo.out.left h (by omega) hlt),HDz,HOn⟩
        case measure=>simp [intOf];omega
      · have hji:¬ ((j:Int) < (i:Int)):=by omega
        have hne:((i:Int) == (j:Int))=false:=by simp;omega
        obtain ⟨q,hq⟩:∃ q,q=m+j:=⟨_,rfl⟩
        obtain ⟨r,hr⟩:∃ r,r=q - i:=⟨_,rfl⟩
        have e2:(m:Int)+(j:Int)=(q:Int):=by omega
        have e3:(q:Int) - (i:Int)=(r:Int):=by omega
        have HC:=Lib.hid (HSw.out p r i ys wr HY.out HL.out (by rw [HP.out];omega) (by omega))
        have HQ:=Lib.hid (show r=m+j - i by omega)
        have hil:i < j:=by omega
        clear hij hq hr
        go_wp2_with (first | (go_at_call 207;(with_reducible refine HC.out.mono ?_);rintro e w1 ⟨rfl,zs,hz,hdz,hon⟩))
        have HZ:=Lib.hid hz
        have HDz:=Lib.hid hdz
        have HOn:=Lib.hid (HO.out.trans hon)
        clear hz hdz hon
        go_roundw
        case rel=>exact ⟨i,j - i,zs,i1,i2,by omega,by omega,rfl,by congr 1;omega,Lib.hid (by rw [HZ.out.len,HL.out]),Lib.hid (by have h:=HZ.out;rw [HP.out,HQ.out] at h;exact HTo.out.right h (by omega) hil),HDz,HOn⟩
        case measure=>simp [intOf];omega
end Go.Proofs.YtdhbkifpodekcaaGreatDoor
