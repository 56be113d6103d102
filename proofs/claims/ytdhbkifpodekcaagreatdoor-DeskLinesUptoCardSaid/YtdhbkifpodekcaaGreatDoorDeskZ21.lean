/- Texts of this claim. -/
import Derived.Test.YtdhbkifpodekcaaGreatDoorDeskZ18
import Derived.Test.YtdhbkifpodekcaaGreatDoorDeskZ20
namespace Go.Proofs.YtdhbkifpodekcaaGreatDoor
open Go.ChangeShapes Go.WideShapes Go.ChangeAt Go.RowKit Stb
set_option linter.unusedVariables false
set_option maxRecDepth 100000
def swOk (v:Int):Bool:=decide (0≤v) && decide (v≤1000000)
def swc (l:List Int):Int:=if 40 < l.length then 2 else if l.all swOk=true then 0 else 1
def swv (l:List Int):Int:=if swc l=0 then l.sum else 0
def sumk (l:List Int) (k:Nat):Int:=(l.take k).sum
theorem sumk_succ (l:List Int) (k:Nat) (h:k < l.length):sumk l (k+1)=sumk l k+l.getD k 0:=sum_take_succ l k h
theorem all_take_succ (l:List Int) (k:Nat) (h:k < l.length):(l.take (k+1)).all swOk=((l.take k).all swOk && swOk (l.getD k 0)):=by
  rw [List.take_succ_eq_append_getElem h,List.all_append]
  congr 1
  simp [List.getD_eq_getElem?_getD,h]
theorem all_bad {l:List Int} {k:Nat} (h:k < l.length) (hb:swOk (l.getD k 0)=false):l.all swOk=false:=by
  rw [List.all_eq_false]
  exact ⟨l.getD k 0,getD_mem l k h,by rw [hb];simp⟩
theorem swOk_sumk {l:List Int} {k:Nat} (hk:k≤l.length) (h:(l.take k).all swOk=true):0≤sumk l k∧sumk l k≤1000000*k:=by
  induction k with
  | zero=>simp [sumk]
  | succ k ih =>
    rw [all_take_succ l k (by omega),Bool.and_eq_true] at h
    have:=ih (by omega) h.1
    have h2:=h.2
    unfold swOk at h2
    rw [Bool.and_eq_true,decide_eq_true_iff,decide_eq_true_iff] at h2
    rw [sumk_succ l k (by omega)]
    omega
set_option maxRecDepth 100000 in
set_option maxHeartbeats 3200000 in
theorem sweights_any (A:Option Addr) (n cap:Nat) (l:List Int) (w:World) (hr:Ri w A l) (hn:l.length=n) (hml:n≤maxLen) :
    Calls Tryz.prog 97 #[.slice A n cap] w fun e w'=>e=.returned (.tuple #[.int .i64 (swv l),.int .i64 (swc l)])∧w=w':=by
  unfold maxLen at hml
  have HR:=Lib.hid hr
  have HN:=Lib.hid hn
  clear hr
  by_cases h12:40 < n
  · have HL:=Lib.hid (show swc l=2 by unfold swc;rw [hn,if_pos h12])
    have HV:=Lib.hid (show swv l=0 by unfold swv;rw [HL.out];rfl)
    clear hn
    go_enter Tryz.func97,Tryz.ntmps97
    go_wp2
    go_returns
    exact ⟨by rw [HL.out,HV.out] <;> rfl,rfl⟩
  · have HL:=Lib.hid (show swc l=if l.all swOk=true then 0 else 1 by unfold swc;rw [hn,if_neg h12])
    have h12':n≤40:=by omega
    clear hn h12
    go_enter Tryz.func97,Tryz.ntmps97
    go_wp2
    go_loop [4,12] (fun s i=>∃ k:Nat,k≤n∧i=.int .i64 k∧s=.int .i64 (sumk l k)∧Hid ((l.take k).all swOk=true)) (fun _ i=>n - (intOf i).toNat)
    case atStart=>exact ⟨0,Nat.zero_le _,rfl,by simp [sumk],Lib.hid (by simp)⟩
    case round =>
      obtain ⟨k,hk,rfl,rfl,HU⟩:=hrel
      obtain ⟨o1,o2⟩:=swOk_sumk (by rw [HN.out];exact hk) HU.out
      by_cases hlt:k < n
      · have hki:(k:Int) < (n:Int):=by omega
        have hk0:(0:Int)≤(k:Int):=by omega
        obtain ⟨x,hA,hxb,c1⟩:=HR.out.at_ k (by rw [HN.out];exact hlt)
        subst hA
        have HBad:=Lib.hid (fun h:swOk (l.getD k 0)=false=>show swc l=1 by rw [HL.out,all_bad (by rw [HN.out];exact hlt) h];rfl)
        have HOk:=Lib.hid (fun h:swOk (l.getD k 0)=true=>show (l.take (k+1)).all swOk=true by rw [all_take_succ l k (by rw [HN.out];exact hlt),HU.out,h];rfl)
        have HSm:=Lib.hid (sumk_succ l k (by rw [HN.out];exact hlt))
        have HAt:=Lib.hid (show swOk (l.getD k 0)=(decide (0≤l.getD k 0) && decide (l.getD k 0≤1000000)) from rfl)
        generalize l.getD k 0=v at *
        generalize sumk l k=o at *
        have hcase:v < 0∨(0≤v∧1000000 < v)∨(0≤v∧v≤1000000):=by omega
        rcases hcase with h | ⟨h1,h2⟩ | ⟨h1,h2⟩
        · have HF:=Lib.hid (HBad.out (by rw [HAt.out];simp;omega))
          have HV:=Lib.hid (show swv l=0 by unfold swv;rw [HF.out];rfl)
          go_wp2
          go_returns
          exact ⟨by rw [HF.out,HV.out] <;> rfl,rfl⟩
        · have HF:=Lib.hid (HBad.out (by rw [HAt.out];simp;omega))
          have HV:=Lib.hid (show swv l=0 by unfold swv;rw [HF.out];rfl)
          go_wp2
          go_returns
          exact ⟨by rw [HF.out,HV.out] <;> rfl,rfl⟩
        · have HG:=Lib.hid (HOk.out (by rw [HAt.out];simp;omega))
          go_wp2
          go_round
          case rel=>exact ⟨k+1,by omega,by go_num,by rw [HSm.out],HG⟩
          case measure=>simp [intOf];omega
      · obtain rfl:k=n:=by omega
        have HF:=Lib.hid (show swc l=0 by
          have:=HU.out
          rw [List.take_of_length_le (by rw [HN.out];exact Nat.le_refl _)] at this
          rw [HL.out,this];rfl)
        have HV:=Lib.hid (show swv l=sumk l k by unfold swv sumk;rw [HF.out,List.take_of_length_le (by rw [HN.out];exact Nat.le_refl _)];rfl)
        generalize sumk l k=o at *
        go_wp2
        go_returns
        exact ⟨by rw [HF.out,HV.out] <;> rfl,rfl⟩
set_option maxRecDepth 100000 in
set_option maxHeartbeats 1600000 in
theorem bycmp_any (bA bL bS:Nat) (a S:Int) (A:Option Addr) (n cap:Nat) (l:List Int) (x y:Nat) (w:World)
    (hA:w.cell? ⟨bA,0,none⟩=some (.int .i64 a)) (hL:w.cell? ⟨bL,0,none⟩=some (.slice A n cap)) (hS:w.cell? ⟨bS,0,none⟩=some (.int .i64 S)) (hr:Ri w A l) (hn:l.length=n) (hl:n≤1000)
    (hx:x < n) (hy:y < n) (ha:0≤a) (ha2:a≤1000000000000) (hw:∀ k,k < n→0≤l.getD k 0∧l.getD k 0≤1000000) (h1:1≤S) (h2:S≤40000000) :
    Calls Tryz.prog 100 #[.int .i64 x,.int .i64 y,.pointer (some ⟨bA,0,none⟩),.pointer (some ⟨bL,0,none⟩),.pointer (some ⟨bS,0,none⟩)] w fun e w'=>e=.returned (.int .i64 (a*l.getD y 0 % S - a*l.getD x 0 % S))∧∃ m,w'=w.drewN m:=by
  obtain ⟨z,hz,hzb,cx⟩:=hr.at_ x (by omega)
  obtain ⟨z',hz',hzb',cy⟩:=hr.at_ y (by omega)
  subst hz
  injection hz' with e
  subst e
  obtain ⟨u1,u2⟩:=hw x hx
  obtain ⟨v1,v2⟩:=hw y hy
  generalize l.getD x 0=u at *
  generalize l.getD y 0=v at *
  obtain ⟨p1,p2⟩:=prod_bd a u 1000000000000 1000000 (by omega) ha2 (by omega) u2 (by omega)
  obtain ⟨p3,p4⟩:=prod_bd a v 1000000000000 1000000 (by omega) ha2 (by omega) v2 (by omega)
  have p5:0≤a*u:=Int.mul_nonneg ha u1
  have p6:0≤a*v:=Int.mul_nonneg ha v1
  have r1:=Int.emod_nonneg (a*u) (show S≠0 by omega)
  have r2:=Int.emod_lt_of_pos (a*u) (show 0 < S by omega)
  have r3:=Int.emod_nonneg (a*v) (show S≠0 by omega)
  have r4:=Int.emod_lt_of_pos (a*v) (show 0 < S by omega)
  have hxi:(x:Int) < (n:Int):=by omega
  have hyi:(y:Int) < (n:Int):=by omega
  have hx0:(0:Int)≤(x:Int):=by omega
  have hy0:(0:Int)≤(y:Int):=by omega
  clear hw hr hzb hzb'
  go_enter Tryz.func100,Tryz.ntmps100
  go_wp2
  go_quiet (fail)
  go_wp2
  go_ret
  exact ⟨rfl,_,rfl⟩
def pord (a:Int) (l:List Int):List Int:=isort (skey a l.sum l) (idx l.length)
theorem pord_ok (a:Int) (l:List Int):Ordp a l.sum l (pord a l):=⟨by unfold pord;rw [isort_len,idx_len],isort_srt _,isort_same _⟩
def byl (A:Int) (l:List Int):List Int:=if 0≤A then prts A l.sum l (pord A l) else (prts (-A) l.sum l (pord (-A) l)).map fun x=>-x
def byc (A:Int) (l:List Int):Int:=if swc l≠0 then swc l else if A < -1000000000000∨1000000000000 < A then 1 else if l.sum=0 then 6 else 0
def flp (a:Int) (l:List Int) (k:Nat):Int:=sumr k fun i=>a*l.getD i 0 / l.sum
theorem flp_succ (a:Int) (l:List Int) (k:Nat):flp a l (k+1)=flp a l k+a*l.getD k 0 / l.sum:=sumr_succ ..
def fz (n:Nat) (f:Nat→Int) (k:Nat):List Int:=(List.range n).map fun i=>if i < k then f i else 0
def fg (n:Nat) (f g:Nat→Int) (k:Nat):List Int:=(List.range n).map fun i=>if i < k then f i else g i
theorem fg_len (n:Nat) (f g:Nat→Int) (k:Nat):(fg n f g k).length=n:=by simp [fg]
theorem fg_get (n:Nat) (f g:Nat→Int) (k i:Nat) (h:i < n):ge (fg n f g k) i=if i < k then f i else g i:=by
  unfold ge fg;rw [List.getD_eq_getElem?_getD,List.getElem?_map,List.getElem?_range h];rfl
theorem fg_step (n:Nat) (f g:Nat→Int) (k:Nat) (h:k < n):(fg n f g k).set k (f k)=fg n f g (k+1):=by
  apply List.ext_getElem?
  intro i
  rw [List.getElem?_set,fg_len]
  unfold fg
  rw [List.getElem?_map,List.getElem?_map]
  by_cases e:k=i
  · subst e;rw [if_pos rfl,if_pos h,List.getElem?_range h];simp
  · rw [if_neg e]
    by_cases hi:i < n
    · rw [List.getElem?_range hi]
      show some _=some _
      congr 1
      dsimp only
      by_cases c:i < k
      · rw [if_pos c,if_pos (by omega)]
      · rw [if_neg c,if_neg (by omega)]
    · rw [List.getElem?_eq_none (by simpa using hi)];rfl
theorem fg_all (n:Nat) (f g:Nat→Int):fg n f g n=(List.range n).map f:=by
  unfold fg
  refine List.map_congr_left fun i hi=>?_
  rw [if_pos (List.mem_range.1 hi)]
theorem fg_zero (n:Nat) (f g:Nat→Int):fg n f g 0=(List.range n).map g:=by
  unfold fg
  refine List.map_congr_left fun i hi=>?_
  rw [if_neg (by omega)]
def inc (a:Int) (l ys:List Int) (k:Nat):List Int:=(List.range l.length).map fun i=>a*l.getD i 0 / l.sum+(((ys.take k).count (i:Int):Nat):Int)
theorem inc_len (a:Int) (l ys:List Int) (k:Nat):(inc a l ys k).length=l.length:=by simp [inc]
theorem inc_get (a:Int) (l ys:List Int) (k i:Nat) (h:i < l.length):ge (inc a l ys k) i=a*l.getD i 0 / l.sum+(((ys.take k).count (i:Int):Nat):Int):=by
  unfold ge inc;rw [List.getD_eq_getElem?_getD,List.getElem?_map,List.getElem?_range h];rfl
theorem inc_zero (a:Int) (l ys:List Int):inc a l ys 0=(List.range l.length).map fun i=>a*l.getD i 0 / l.sum:=by
  unfold inc;refine List.map_congr_left fun i hi=>?_;simp
theorem inc_step (a:Int) (l ys:List Int) (k j:Nat) (hk:k < ys.length) (hj:j < l.length) (e:ge ys k=(j:Int)):(inc a l ys k).set j (ge (inc a l ys k) j+1)=inc a l ys (k+1):=by
  rw [inc_get _ _ _ _ _ hj]
  have t:ys.take (k+1)=ys.take k++[(j:Int)]:=by
    rw [List.take_succ_eq_append_getElem hk]
    have:=ge_some hk
    rw [List.getElem?_eq_getElem hk] at this
    injection this with this
    rw [this,e]
  apply List.ext_getElem?
  intro i
  rw [List.getElem?_set,inc_len]
  unfold inc
  rw [List.getElem?_map,List.getElem?_map,t]
  by_cases c:j=i
  · subst c;rw [if_pos rfl,if_pos hj,List.getElem?_range hj]
    show some _=some _
    congr 1
    dsimp only
    rw [List.count_append];simp;omega
  · rw [if_neg c]
    by_cases hi:i < l.length
    · rw [List.getElem?_range hi]
      show some _=some _
      congr 1
      dsimp only
      rw [List.count_append]
      have:List.count (i:Int) [(j:Int)]=0:=List.count_eq_zero.2 (by simp;omega)
      rw [this];simp
    · rw [List.getElem?_eq_none (by simpa using hi)];rfl
theorem ri_getD {l:List Int} (hw:∀ x∈l,0≤x∧x≤1000000) (k:Nat):0≤l.getD k 0∧l.getD k 0≤1000000:=by
  by_cases h:k < l.length
  · exact hw _ (getD_mem l k h)
  · rw [List.getD_eq_getElem?_getD,List.getElem?_eq_none (by omega)];simp
theorem getD_le_sum {l:List Int} (hw:∀ x∈l,0≤x) (k:Nat):l.getD k 0≤l.sum∧0≤l.sum:=by
  induction l generalizing k with
  | nil=>simp
  | cons x l ih =>
    have h0:=hw x (by simp)
    have h1:=fun k=>ih (fun y hy=>hw y (by simp [hy])) k
    cases k with
    | zero=>have:=h1 0;simp;omega
    | succ k =>
      have:=h1 k
      rw [List.getD_cons_succ,List.sum_cons];omega
theorem share_bd {a S v:Int} (ha:0≤a) (ha2:a≤1000000000000) (hv:0≤v) (hv2:v≤1000000) (hs:v≤S) (h0:0 < S):0≤a*v∧a*v≤1000000000000000000∧0≤a*v / S∧a*v / S≤1000000000000:=by
  have p1:0≤a*v:=Int.mul_nonneg ha hv
  have p2:=prod_bd a v 1000000000000 1000000 (by omega) ha2 hv hv2 (by omega)
  have p3:a*v≤a*S:=Int.mul_le_mul_of_nonneg_left hs ha
  have p4:a*v / S≤a:=by
    have:=Int.ediv_le_ediv h0 p3
    rw [Int.mul_ediv_cancel _ (by omega)] at this;exact this
  exact ⟨p1,by omega,Int.ediv_nonneg p1 (by omega),by omega⟩
theorem flp_bd {a:Int} {l:List Int} (ha:0≤a) (ha2:a≤1000000000000) (hw:∀ x∈l,0≤x∧x≤1000000) (h0:0 < l.sum) (k:Nat):0≤flp a l k∧flp a l k≤1000000000000*k:=by
  induction k with
  | zero=>simp [flp,sumr_zero]
  | succ k ih =>
    rw [flp_succ]
    obtain ⟨u1,u2⟩:=ri_getD hw k
    have:=share_bd ha ha2 u1 u2 (getD_le_sum (fun x hx=>(hw x hx).1) k).1 h0
    omega
theorem flp_all (a:Int) (l:List Int):left a l.sum l=a - flp a l l.length:=rfl
def ByNo (w:World) (c:Int) (e:Ending) (w':World):Prop:=e=.returned (.tuple #[.slice none 0 0,.int .i64 c])∧Mor w w'
set_option maxRecDepth 100000 in
set_option maxHeartbeats 3200000 in
theorem by_no (a0:Int) (A:Option Addr) (n cap:Nat) (l:List Int) (w:World) (hr:Ri w A l) (hn:l.length=n) (hml:n≤maxLen) (hc:byc a0 l≠0) :
    Calls Tryz.prog 44 #[.int .i64 a0,.slice A n cap] w (ByNo w (byc a0 l)):=by
  have HW:=Lib.hid (fun w' (h:Mor w w')=>sweights_any A n cap l w' (hr.mor h) hn hml)
  clear hr hn
  by_cases h1:swc l=0
  · by_cases h2:a0 < -1000000000000∨1000000000000 < a0
    · have HF:=Lib.hid (show byc a0 l=1 by unfold byc;rw [if_neg (by simp [h1]),if_pos h2])
      rw [h1] at HW
      have HMo:=Lib.hid (fun w=>money_no a0 w h2)
      generalize swv l=S at *
      clear hc h1 h2
      go_enter Tryz.func44,Tryz.ntmps44
      go_wp2_with (first
        | (go_at_call 97;(with_reducible refine (HW.out _ ((Mor.refl _).alloc.alloc)).mono ?_);rintro e w1 ⟨rfl,rfl⟩)
        | (go_at_call 98;(with_reducible refine (HMo.out _).mono ?_);rintro e w2 ⟨rfl,rfl⟩))
      go_returns
      exact ⟨by rw [HF.out] <;> rfl,(Mor.refl _).alloc.alloc.alloc⟩
    · have h3:l.sum=0:=by
        by_cases h3:l.sum=0
        · exact h3
        · exfalso;apply hc;unfold byc;rw [if_neg (by simp [h1]),if_neg h2,if_neg h3]
      have HF:=Lib.hid (show byc a0 l=6 by unfold byc;rw [if_neg (by simp [h1]),if_neg h2,if_pos h3])
      rw [h1,show swv l=0 by unfold swv;rw [if_pos h1,h3]] at HW
      have HMo:=Lib.hid (fun w=>money_yes a0 w (by omega) (by omega))
      clear hc h1 h2 h3
      go_enter Tryz.func44,Tryz.ntmps44
      go_wp2_with (first
        | (go_at_call 97;(with_reducible refine (HW.out _ ((Mor.refl _).alloc.alloc)).mono ?_);rintro e w1 ⟨rfl,rfl⟩)
        | (go_at_call 98;(with_reducible refine (HMo.out _).mono ?_);rintro e w2 ⟨rfl,rfl⟩))
      go_returns
      exact ⟨by rw [HF.out] <;> rfl,(Mor.refl _).alloc.alloc.alloc⟩
  · have HF:=Lib.hid (show byc a0 l=swc l by unfold byc;rw [if_pos h1])
    have h1':(swc l == 0)=false:=by simpa using h1
    generalize swc l=c at *
    generalize swv l=S at *
    clear hc
    go_enter Tryz.func44,Tryz.ntmps44
    go_wp2_with (first
      | (go_at_call 97;(with_reducible refine (HW.out _ ((Mor.refl _).alloc.alloc)).mono ?_);rintro e w1 ⟨rfl,rfl⟩))
    go_returns
    exact ⟨by rw [HF.out] <;> rfl,(Mor.refl _).alloc.alloc.alloc⟩
end Go.Proofs.YtdhbkifpodekcaaGreatDoor
namespace Go.Proofs.YtdhbkifpodekcaaGreatDoor
open Go.ChangeShapes Go.WideShapes Go.ChangeAt Go.RowKit Stb
set_option linter.unusedVariables false
set_option maxRecDepth 100000
theorem Blk.oth {w:World} {g b i:Nat} {t:TypeId} {cs:Array Value} {u:Value} (h:Blk w g t cs) (hne:g≠b):Blk (w.setCell ⟨b,i,none⟩ u) g t cs:=(Below.heap_setCell _ _ _ _ hne).trans h
structure Fr (w wr:World) (bA bL bS:Nat) (a S:Int) (A:Option Addr) (n cap:Nat):Prop where
  vA:Blk wr bA 3 #[.int .i64 a]
  vL:Blk wr bL 71 #[.slice A n cap]
  vS:Blk wr bS 3 #[.int .i64 S]
  below:Below w.heap.size w wr
section
variable {w wr : World} {bA bL bS : Nat} {a S : Int} {A : Option Addr} {n cap : Nat} (h : Fr w wr bA bL bS a S A n cap)
include h
theorem Fr.set {g i:Nat} {u:Value} (h1:bA≠g) (h2:bL≠g) (h3:bS≠g) (h4:w.heap.size≤g):Fr w (wr.setCell ⟨g,i,none⟩ u) bA bL bS a S A n cap :=
  ⟨h.vA.oth h1,h.vL.oth h2,h.vS.oth h3,h.below.setCell h4 _⟩
theorem Fr.drew:Fr w wr.drew bA bL bS a S A n cap:=⟨h.vA,h.vL,h.vS,⟨h.below.os,h.below.tape,h.below.output,h.below.size,h.below.block⟩⟩
theorem Fr.on {g:Nat} {w':World} (o:On g wr w') (h1:bA≠g) (h2:bL≠g) (h3:bS≠g) (h4:w.heap.size≤g):Fr w w' bA bL bS a S A n cap:=by
  have e:∀ {b:Nat} {t:TypeId} {cs:Array Value},Blk wr b t cs→b≠g→Blk w' b t cs:=fun hb hne=>o.blk hb hne
  refine ⟨e h.vA h1,e h.vL h2,e h.vS h3,?_⟩
  have hb:=h.below
  exact ⟨o.os.trans hb.os,o.tape.trans hb.tape,o.output.trans hb.output,Nat.le_trans hb.size o.size,fun k hk=>(o.block k (by omega) (Nat.lt_of_lt_of_le hk hb.size)).trans (hb.block k hk)⟩
end
theorem ic_cur (xs:List Int):CurR (ic xs) xs:=fun i hi=>ic_get xs i hi
theorem Blk.dat {w:World} {g:Nat} {t:TypeId} {xs:List Int} (h:Blk w g t (ic xs)):Dat w g xs:=⟨t,_,h,ic_cur _⟩
theorem size_alloc (w:World) (o:Obj):(w.alloc o).heap.size=w.heap.size+1:=by show (w.heap.push o).size=_;simp
theorem Blk.at_new (w:World) (t:TypeId) (cs:Array Value) {g:Nat} (h:g=w.heap.size):Blk (w.alloc (.cells cs t)) g t cs:=by rw [h];exact Blk.new _ _ _
theorem five (w:World) (a S:Int) (A:Option Addr) (n cap:Nat) (C D:Array Value) (t0 t1 t2 t3 t4:TypeId) {b0 b1 b2 b3 b4:Nat} (h0:b0=w.heap.size) (h1:b1=w.heap.size+1) (h2:b2=w.heap.size+1+1) (h3:b3=w.heap.size+1+1+1) (h4:b4=w.heap.size+1+1+1+1) :
    Fr w (((((w.alloc (.cells #[.int .i64 a] 3)).alloc (.cells #[.slice A n cap] 71)).alloc (.cells #[.int .i64 S] 3)).alloc (.cells C t3)).alloc (.cells D t4)) b0 b1 b2 a S A n cap ∧
    Blk (((((w.alloc (.cells #[.int .i64 a] 3)).alloc (.cells #[.slice A n cap] 71)).alloc (.cells #[.int .i64 S] 3)).alloc (.cells C t3)).alloc (.cells D t4)) b3 t3 C ∧
    Blk (((((w.alloc (.cells #[.int .i64 a] 3)).alloc (.cells #[.slice A n cap] 71)).alloc (.cells #[.int .i64 S] 3)).alloc (.cells C t3)).alloc (.cells D t4)) b4 t4 D :=
  ⟨⟨((((Blk.at_new _ _ _ h0).alloc _).alloc _).alloc _).alloc _,(((Blk.at_new _ _ _ (by rw [size_alloc];exact h1)).alloc _).alloc _).alloc _,((Blk.at_new _ _ _ (by rw [size_alloc,size_alloc];exact h2)).alloc _).alloc _,(Mor.refl _).alloc.alloc.alloc.alloc.alloc.below⟩,
    (Blk.at_new _ _ _ (by rw [size_alloc,size_alloc,size_alloc];exact h3)).alloc _,Blk.at_new _ _ _ (by rw [size_alloc,size_alloc,size_alloc,size_alloc];exact h4)⟩
theorem zeros (n:Nat) (f:Nat→Int):List.replicate n 0=fg n f (fun _=>0) 0:=by
  rw [fg_zero];apply List.ext_getElem (by simp);intro i h1 h2;simp
def ByOk2 (w:World) (a s:Int) (l:List Int) (e:Ending) (w':World):Prop :=
  ∃ g,e=.returned (.tuple #[.slice (some ⟨g,0,none⟩) l.length l.length,.int .i64 0])∧Mor w w'∧w.heap.size≤g∧Blk w' g 3 (ic ((List.range l.length).map fun i=>s*prt a l.sum l (pord a l) i))
set_option maxRecDepth 100000 in
set_option maxHeartbeats 6400000 in
theorem by_ok2 (a0 a s:Int) (A:Option Addr) (n cap:Nat) (l:List Int) (w:World) (hs:(s=1∧a=a0∧0≤a0)∨(s=-1∧-a=a0∧a0 < 0)) (ha:0≤a) (ha2:a≤1000000000000) (hr:Ri w A l) (hn:l.length=n) (hn1:1≤n) (hn2:n≤40) (h0:0 < l.sum) (hw:∀ x∈l,0≤x∧x≤1000000) (hc:swc l=0) :
    Calls Tryz.prog 44 #[.int .i64 a0,.slice A n cap] w (ByOk2 w a s l):=by
  have HW:=Lib.hid (fun w' (h:Mor w w')=>sweights_any A n cap l w' (hr.mor h) hn (by unfold maxLen;omega))
  have HV:=Lib.hid (show swv l=l.sum by unfold swv;rw [if_pos hc])
  rw [hc,HV.out] at HW
  have HMo:=Lib.hid (fun w=>money_yes a0 w (by omega) (by omega))
  have hmk:=fun w=>run_make_row' (P:=Tryz.prog) 71 3 (.int .i64 0) 8 Tryz.underlying71 info_int' rfl .i64 .i64 n (by omega) (by omega) w
  have HR:=Lib.hid hr
  have HN:=Lib.hid hn
  have HS0:=Lib.hid h0
  have HWt:=Lib.hid hw
  have HFl:=Lib.hid (fun k=>flp_bd ha ha2 hw h0 k)
  have HSh:=Lib.hid (fun k=>share_bd ha ha2 (ri_getD hw k).1 (ri_getD hw k).2 (getD_le_sum (fun x hx=>(hw x hx).1) k).1 h0)
  have HLe:=Lib.hid (show 0≤left a l.sum l∧left a l.sum l≤n from ⟨left_nonneg h0,by rw [← hn];exact left_le h0⟩)
  have hS1:0 < l.sum:=h0
  have hS2:l.sum≤40000000:=by
    have:=sum_bd l 1000000 (by omega) (fun x hx=>by have:=hw x hx;omega)
    omega
  obtain ⟨S,hSe⟩:∃ S,l.sum=S:=⟨_,rfl⟩
  have HSe:=Lib.hid hSe
  rw [hSe] at HW hS1 hS2
  have hS3:(S == 0)=false:=by simp;omega
  clear hr hn h0 hw hc HV hSe
  rcases hs with ⟨h1,rfl,hs⟩ | ⟨h1,rfl,hs⟩
  all_goals
    have HSg:=Lib.hid h1
    clear h1
    go_enter Tryz.func44,Tryz.ntmps44
    go_wp2_with (first
      | (go_at_call 97;(with_reducible refine (HW.out _ ((Mor.refl _).alloc.alloc)).mono ?_);rintro e w1 ⟨rfl,rfl⟩)
      | (go_at_call 98;(with_reducible refine (HMo.out _).mono ?_);rintro e w2 ⟨rfl,rfl⟩))
    try (go_region;go_wp2)
    clear hmk
    rw [ic_zero]
    obtain ⟨b4,h4⟩:∃ b,b=w.heap.size+1+1+1+1:=⟨_,rfl⟩
    obtain ⟨b3,h3⟩:∃ b,b=w.heap.size+1+1+1:=⟨_,rfl⟩
    obtain ⟨b2,h2⟩:∃ b,b=w.heap.size+1+1:=⟨_,rfl⟩
    obtain ⟨b1,h1⟩:∃ b,b=w.heap.size+1:=⟨_,rfl⟩
    obtain ⟨b0,h0⟩:∃ b,b=w.heap.size:=⟨_,rfl⟩
    have H5:=Lib.hid (five w a S A n cap (ic (List.replicate n 0)) (ic (List.replicate n 0)) 3 3 3 3 3 h0 h1 h2 h3 h4)
    have HBn:=Lib.hid (show b0 < b1∧b1 < b2∧b2 < b3∧b3 < b4∧w.heap.size=b0 by omega)
    rw [← h4,← h3,← h2,← h1,← h0]
    have n34:b3≠b4:=by omega
    have n04:b0≠b4:=by omega
    have n03:b0≠b3:=by omega
    have n24:b2≠b4:=by omega
    have n23:b2≠b3:=by omega
    have n14:b1≠b4:=by omega
    have n13:b1≠b3:=by omega
    clear h0 h1 h2 h3 h4
    go_loopw [11,46] (fun v i wr=>∃ k:Nat,k≤n∧i=.int .i64 k∧v=.int .i64 (a - flp a l k)∧Hid (Fr w wr b0 b1 b2 a S A n cap)∧Hid (Blk wr b3 3 (ic (fg n (fun i=>a*l.getD i 0 / l.sum) (fun _=>0) k)))∧Hid (Blk wr b4 3 (ic (fg n (fun i=>(i:Int)) (fun _=>0) k)))) (fun _ i _=>n - (intOf i).toNat)
    case atStart =>
      obtain ⟨f1,f2,f3⟩:=H5.out
      refine ⟨0,Nat.zero_le _,rfl,by simp [flp,sumr_zero],Lib.hid ?_,Lib.hid ?_,Lib.hid ?_⟩
      · first | exact f1 | exact f1.drew
      · rw [← zeros];first | exact f2 | exact f2.drew
      · rw [← zeros];first | exact f3 | exact f3.drew
    case round =>
      obtain ⟨k,hk,rfl,rfl,HF,HB3,HB4⟩:=hrel
      obtain ⟨q1,q2⟩:=HFl.out k
      by_cases hlt:k < n
      · have hki:(k:Int) < (n:Int):=by omega
        have hk0:(0:Int)≤(k:Int):=by omega
        obtain ⟨x,hA,hxb,c1⟩:=(HR.out.below HF.out.below).at_ k (by rw [HN.out];exact hlt)
        subst hA
        have cA:wr.cell? ⟨b0,0,none⟩=some (.int .i64 a):=by rw [HF.out.vA.cell];rfl
        have cS:wr.cell? ⟨b2,0,none⟩=some (.int .i64 S):=by rw [HF.out.vS.cell];rfl
        have c3:wr.cell? ⟨b3,k,none⟩=some (.int .i64 0):=by
          rw [HB3.out.cell,ic_get _ _ (by rw [fg_len];exact hlt)]
          show some (Value.int .i64 (ge (fg _ _ _ k) k))=_
          rw [fg_get _ _ _ _ _ hlt,if_neg (by omega)]
        have c4:wr.cell? ⟨b4,k,none⟩=some (.int .i64 0):=by
          rw [HB4.out.cell,ic_get _ _ (by rw [fg_len];exact hlt)]
          show some (Value.int .i64 (ge (fg _ _ _ k) k))=_
          rw [fg_get _ _ _ _ _ hlt,if_neg (by omega)]
        have f3:wr.frozen? ⟨b3,k,none⟩=false:=HB3.out.frozen k
        have f4:wr.frozen? ⟨b4,k,none⟩=false:=HB4.out.frozen k
        obtain ⟨s1,s2,s3,s4⟩:=HSh.out k
        rw [HSe.out] at s3 s4
        have HSt:=Lib.hid (show flp a l (k+1)=flp a l k+a*l.getD k 0 / S by rw [flp_succ,HSe.out])
        have H3:=Lib.hid (show Blk ((wr.setCell ⟨b3,k,none⟩ (.int .i64 (a*l.getD k 0 / S))).setCell ⟨b4,k,none⟩ (.int .i64 (k:Int))) b3 3 (ic (fg n (fun i=>a*l.getD i 0 / l.sum) (fun _=>0) (k+1))) by
          rw [← fg_step _ _ _ _ hlt,← ic_set,HSe.out];have hb:=HB3.out;rw [HSe.out] at hb;exact (hb.set_ k _).oth n34)
        have H4:=Lib.hid (show Blk ((wr.setCell ⟨b3,k,none⟩ (.int .i64 (a*l.getD k 0 / S))).setCell ⟨b4,k,none⟩ (.int .i64 (k:Int))) b4 3 (ic (fg n (fun i=>(i:Int)) (fun _=>0) (k+1))) by
          rw [← fg_step _ _ _ _ hlt,← ic_set];exact (HB4.out.oth (Ne.symm n34)).set_ k _)
        have H0:=Lib.hid (show Fr w ((wr.setCell ⟨b3,k,none⟩ (.int .i64 (a*l.getD k 0 / S))).setCell ⟨b4,k,none⟩ (.int .i64 (k:Int))) b0 b1 b2 a S _ n cap from
          (HF.out.set n03 n13 n23 (by have:=HBn.out;omega)).set n04 n14 n24 (by have:=HBn.out;omega))
        generalize l.getD k 0=v at *
        generalize flp a l k=q at *
        go_wp2
        go_roundw
        case rel=>exact ⟨k+1,by omega,by go_num,by rw [HSt.out];congr 1;omega,H0,H3,H4⟩
        case measure=>simp [intOf];omega
      · obtain rfl:k=n:=by omega
        obtain ⟨m,hm⟩:∃ m:Nat,a - flp a l k=(m:Int):=⟨(a - flp a l k).toNat,by have:=HLe.out;have e:=flp_all a l;rw [HN.out] at e;omega⟩
        have hmk:m≤k:=by have:=HLe.out;have e:=flp_all a l;rw [HN.out] at e;omega
        have HMl:=Lib.hid (show (left a l.sum l).toNat=m by have e:=flp_all a l;rw [HN.out] at e;omega)
        rw [hm]
        rw [fg_all] at HB3 HB4
        have HSo:=Lib.hid (sortStable_int b4 k k 100 #[.pointer (some ⟨b0,0,none⟩),.pointer (some ⟨b1,0,none⟩),.pointer (some ⟨b2,0,none⟩)] (fun x=>∃ i:Nat,i < k∧x=(i:Int)) (skey a l.sum l) (fun x y=>a*l.getD y.toNat 0 % S - a*l.getD x.toNat 0 % S) (idx k) wr
          (enters_of Tryz.func100 (by kernel_rfl) rfl)
          ⟨fun x y _ _=>by unfold skey;rw [HSe.out];omega,fun w' o x y hx hy=>by
            obtain ⟨i,hi,rfl⟩:=hx
            obtain ⟨j,hj,rfl⟩:=hy
            have hf:=HF.out.on o n04 n14 n24 (by have:=HBn.out;omega)
            have:=bycmp_any b0 b1 b2 a S A k cap l i j w' (by rw [hf.vA.cell];rfl) (by rw [hf.vL.cell];rfl) (by rw [hf.vS.cell];rfl) (HR.out.below hf.below) HN.out (by omega) hi hj ha ha2 (fun q _=>ri_getD HWt.out q) (by omega) hS2
            simpa using this⟩
          (fun i hi=>by rw [idx_len] at hi;exact ⟨i,hi,by unfold ge idx;rw [List.getD_eq_getElem?_getD,List.getElem?_map,List.getElem?_range hi];rfl⟩)
          (by have:=HB4.out.dat;exact this) (idx_len k) (by omega))
        have hm1:(0:Int)≤(m:Int):=by omega
        have hm2:(m:Int)≤(k:Int):=by omega
        clear hm
        go_wp2_with (first
          | (go_at_call 99;(with_reducible refine (HSo.out).mono ?_);rintro r w1 ⟨rfl,ys,y1,y2,y3,y4,y5⟩))
        obtain ⟨zs,hzs⟩:∃ zs,zs=pord a l:=⟨_,rfl⟩
        obtain rfl:ys=zs:=by rw [hzs,isort_eq y2 y3];unfold pord;rw [HN.out]
        have HY:=Lib.hid hzs
        have HF1:=Lib.hid (HF.out.on y5 n04 n14 n24 (by have:=HBn.out;omega))
        have HB1:=Lib.hid (y5.blk HB3.out n34)
        have HD1:=Lib.hid y4
        have HYl:=Lib.hid (show ys.length=k by rw [y1,idx_len])
        have HYm:=Lib.hid (show ∀ j,j < k→∃ i:Nat,i < k∧ge ys j=(i:Int) from fun j hj=>by
          have hm:ge ys j∈ys:=by
            have:=ge_some (xs:=ys) (i:=j) (by rw [HYl.out];exact hj)
            exact List.mem_of_getElem? this
          obtain ⟨i,hi,e⟩:=mem_idx.1 (y3.mem hm)
          exact ⟨i,hi,e⟩)
        clear hzs y1 y2 y3 y4 y5 HSo
        go_loopw [77] (fun i wr=>∃ j:Nat,j≤m∧i=.int .i64 j∧Hid (Fr w wr b0 b1 b2 a S A k cap)∧Hid (Blk wr b3 3 (ic (inc a l ys j)))∧Hid (Dat wr b4 ys)) (fun i _=>m - (intOf i).toNat)
        case atStart=>exact ⟨0,Nat.zero_le _,rfl,HF1,Lib.hid (by rw [inc_zero,HN.out];exact HB1.out),HD1⟩
        case round =>
          obtain ⟨j,hj,rfl,HF2,HB2,HD2⟩:=hrel
          by_cases hjm:j < m
          · have hji:(j:Int) < (m:Int):=by omega
            have hj0:(0:Int)≤(j:Int):=by omega
            obtain ⟨i,hi,hie⟩:=HYm.out j (by omega)
            have c4:=HD2.out.cell j (by rw [HYl.out];omega)
            rw [hie] at c4
            have c3:wr.cell? ⟨b3,i,none⟩=some (.int .i64 (ge (inc a l ys j) i)):=by
              rw [HB2.out.cell,ic_get _ _ (by rw [inc_len,HN.out];exact hi)];rfl
            have f3:wr.frozen? ⟨b3,i,none⟩=false:=HB2.out.frozen i
            have u1:0≤ge (inc a l ys j) i∧ge (inc a l ys j) i≤1000000001000:=by
              rw [inc_get _ _ _ _ _ (by rw [HN.out];exact hi)]
              have:=HSh.out i
              have h1:=List.count_le_length (a:=(i:Int)) (l:=ys.take j)
              rw [List.length_take] at h1
              omega
            obtain ⟨u1,u2⟩:=u1
            have H3:=Lib.hid (show Blk (wr.setCell ⟨b3,i,none⟩ (.int .i64 (ge (inc a l ys j) i+1))) b3 3 (ic (inc a l ys (j+1))) by
              rw [← inc_step a l ys j i (by rw [HYl.out];omega) (by rw [HN.out];exact hi) hie,← ic_set];exact HB2.out.set_ i _)
            have H4:=Lib.hid (show Dat (wr.setCell ⟨b3,i,none⟩ (.int .i64 (ge (inc a l ys j) i+1))) b4 ys by
              obtain ⟨T,cur,hb,hc⟩:=HD2.out
              exact ⟨T,cur,hb.oth (Ne.symm n34),hc⟩)
            have H0:=Lib.hid (HF2.out.set (g:=b3) (i:=i) (u:=.int .i64 (ge (inc a l ys j) i+1)) n03 n13 n23 (by have:=HBn.out;omega))
            have hi1:(i:Int) < (k:Int):=by omega
            have hi0:(0:Int)≤(i:Int):=by omega
            generalize ge (inc a l ys j) i=u at *
            clear hie
            go_wp2
            go_roundw
            case rel=>exact ⟨j+1,by omega,by go_num,H0,H3,H4⟩
            case measure=>simp [intOf];omega
          · obtain rfl:j=m:=by omega
            have HB5:=Lib.hid (show Blk wr b3 3 (ic (fg k (fun i=>s*prt a l.sum l (pord a l) i) (prt a l.sum l (pord a l)) 0)) by
              have e:inc a l ys j=fg k (fun i=>s*prt a l.sum l (pord a l) i) (prt a l.sum l (pord a l)) 0:=by
                rw [fg_zero,← HN.out]
                unfold inc
                refine List.map_congr_left fun i _=>?_
                unfold prt
                rw [HMl.out,← HY.out]
              rw [← e];exact HB2.out)
            go_wp2
            go_loopw [90] (fun i wr=>∃ j:Nat,j≤k∧i=.int .i64 j∧Hid (Fr w wr b0 b1 b2 a S A k cap)∧Hid (Blk wr b3 3 (ic (fg k (fun i=>s*prt a l.sum l (pord a l) i) (prt a l.sum l (pord a l)) j)))) (fun i _=>k - (intOf i).toNat)
            case atStart=>exact ⟨0,Nat.zero_le _,rfl,HF2,HB5⟩
            case round =>
              obtain ⟨i,hi,rfl,HF3,HB6⟩:=hrel
              by_cases hik:i < k
              · have hi1:(i:Int) < (k:Int):=by omega
                have hi0:(0:Int)≤(i:Int):=by omega
                have c3:wr.cell? ⟨b3,i,none⟩=some (.int .i64 (prt a l.sum l (pord a l) i)):=by
                  rw [HB6.out.cell,ic_get _ _ (by rw [fg_len];exact hik)]
                  show some (Value.int .i64 (ge (fg _ _ _ i) i))=_
                  rw [fg_get _ _ _ _ _ hik,if_neg (by omega)]
                have f3:wr.frozen? ⟨b3,i,none⟩=false:=HB6.out.frozen i
                have u1:0≤prt a l.sum l (pord a l) i∧prt a l.sum l (pord a l) i≤1000000001000:=by
                  unfold prt
                  have:=HSh.out i
                  have h1:=List.count_le_length (a:=(i:Int)) (l:=(pord a l).take (left a l.sum l).toNat)
                  rw [List.length_take] at h1
                  have h2:=(pord_ok a l).len
                  rw [HN.out] at h2
                  omega
                obtain ⟨u1,u2⟩:=u1
                have H3:=Lib.hid (show ∀ v,v=s*prt a l.sum l (pord a l) i→Blk (wr.setCell ⟨b3,i,none⟩ (.int .i64 v)) b3 3 (ic (fg k (fun i=>s*prt a l.sum l (pord a l) i) (prt a l.sum l (pord a l)) (i+1))) from fun v hv=>by
                  rw [← fg_step _ _ _ _ hik,← ic_set,← hv];exact HB6.out.set_ i _)
                have H0:=Lib.hid (fun v=>HF3.out.set (g:=b3) (i:=i) (u:=v) n03 n13 n23 (by have:=HBn.out;omega))
                generalize hp:prt a l.sum l (pord a l) i=u at H3 c3 u1 u2
                clear hp
                go_wp2
                go_roundw
                case rel=>exact ⟨i+1,by omega,by go_num,Lib.hid (H0.out _),Lib.hid (H3.out _ (by rw [HSg.out];omega))⟩
                case measure=>simp [intOf];omega
              · obtain rfl:i=k:=by omega
                go_wp2
                go_returns
                exact ⟨b3,by rw [HN.out] <;> rfl,Mor.of_below HF3.out.below,by have:=HBn.out;omega,by have:=HB6.out;rw [fg_all,← HN.out] at this;exact this⟩
theorem byc_zero {A:Int} {l:List Int} (h:byc A l=0):swc l=0∧-1000000000000≤A∧A≤1000000000000∧l.sum≠0:=by
  unfold byc at h
  split at h
  · omega
  · split at h
    · omega
    · split at h
      · omega
      · exact ⟨by omega,by omega,by omega,by assumption⟩
theorem swc_zero {l:List Int} (h:swc l=0):l.length≤40∧∀ x∈l,0≤x∧x≤1000000:=by
  unfold swc at h
  split at h
  · omega
  · split at h
    · rename_i h1 h2
      refine ⟨by omega,fun x hx=>?_⟩
      have:=List.all_eq_true.1 h2 x hx
      unfold swOk at this
      rw [Bool.and_eq_true,decide_eq_true_iff,decide_eq_true_iff] at this
      exact this
    · omega
def ByPost2 (w:World) (A:Int) (l:List Int) (e:Ending) (w':World):Prop :=
  ∃ g,e=.returned (.tuple #[.slice (some ⟨g,0,none⟩) l.length l.length,.int .i64 0])∧Mor w w'∧w.heap.size≤g∧Blk w' g 3 (ic (byl A l))
theorem by_any2 (a0:Int) (A:Option Addr) (n cap:Nat) (l:List Int) (w:World) (hr:Ri w A l) (hn:l.length=n) (hc:byc a0 l=0) :
    Calls Tryz.prog 44 #[.int .i64 a0,.slice A n cap] w (ByPost2 w a0 l):=by
  obtain ⟨h1,h2,h3,h4⟩:=byc_zero hc
  obtain ⟨h5,h6⟩:=swc_zero h1
  have h7:0≤l.sum:=(getD_le_sum (fun x hx=>(h6 x hx).1) 0).2
  have h8:1≤n:=by
    rcases Nat.eq_zero_or_pos n with e | e
    · exfalso;apply h4;rw [List.eq_nil_of_length_eq_zero (by omega:l.length=0)];rfl
    · exact e
  by_cases c:0≤a0
  · refine (by_ok2 a0 a0 1 A n cap l w (.inl ⟨rfl,rfl,c⟩) c h3 hr hn h8 (by omega) (by omega) h6 h1).mono ?_
    rintro e w' ⟨g,rfl,hm,hg,hr⟩
    refine ⟨g,rfl,hm,hg,?_⟩
    unfold byl prts
    rw [if_pos c]
    simpa using hr
  · refine (by_ok2 a0 (-a0) (-1) A n cap l w (.inr ⟨rfl,by omega,by omega⟩) (by omega) (by omega) hr hn h8 (by omega) (by omega) h6 h1).mono ?_
    rintro e w' ⟨g,rfl,hm,hg,hr⟩
    refine ⟨g,rfl,hm,hg,?_⟩
    unfold byl prts
    rw [if_neg c,List.map_map]
    have e:((fun x=>-x) ∘ prt (-a0) l.sum l (pord (-a0) l))=fun i=>-1*prt (-a0) l.sum l (pord (-a0) l) i:=by
      funext i;simp
    rw [e];exact hr
end Go.Proofs.YtdhbkifpodekcaaGreatDoor
namespace Go.Proofs.YtdhbkifpodekcaaGreatDoor
open Go.ChangeShapes Go.WideShapes Go.ChangeAt Go.RowKit Stb
set_option linter.unusedVariables false
set_option maxRecDepth 100000
theorem prts_get (a S:Int) (l ys:List Int) (i:Nat) (h:i < l.length):(prts a S l ys).getD i 0=prt a S l ys i:=by
  unfold prts;rw [List.getD_eq_getElem?_getD,List.getElem?_map,List.getElem?_range h];rfl
theorem byl_len (A:Int) (l:List Int):(byl A l).length=l.length:=by
  unfold byl;split <;> simp [prts]
theorem byl_get (A:Int) (l:List Int) (i:Nat) (h:i < l.length):(byl A l).getD i 0=if 0≤A then prt A l.sum l (pord A l) i else -prt (-A) l.sum l (pord (-A) l) i:=by
  unfold byl
  split
  · exact prts_get _ _ _ _ _ h
  · unfold prts;rw [List.map_map,List.getD_eq_getElem?_getD,List.getElem?_map,List.getElem?_range h];rfl
theorem neg_sum (xs:List Int):(xs.map fun x=>-x).sum=-xs.sum:=by
  induction xs with
  | nil=>rfl
  | cons x xs ih=>simp only [List.map_cons,List.sum_cons,ih];omega
structure Byk (A:Int) (l:List Int):Prop where
  sum:(byl A l).sum=A
  near:∀ i,i < l.length→-l.sum < (byl A l).getD i 0*l.sum - A*l.getD i 0∧(byl A l).getD i 0*l.sum - A*l.getD i 0 < l.sum
  bd:∀ i,i < l.length→-1000000001000≤(byl A l).getD i 0∧(byl A l).getD i 0≤1000000001000
  pos:0 < l.sum
  le:l.sum≤40000000
  wt:∀ x∈l,0≤x∧x≤1000000
  n40:l.length≤40
  a1:-1000000000000≤A
  a2:A≤1000000000000
  nonneg:0≤A→∀ i,i < l.length→0≤(byl A l).getD i 0
theorem prt_bd {a:Int} {l:List Int} (ha:0≤a) (ha2:a≤1000000000000) (hw:∀ x∈l,0≤x∧x≤1000000) (h0:0 < l.sum) (i:Nat) (hi:i < l.length):0≤prt a l.sum l (pord a l) i∧prt a l.sum l (pord a l) i≤1000000001000:=by
  have h1:=(pord_ok a l).le_one i (left a l.sum l).toNat hi
  have h2:=share_bd ha ha2 (ri_getD hw i).1 (ri_getD hw i).2 (getD_le_sum (fun x hx=>(hw x hx).1) i).1 h0
  unfold prt
  omega
theorem byk {A:Int} {l:List Int} (h:byc A l=0):Byk A l:=by
  obtain ⟨h1,h2,h3,h4⟩:=byc_zero h
  obtain ⟨h5,h6⟩:=swc_zero h1
  have h7:0≤l.sum:=(getD_le_sum (fun x hx=>(h6 x hx).1) 0).2
  have h8:0 < l.sum:=by omega
  have h9:l.sum≤40000000:=by
    have:=sum_bd l 1000000 (by omega) (fun x hx=>by have:=h6 x hx;omega)
    omega
  by_cases c:0≤A
  · refine ⟨?_,fun i hi=>?_,fun i hi=>?_,h8,h9,h6,h5,h2,h3,fun _ i hi=>?_⟩
    · unfold byl;rw [if_pos c];exact prts_sum (pord_ok A l) h8
    · rw [byl_get _ _ _ hi,if_pos c];exact prt_near (pord_ok A l) h8 i hi
    · rw [byl_get _ _ _ hi,if_pos c];have:=prt_bd c h3 h6 h8 i hi;omega
    · rw [byl_get _ _ _ hi,if_pos c];exact (prt_bd c h3 h6 h8 i hi).1
  · refine ⟨?_,fun i hi=>?_,fun i hi=>?_,h8,h9,h6,h5,h2,h3,fun h=>absurd h c⟩
    · unfold byl;rw [if_neg c,neg_sum,prts_sum (pord_ok (-A) l) h8];omega
    · rw [byl_get _ _ _ hi,if_neg c]
      have:=prt_near (pord_ok (-A) l) h8 i hi
      generalize prt (-A) l.sum l (pord (-A) l) i=p at *
      rw [Int.neg_mul] at this ⊢
      omega
    · rw [byl_get _ _ _ hi,if_neg c];have:=prt_bd (a:=-A) (by omega) (by omega) h6 h8 i hi;omega
theorem list_bd {xs:List Int} {n:Nat} (hn:xs.length=n) (M:Int) (h:∀ i,i < n→-M≤xs.getD i 0∧xs.getD i 0≤M):∀ x∈xs,-M≤x∧x≤M:=by
  intro x hx
  obtain ⟨i,hi,e⟩:=List.getElem_of_mem hx
  have:=h i (by omega)
  rw [List.getD_eq_getElem?_getD,List.getElem?_eq_getElem hi,Option.getD_some,e] at this
  exact this
theorem Byk.all {A:Int} {l:List Int} (h:Byk A l):∀ x∈byl A l,-1000000000000000≤x∧x≤1000000000000000:=fun x hx=>by
  have:=list_bd (byl_len A l) 1000000001000 h.bd x hx
  omega
end Go.Proofs.YtdhbkifpodekcaaGreatDoor
