/- Texts of this claim. -/
import Derived.Test.YtdhbkifpodekcaaGreatDoorDeskZ4
import Derived.Lib.AtoiAll
import Derived.Lib.AtoiTie
import Derived.Lib.CountLaws
import Derived.Lib.CutLaws
import Derived.Lib.ItoaLen
import Derived.Lib.ItoaNum
import Derived.Lib.LastIndexLaws
import Derived.Lib.SplitLaws
namespace Go.Proofs.YtdhbkifpodekcaaGreatDoor
open Go Go.Lib Go.PlainAid
set_option linter.unusedVariables false
set_option maxRecDepth 100000
abbrev ub (s:ByteArray):List UInt8:=s.data.toList
theorem ub_inj {a b:ByteArray} (h:ub a=ub b):a=b:=by
  have:a.data=b.data:=Array.toList_inj.1 h
  cases a;cases b;simp_all
theorem dig_toNat (d:Nat) (h:d < 10):(UInt8.ofNat (48+d)).toNat=48+d:=by rw [UInt8.toNat_ofNat'];omega
theorem dec_all (u:Nat):∀ b∈decDigits u,48≤b.toNat∧b.toNat≤57:=by
  induction u using Nat.strongRecOn with
  | _ u ih =>
    intro b hb
    rw [decDigits] at hb
    split at hb
    · rename_i h
      rw [List.mem_singleton.1 hb,dig_toNat u h];omega
    · rename_i h
      rcases List.mem_append.1 hb with hb | hb
      · exact ih (u / 10) (by omega) b hb
      · rw [List.mem_singleton.1 hb,dig_toNat (u % 10) (by omega)];omega
theorem nDigits_le:∀ (k u:Nat),u < 10 ^ k→1≤k→nDigits u≤k
  | 0,_,_,h=>by omega
  | k+1,u,h,_=>by
    by_cases h10:u < 10
    · rw [nDigits_small h10];omega
    · rw [nDigits_big h10]
      have hk:1≤k:=by
        rcases Nat.eq_zero_or_pos k with e | e
        · subst e;simp at h;omega
        · exact e
      have:=nDigits_le k (u / 10) (by rw [Nat.pow_succ] at h;omega) hk
      omega
theorem itoa_len (n:Int) (k:Nat) (hk:1≤k) (h:n.natAbs < 10 ^ k):(itoa n).length≤k+1:=by
  unfold itoa
  split
  · rw [List.length_cons,decDigits_length]
    have:=nDigits_le k _ h hk;omega
  · rename_i h0
    rw [decDigits_length]
    have:=nDigits_le k n.toNat (by rw [show n.toNat=n.natAbs by omega];exact h) hk;omega
def fine (l:List UInt8):Prop:=∀ b∈l,b≠10∧b≠32∧b≠58∧b≠61
theorem fine_of {b:UInt8} (h:b.toNat=45∨(48≤b.toNat∧b.toNat≤57)∨(97≤b.toNat∧b.toNat≤122)):b≠10∧b≠32∧b≠58∧b≠61:=by
  refine ⟨?_,?_,?_,?_⟩ <;> (intro e;subst e;simp at h)
theorem fine_itoa (n:Int):fine (itoa n):=by
  intro b hb
  unfold itoa at hb
  split at hb
  · rcases List.mem_cons.1 hb with h | h
    · subst h;decide
    · exact fine_of (.inr (.inl (dec_all _ b h)))
  · exact fine_of (.inr (.inl (dec_all _ b hb)))
theorem ub_len (s:ByteArray):(ub s).length=s.size:=by simp [ub]
theorem ub_mem {s:ByteArray} {b:UInt8} (h:b∈ub s):∃ i,i < s.size∧bt s i=b.toNat:=by
  obtain ⟨i,hi,e⟩:=List.mem_iff_getElem.1 h
  rw [ub_len] at hi
  refine ⟨i,hi,?_⟩
  unfold bt
  rw [dif_pos hi,← e]
  rfl
theorem fine_all {p:Int→Bool} {s:ByteArray} (h:allB p s s.size=true) (hp:∀ c:Int,p c=true→c=45∨(48≤c∧c≤57)∨(97≤c∧c≤122)):fine (ub s):=by
  intro b hb
  obtain ⟨i,hi,e⟩:=ub_mem hb
  unfold allB at h
  rw [List.all_eq_true] at h
  have:=hp _ (h i (List.mem_range.2 hi))
  rw [e] at this
  exact fine_of (by omega)
theorem fine_key {s:ByteArray} (h:keyB s=true):fine (ub s):=by
  unfold keyB at h
  simp only [Bool.and_eq_true] at h
  refine fine_all h.2 fun c hc=>?_
  unfold keyC at hc
  simp only [Bool.or_eq_true,Bool.and_eq_true,decide_eq_true_eq] at hc
  omega
def lnW (l:Ln):List UInt8:=ub l.1++58 :: itoa l.2
def words (x:En):List (List UInt8):=ub x.key :: itoa x.day :: x.ls.map lnW
def atoiV (l:List UInt8):Int:=match atoiAll l with | .ok v=>v | .range=>atoiSat l | _=>0
theorem ub_ext (s:ByteArray) (a b:Nat):ub (s.extract a b)=((ub s).drop a).take (b - a):=extract_data s a b
end Go.Proofs.YtdhbkifpodekcaaGreatDoor
namespace Go.Proofs.YtdhbkifpodekcaaGreatDoor
open Go Go.Lib
set_option linter.unusedVariables false
set_option maxRecDepth 100000
def tx (c:UInt8) (L:List (List UInt8)):List UInt8:=L.flatMap fun l=>l++[c]
theorem tx_nil (c:UInt8):tx c []=[]:=rfl
theorem tx_cons (c:UInt8) (l:List UInt8) (L:List (List UInt8)):tx c (l :: L)=l++c :: tx c L:=by simp [tx]
theorem tx_app (c:UInt8) (L M:List (List UInt8)):tx c (L++M)=tx c L++tx c M:=by simp [tx]
theorem tx_len (c:UInt8) (L:List (List UInt8)):L.length≤(tx c L).length:=by
  induction L with
  | nil=>simp
  | cons l L ih=>rw [tx_cons,List.length_append,List.length_cons,List.length_cons];omega
theorem tx_of (c:UInt8):∀ s:List UInt8,∃ L R,s=tx c L++R∧(∀ l∈L,c ∉ l)∧c ∉ R
  | []=>⟨[],[],rfl,by simp,by simp⟩
  | b :: s=>by
    obtain ⟨L,R,h,h1,h2⟩:=tx_of c s
    by_cases hb:b=c
    · subst hb
      exact ⟨[] :: L,R,by rw [tx_cons,h];rfl,fun l hl=>by
        rcases List.mem_cons.1 hl with e | e
        · subst e;simp
        · exact h1 l e,h2⟩
    · cases L with
      | nil=>exact ⟨[],b :: R,by rw [h];rfl,by simp,by simp [h2];exact fun e=>hb e.symm⟩
      | cons l L =>
        refine ⟨(b :: l) :: L,R,by rw [h,tx_cons,tx_cons];rfl,fun x hx=>?_,h2⟩
        rcases List.mem_cons.1 hx with e | e
        · subst e
          have:=h1 l (List.mem_cons_self ..)
          simp [this];exact fun e=>hb e.symm
        · exact h1 x (List.mem_cons_of_mem _ e)
theorem pre1 (c b:UInt8) (l:List UInt8):[c].isPrefixOf (b :: l)=(c == b):=by simp [List.isPrefixOf]
theorem index_hit (c:UInt8):∀ (l t:List UInt8),c ∉ l→index (l++c :: t) [c]=l.length
  | [],t,_=>by unfold index;simp
  | b :: l,t,h=>by
    have hb:(c == b)=false:=by
      rw [beq_eq_false_iff_ne];intro e;subst e;exact h (List.mem_cons_self ..)
    have ih:=index_hit c l t (fun hm=>h (List.mem_cons_of_mem _ hm))
    rw [List.cons_append,index,pre1,hb,ih]
    simp
theorem index_miss (c:UInt8):∀ (l:List UInt8),c ∉ l→index l [c]=-1
  | [],_=>by unfold index;simp
  | b :: l,h=>by
    have hb:(c == b)=false:=by
      rw [beq_eq_false_iff_ne];intro e;subst e;exact h (List.mem_cons_self ..)
    have ih:=index_miss c l (fun hm=>h (List.mem_cons_of_mem _ hm))
    rw [index,pre1,hb,ih]
    simp
theorem countFrom_tx (c:UInt8) (R:List UInt8) (hR:c ∉ R):∀ (L:List (List UInt8)) (k:Nat),(∀ l∈L,c ∉ l)→L.length≤k→countFrom [c] (k+1) (tx c L++R)=L.length
  | [],k,_,_=>by
    rw [tx_nil,List.nil_append,countFrom,index_miss c R hR];rfl
  | l :: L,k,h,hk=>by
    obtain ⟨k,rfl⟩:∃ j,k=j+1:=⟨k - 1,by simp at hk;omega⟩
    have hi:=index_hit c l (tx c L++R) (h l (List.mem_cons_self ..))
    rw [tx_cons,List.append_assoc,List.cons_append,countFrom,hi]
    have hne:((l.length:Int) == -1)=false:=by rw [beq_eq_false_iff_ne];omega
    rw [hne,if_neg (by simp),Int.toNat_natCast,List.length_singleton,show List.drop (l.length+1) (l++c :: (tx c L++R))=tx c L++R by rw [List.drop_append];simp]
    rw [countFrom_tx c R hR L k (fun x hx=>h x (List.mem_cons_of_mem _ hx)) (by simp at hk;omega),List.length_cons]
    omega
theorem count_tx (c:UInt8) {L:List (List UInt8)} {R:List UInt8} (h:∀ l∈L,c ∉ l) (hR:c ∉ R):count (tx c L++R) [c]=L.length :=
  countFrom_tx c R hR L _ h (by rw [List.length_append];have:=tx_len c L;omega)
def pce (c:UInt8) (save:Nat) (l:List UInt8):List UInt8:=if save=0 then l else l++[c]
theorem splitK_tx (c:UInt8) (save:Nat) (hs:save≤1) (R:List UInt8) (hR:c ∉ R):∀ (L:List (List UInt8)) (k:Nat),(∀ l∈L,c ∉ l)→L.length≤k→splitK [c] save k (tx c L++R)=L.map (pce c save)++[R]
  | [],k,_,_=>by
    rw [tx_nil,List.nil_append]
    cases k with
    | zero=>rfl
    | succ k=>rw [splitK,index_miss c R hR];rfl
  | l :: L,k,h,hk=>by
    obtain ⟨k,rfl⟩:∃ j,k=j+1:=⟨k - 1,by simp at hk;omega⟩
    have hi:=index_hit c l (tx c L++R) (h l (List.mem_cons_self ..))
    have hne:((l.length:Int) == -1)=false:=by rw [beq_eq_false_iff_ne];omega
    have e1:List.take (l.length+save) (l++c :: (tx c L++R))=pce c save l:=by
      unfold pce
      by_cases h0:save=0
      · subst h0;simp
      · obtain rfl:save=1:=by omega
        rw [if_neg (by omega),List.take_append,List.take_of_length_le (by omega),show l.length+1 - l.length=1 by omega];rfl
    rw [tx_cons,List.append_assoc,List.cons_append,splitK,hi,hne,if_neg (by simp),Int.toNat_natCast,List.length_singleton,e1,
      show List.drop (l.length+1) (l++c :: (tx c L++R))=tx c L++R by rw [List.drop_append];simp,
      splitK_tx c save hs R hR L k (fun x hx=>h x (List.mem_cons_of_mem _ hx)) (by simp at hk;omega),List.map_cons,List.cons_append]
theorem cut_tx (c:UInt8) (l t:List UInt8) (h:c ∉ l):cut (l++c :: t) [c]=(l,t,true):=by
  unfold cut
  rw [index_hit c l t h,if_pos (by omega),Int.toNat_natCast]
  simp
theorem cut_no (c:UInt8) (l:List UInt8) (h:c ∉ l):cut l [c]=(l,[],false):=by
  unfold cut
  rw [index_miss c l h,if_neg (by omega)]
def cw:List UInt8→List UInt8→List (List UInt8)
  | w,[]=>if w=[] then [] else [w]
  | w,b :: r=>if b=32 then (if w=[] then [] else [w])++cw [] r else cw (w++[b]) r
theorem cw_run:∀ (l w r:List UInt8),32 ∉ l→cw w (l++r)=cw (w++l) r
  | [],w,r,_=>by simp
  | b :: l,w,r,h=>by
    have hb:b≠32:=fun e=>h (by rw [e];exact List.mem_cons_self ..)
    rw [List.cons_append,cw,if_neg hb,cw_run l (w++[b]) r (fun hm=>h (List.mem_cons_of_mem _ hm)),List.append_assoc];rfl
theorem cw_tx (R:List UInt8) (hR:32 ∉ R):∀ (L:List (List UInt8)),(∀ l∈L,(32:UInt8) ∉ l)→cw [] (tx 32 L++R)=(L++[R]).filter (fun l=>decide (l≠[]))
  | [],_=>by
    have:=cw_run R [] [] hR
    rw [List.append_nil,List.nil_append] at this
    rw [tx_nil,List.nil_append,this,cw]
    by_cases h:R=[]
    · subst h;rfl
    · rw [if_neg h];simp [h]
  | l :: L,h=>by
    rw [tx_cons,List.append_assoc,cw_run l [] _ (h l (List.mem_cons_self ..)),List.nil_append,List.cons_append,cw,if_pos rfl,cw_tx R hR L (fun x hx=>h x (List.mem_cons_of_mem _ hx)),List.cons_append]
    by_cases hl:l=[]
    · subst hl;simp
    · rw [if_neg hl,List.filter_cons,if_pos (by simp [hl])];rfl
def anss {S W:Type} (F:S→W→List UInt8 × S):S→List W→List (List UInt8)
  | _,[]=>[]
  | s,w :: ws=>(F s w).1 :: anss F (F s w).2 ws
def ends {S W:Type} (F:S→W→List UInt8 × S):S→List W→S
  | s,[]=>s
  | s,w :: ws=>ends F (F s w).2 ws
theorem anss_app {S W:Type} (F:S→W→List UInt8 × S):∀ (a b:List W) (s:S),anss F s (a++b)=anss F s a++anss F (ends F s a) b
  | [],b,s=>rfl
  | w :: a,b,s=>by rw [List.cons_append,anss,anss,ends,anss_app F a b];rfl
theorem ends_app {S W:Type} (F:S→W→List UInt8 × S):∀ (a b:List W) (s:S),ends F s (a++b)=ends F (ends F s a) b
  | [],b,s=>rfl
  | w :: a,b,s=>by rw [List.cons_append,ends,ends,ends_app F a b]
theorem anss_len {S W:Type} (F:S→W→List UInt8 × S):∀ (a:List W) (s:S),(anss F s a).length=a.length
  | [],s=>rfl
  | w :: a,s=>by rw [anss,List.length_cons,List.length_cons,anss_len F a]
end Go.Proofs.YtdhbkifpodekcaaGreatDoor
