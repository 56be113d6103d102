/- Texts of this claim. -/
import Derived.Test.YtdhbkifpodekcaaGreatDoorDeskZ3
import Derived.Lib.Bytealg
import Derived.Sort.Walk0
namespace Go.Proofs.YtdhbkifpodekcaaGreatDoor
open Go Go.PlainAid
set_option linter.unusedVariables false
set_option maxRecDepth 100000
structure En where
  key:ByteArray
  day:Int
  ls:List Ln
structure Bok where
  ac:List Ln
  en:List En
  shut:Int
theorem En.eq {x y:En} (h1:x.key=y.key) (h2:x.day=y.day) (h3:x.ls=y.ls):x=y:=by
  cases x;cases y;simp at h1 h2 h3;subst h1 h2 h3;rfl
instance : DecidableEq En := fun x y => if h : x.key = y.key ∧ x.day = y.day ∧ x.ls = y.ls then isTrue (En.eq h.1 h.2.1 h.2.2) else isFalse (fun e => h (by subst e; exact ⟨rfl, rfl, rfl⟩))
def en0:En:=⟨ByteArray.empty,0,[]⟩
def ne (es:List En) (i:Nat):En:=es.getD i en0
theorem ne_eq (es:List En) (i:Nat) (h:i < es.length):ne es i=es[i]:=by
  unfold ne;rw [List.getD_eq_getElem?_getD,List.getElem?_eq_getElem h];rfl
theorem ltB_iff (a b:ByteArray):ltB a b=true↔a.toList < b.toList:=by
  unfold ltB;rw [bytesLess_eq];simp
theorem toList_inj {a b:ByteArray} (h:a.toList=b.toList):a=b:=by
  rw [ByteArray.toList_eq,ByteArray.toList_eq] at h
  exact Go.WideShapes.bytes_inj h
theorem lex_trans:∀ {a b c:List UInt8},a < b→b < c→a < c:=by
  intro a b c h1 h2
  exact @List.lt_trans _ _ ⟨fun h1 h2=>UInt8.lt_trans h1 h2⟩ _ _ _ h1 h2
theorem lex_irrefl (a:List UInt8):¬ a < a:=by
  induction a with
  | nil=>intro h;cases h
  | cons x xs ih =>
    intro h
    rw [List.cons_lt_cons_iff] at h
    rcases h with h | ⟨_,h⟩
    · exact UInt8.lt_irrefl _ h
    · exact ih h
theorem lex_tri:∀ (a b:List UInt8),a < b∨a=b∨b < a:=by
  intro a
  induction a with
  | nil=>intro b;cases b with
    | nil=>exact .inr (.inl rfl)
    | cons y ys=>exact .inl (List.nil_lt_cons _ _)
  | cons x xs ih =>
    intro b
    cases b with
    | nil=>exact .inr (.inr (List.nil_lt_cons _ _))
    | cons y ys =>
      rw [List.cons_lt_cons_iff,List.cons_lt_cons_iff]
      have h3:x < y∨x=y∨y < x:=by
        rw [UInt8.lt_iff_toNat_lt,UInt8.lt_iff_toNat_lt,← UInt8.toNat_inj];omega
      rcases h3 with h | h | h
      · exact .inl (.inl h)
      · subst h
        rcases ih ys with h | h | h
        · exact .inl (.inr ⟨rfl,h⟩)
        · subst h;exact .inr (.inl rfl)
        · exact .inr (.inr (.inr ⟨rfl,h⟩))
      · exact .inr (.inr (.inl h))
theorem ltB_trans {a b c:ByteArray} (h1:ltB a b=true) (h2:ltB b c=true):ltB a c=true:=by
  rw [ltB_iff] at *;exact lex_trans h1 h2
theorem ltB_irrefl (a:ByteArray):ltB a a=false:=by
  cases h:ltB a a
  · rfl
  · rw [ltB_iff] at h;exact absurd h (lex_irrefl _)
theorem ltB_tri (a b:ByteArray):ltB a b=true∨a=b∨ltB b a=true:=by
  rw [ltB_iff,ltB_iff]
  rcases lex_tri a.toList b.toList with h | h | h
  · exact .inl h
  · exact .inr (.inl (toList_inj h))
  · exact .inr (.inr h)
def elt (x y:En):Prop:=x.day < y.day∨x.day=y.day∧ltB x.key y.key=true
instance (x y : En) : Decidable (elt x y) := by unfold elt; infer_instance
theorem elt_trans {x y z:En} (h1:elt x y) (h2:elt y z):elt x z:=by
  unfold elt at *
  rcases h1 with h1 | ⟨h1,k1⟩ <;> rcases h2 with h2 | ⟨h2,k2⟩
  · exact .inl (by omega)
  · exact .inl (by omega)
  · exact .inl (by omega)
  · exact .inr ⟨by omega,ltB_trans k1 k2⟩
theorem elt_tri {x y:En} (h:x.key≠y.key):elt x y∨elt y x:=by
  unfold elt
  by_cases h1:x.day < y.day
  · exact .inl (.inl h1)
  · by_cases h2:y.day < x.day
    · exact .inr (.inl h2)
    · rcases ltB_tri x.key y.key with k | k | k
      · exact .inl (.inr ⟨by omega,k⟩)
      · exact absurd k h
      · exact .inr (.inr ⟨by omega,k⟩)
def cmpE (x y:En):Int:=if x.day=y.day then Lib.compareBytes x.key.data.toList y.key.data.toList else x.day - y.day
theorem cmpL_lt:∀ (a b:List UInt8),(Lib.compareBytes a b < 0↔a < b)∧(Lib.compareBytes a b=0↔a=b):=by
  intro a
  induction a with
  | nil=>intro b;cases b with
    | nil=>simp [Lib.compareBytes]
    | cons y ys=>simp [Lib.compareBytes]
  | cons x xs ih =>
    intro b
    cases b with
    | nil=>simp [Lib.compareBytes]
    | cons y ys =>
      obtain ⟨i1,i2⟩:=ih ys
      unfold Lib.compareBytes
      rw [List.cons_lt_cons_iff]
      by_cases h1:x < y
      · have h2:x≠y:=fun e=>by subst e;exact UInt8.lt_irrefl _ h1
        simp [h1,h2]
      · rw [if_neg h1]
        by_cases h2:y < x
        · have h3:x≠y:=fun e=>by subst e;exact UInt8.lt_irrefl _ h2
          simp [h1,h2,h3]
        · have h3:x=y:=by
            rw [UInt8.lt_iff_toNat_lt] at h1 h2
            rw [← UInt8.toNat_inj];omega
          subst h3
          rw [if_neg h2,i1,i2]
          simp [h1]
theorem cmpE_lt (x y:En):cmpE x y < 0↔elt x y:=by
  unfold cmpE elt
  rw [ltB_iff,ByteArray.toList_eq,ByteArray.toList_eq]
  by_cases h:x.day=y.day
  · rw [if_pos h,(cmpL_lt _ _).1]
    constructor
    · exact fun k=>.inr ⟨h,k⟩
    · rintro (k | ⟨_,k⟩)
      · omega
      · exact k
  · rw [if_neg h]
    constructor
    · intro k;exact .inl (by omega)
    · rintro (k | ⟨k,_⟩)
      · omega
      · exact absurd k h
def enc (x:En):Int:=entc x.key x.day x.ls
def hasB (ac:List Ln) (s:ByteArray):Bool:=ac.any fun a=>decide (a.1=s)
def knownB (ac:List Ln) (x:En):Bool:=x.ls.all fun l=>hasB ac l.1
def seenB (es:List En) (i:Nat):Bool:=(List.range i).any fun j=>decide ((ne es j).key=(ne es i).key)
def bkAt (ac:List Ln) (es:List En) (i:Nat):Int :=
  if enc (ne es i)≠0 then enc (ne es i) else if knownB ac (ne es i)=false then 4 else if seenB es i=true then 5 else if 0 < i∧¬ elt (ne es (i - 1)) (ne es i) then 3 else 0
def bkUp (ac:List Ln) (es:List En):Nat→Int
  | 0=>0
  | k+1=>if bkUp ac es k≠0 then bkUp ac es k else bkAt ac es k
theorem bkUp_bad {ac:List Ln} {es:List En} {k n:Nat} (h:bkUp ac es k=0) (hb:bkAt ac es k≠0) (hk:k < n):bkUp ac es n=bkAt ac es k:=by
  induction n with
  | zero=>omega
  | succ n ih =>
    by_cases e:k=n
    · subst e
      show (if bkUp ac es k≠0 then bkUp ac es k else bkAt ac es k)=_
      rw [if_neg (by simp [h])]
    · show (if bkUp ac es n≠0 then bkUp ac es n else bkAt ac es n)=_
      rw [ih (by omega),if_pos hb]
theorem bkUp_ok {ac:List Ln} {es:List En} {k:Nat} (h:bkUp ac es k=0) (hb:bkAt ac es k=0):bkUp ac es (k+1)=0:=by
  show (if bkUp ac es k≠0 then bkUp ac es k else bkAt ac es k)=0
  rw [if_neg (by simp [h]),hb]
theorem bkUp_at {ac:List Ln} {es:List En} {k n:Nat} (h:bkUp ac es n=0) (hk:k < n):bkAt ac es k=0:=by
  induction n with
  | zero=>omega
  | succ n ih =>
    have h':(if bkUp ac es n≠0 then bkUp ac es n else bkAt ac es n)=0:=h
    by_cases e:bkUp ac es n=0
    · rw [if_neg (by simp [e])] at h'
      by_cases e2:k=n
      · subst e2;exact h'
      · exact ih e (by omega)
    · rw [if_pos e] at h';exact absurd h' e
def bookc (b:Bok):Int:=if acc b.ac≠0 then acc b.ac else if b.shut < -1∨292193 < b.shut then 1 else if 60 < b.en.length then 2 else bkUp b.ac b.en b.en.length
theorem bkAt_ok {ac:List Ln} {es:List En} {i:Nat} (h:bkAt ac es i=0):enc (ne es i)=0∧knownB ac (ne es i)=true∧seenB es i=false∧(0 < i→elt (ne es (i - 1)) (ne es i)):=by
  unfold bkAt at h
  split at h
  · rename_i h1;exact absurd h h1
  · rename_i h1
    split at h
    · omega
    · rename_i h2
      split at h
      · omega
      · rename_i h3
        split at h
        · omega
        · rename_i h4
          exact ⟨by simpa using h1,by simpa using h2,by simpa using h3,fun hi=>Decidable.byContradiction fun hn=>h4 ⟨hi,hn⟩⟩
theorem bkAt_of {ac:List Ln} {es:List En} {i:Nat} (h1:enc (ne es i)=0) (h2:knownB ac (ne es i)=true) (h3:seenB es i=false) (h4:0 < i→elt (ne es (i - 1)) (ne es i)):bkAt ac es i=0:=by
  unfold bkAt
  rw [if_neg (by simp [h1]),if_neg (by simp [h2]),if_neg (by simp [h3]),if_neg (by rintro ⟨a,b⟩;exact b (h4 a))]
structure BOk (b:Bok):Prop where
  ac:acc b.ac=0
  s0:-1≤b.shut
  s9:b.shut≤292193
  len:b.en.length≤60
  enc:∀ x∈b.en,enc x=0
  known:∀ x∈b.en,knownB b.ac x=true
  keys:b.en.Pairwise fun x y=>x.key≠y.key
  sorted:b.en.Pairwise elt
theorem bookc_iff (b:Bok):bookc b=0↔BOk b:=by
  unfold bookc
  constructor
  · intro h
    split at h
    · rename_i h1;exact absurd h h1
    · rename_i h1
      split at h
      · omega
      · rename_i h2
        split at h
        · omega
        · rename_i h3
          have hat:=fun k (hk:k < b.en.length)=>bkAt_ok (bkUp_at h hk)
          have hlt:∀ d i:Nat,i+d+1 < b.en.length→elt (ne b.en i) (ne b.en (i+d+1)):=by
            intro d
            induction d with
            | zero=>intro i hi;exact (hat (i+1) (by omega)).2.2.2 (by omega)
            | succ d ih =>
              intro i hi
              exact elt_trans (ih i (by omega)) ((hat (i+(d+1)+1) (by omega)).2.2.2 (by omega))
          refine ⟨by simpa using h1,by omega,by omega,by omega,?_,?_,?_,?_⟩
          · intro x hx
            obtain ⟨i,hi,rfl⟩:=List.mem_iff_getElem.1 hx
            rw [← ne_eq _ _ hi];exact (hat i hi).1
          · intro x hx
            obtain ⟨i,hi,rfl⟩:=List.mem_iff_getElem.1 hx
            rw [← ne_eq _ _ hi];exact (hat i hi).2.1
          · rw [List.pairwise_iff_getElem]
            intro i j hi hj hij e
            have:=(hat j hj).2.2.1
            unfold seenB at this
            rw [List.any_eq_false] at this
            have:=this i (List.mem_range.2 hij)
            rw [ne_eq _ _ hi,ne_eq _ _ hj] at this
            exact this (by simpa using e)
          · rw [List.pairwise_iff_getElem]
            intro i j hi hj hij
            have:=hlt (j - i - 1) i (by omega)
            rw [show i+(j - i - 1)+1=j by omega,ne_eq _ _ hi,ne_eq _ _ hj] at this
            exact this
  · intro h
    rw [if_neg (by simp [h.ac]),if_neg (by have:=h.s0;have:=h.s9;omega),if_neg (by have:=h.len;omega)]
    have:∀ k,k≤b.en.length→bkUp b.ac b.en k=0:=by
      intro k
      induction k with
      | zero=>intro _;rfl
      | succ k ih =>
        intro hk
        have hk':k < b.en.length:=by omega
        refine bkUp_ok (ih (by omega)) (bkAt_of ?_ ?_ ?_ ?_)
        · rw [ne_eq _ _ hk'];exact h.enc _ (List.getElem_mem hk')
        · rw [ne_eq _ _ hk'];exact h.known _ (List.getElem_mem hk')
        · unfold seenB
          rw [List.any_eq_false]
          intro j hj
          have hj':=List.mem_range.1 hj
          rw [ne_eq _ _ hk',ne_eq _ _ (by omega)]
          simpa using (List.pairwise_iff_getElem.1 h.keys) j k (by omega) hk' hj'
        · intro h0
          rw [ne_eq _ _ hk',ne_eq _ _ (by omega)]
          exact (List.pairwise_iff_getElem.1 h.sorted) (k - 1) k (by omega) hk' (by omega)
    exact this _ (Nat.le_refl _)
def fidx (p:Nat→Bool):Nat→Nat→Int
  | _,0=>-1
  | i,n+1=>if p i then (i:Int) else fidx p (i+1) n
theorem fidx_spec (p:Nat→Bool) (n i:Nat):(fidx p i n=-1∧∀ j,i≤j→j < i+n→p j=false)∨∃ k:Nat,fidx p i n=k∧i≤k∧k < i+n∧p k=true∧∀ j,i≤j→j < k→p j=false:=by
  induction n generalizing i with
  | zero=>exact .inl ⟨rfl,fun j h1 h2=>absurd h2 (by omega)⟩
  | succ n ih =>
    unfold fidx
    cases h:p i
    · rw [if_neg (by simp)]
      rcases ih (i+1) with ⟨e,hn⟩ | ⟨k,e,h1,h2,h3,h4⟩
      · refine .inl ⟨e,fun j hj hj2=>?_⟩
        by_cases e:j=i
        · subst e;exact h
        · exact hn j (by omega) (by omega)
      · refine .inr ⟨k,e,by omega,by omega,h3,fun j hj hj2=>?_⟩
        by_cases e:j=i
        · subst e;exact h
        · exact h4 j (by omega) (by omega)
    · rw [if_pos rfl]
      exact .inr ⟨i,rfl,by omega,by omega,h,fun j h1 h2=>absurd h2 (by omega)⟩
def findA (ac:List Ln) (s:ByteArray):Int:=fidx (fun i=>decide (cd ac i=s)) 0 ac.length
def findE (es:List En) (k:ByteArray):Int:=fidx (fun i=>decide ((ne es i).key=k)) 0 es.length
theorem findA_neg (ac:List Ln) (s:ByteArray):findA ac s < 0↔hasB ac s=false:=by
  unfold findA hasB
  rw [List.any_eq_false]
  rcases fidx_spec (fun i=>decide (cd ac i=s)) ac.length 0 with ⟨e,hn⟩ | ⟨k,e,h1,h2,h3,h4⟩
  · rw [e]
    refine ⟨fun _ x hx=>?_,fun _=>by omega⟩
    obtain ⟨i,hi,rfl⟩:=List.mem_iff_getElem.1 hx
    have:=hn i (by omega) (by omega)
    rw [(cd_at ac i hi).1] at this
    simpa using this
  · rw [e]
    refine ⟨fun h=>by omega,fun h=>?_⟩
    have:=h ac[k] (List.getElem_mem _)
    rw [(cd_at ac k (by omega)).1] at h3
    exact absurd h3 (by simpa using this)
theorem findE_cases (es:List En) (k:ByteArray):(findE es k=-1∧∀ x∈es,x.key≠k)∨∃ i:Nat,∃ hi:i < es.length,findE es k=i∧es[i].key=k:=by
  unfold findE
  rcases fidx_spec (fun i=>decide ((ne es i).key=k)) es.length 0 with ⟨e,hn⟩ | ⟨i,e,h1,h2,h3,h4⟩
  · refine .inl ⟨e,fun x hx=>?_⟩
    obtain ⟨i,hi,rfl⟩:=List.mem_iff_getElem.1 hx
    have:=hn i (by omega) (by omega)
    rw [ne_eq _ _ hi] at this
    simpa using this
  · refine .inr ⟨i,by omega,e,?_⟩
    rw [ne_eq _ _ (by omega)] at h3
    simpa using h3
def ins (x:En):List En→List En
  | []=>[x]
  | y :: ys=>if elt y x then y :: ins x ys else x :: y :: ys
def insAt (x:En):List En→Nat
  | []=>0
  | y :: ys=>if elt y x then insAt x ys+1 else 0
theorem insAt_le (x:En) (es:List En):insAt x es≤es.length:=by
  induction es with
  | nil=>exact Nat.le_refl _
  | cons y ys ih=>unfold insAt;split <;> simp <;> omega
theorem ins_eq (x:En) (es:List En):ins x es=es.take (insAt x es)++x :: es.drop (insAt x es):=by
  induction es with
  | nil=>rfl
  | cons y ys ih =>
    unfold ins insAt
    split
    · rw [ih];simp
    · simp
theorem ins_perm (x:En) (es:List En):(ins x es).Perm (x :: es):=by
  induction es with
  | nil=>exact List.Perm.refl _
  | cons y ys ih =>
    unfold ins
    split
    · exact (List.Perm.cons y ih).trans (List.Perm.swap x y ys)
    · exact List.Perm.refl _
theorem ins_len (x:En) (es:List En):(ins x es).length=es.length+1:=by
  have:=(ins_perm x es).length_eq;simpa using this
theorem mem_ins {x y:En} {es:List En}:y∈ins x es↔y=x∨y∈es:=by
  rw [(ins_perm x es).mem_iff];simp
theorem ins_sorted {x:En} {es:List En} (hs:es.Pairwise elt) (hk:∀ y∈es,y.key≠x.key):(ins x es).Pairwise elt:=by
  induction es with
  | nil=>unfold ins;simp
  | cons y ys ih =>
    rw [List.pairwise_cons] at hs
    unfold ins
    by_cases h:elt y x
    · rw [if_pos h,List.pairwise_cons]
      refine ⟨fun z hz=>?_,ih hs.2 fun z hz=>hk z (List.mem_cons_of_mem _ hz)⟩
      rcases mem_ins.1 hz with rfl | hz
      · exact h
      · exact hs.1 z hz
    · have hxy:elt x y:=by
        rcases elt_tri (hk y (List.mem_cons_self)) with h1 | h1
        · exact absurd h1 h
        · exact h1
      rw [if_neg h,List.pairwise_cons,List.pairwise_cons]
      refine ⟨fun z hz=>?_,hs⟩
      rcases List.mem_cons.1 hz with rfl | hz
      · exact hxy
      · exact elt_trans hxy (hs.1 z hz)
theorem ins_keys {x:En} {es:List En} (hs:es.Pairwise fun x y=>x.key≠y.key) (hk:∀ y∈es,y.key≠x.key):(ins x es).Pairwise fun x y=>x.key≠y.key:=by
  induction es with
  | nil=>unfold ins;simp
  | cons y ys ih =>
    rw [List.pairwise_cons] at hs
    unfold ins
    split
    · rw [List.pairwise_cons]
      refine ⟨fun z hz=>?_,ih hs.2 fun z hz=>hk z (List.mem_cons_of_mem _ hz)⟩
      rcases mem_ins.1 hz with rfl | hz
      · exact hk y (List.mem_cons_self)
      · exact hs.1 z hz
    · rw [List.pairwise_cons,List.pairwise_cons]
      refine ⟨fun z hz e=>?_,hs⟩
      exact hk z hz e.symm
theorem insAt_uniq {x:En} {es:List En} {p:Nat} (hp:p≤es.length) (h1:∀ i,i < p→elt (ne es i) x) (h2:∀ i,p≤i→i < es.length→¬ elt (ne es i) x):p=insAt x es:=by
  induction es generalizing p with
  | nil=>simp at hp;subst hp;rfl
  | cons y ys ih =>
    unfold insAt
    cases p with
    | zero =>
      have h:¬ elt y x:=h2 0 (Nat.le_refl _) (by simp)
      rw [if_neg h]
    | succ p =>
      have h:elt y x:=h1 0 (by omega)
      rw [if_pos h]
      rw [ih (p:=p) (by simpa using hp) (fun i hi=>h1 (i+1) (by omega)) (fun i hi hi2=>h2 (i+1) (by omega) (by simp;omega))]
theorem sorted_mono {x:En} {es:List En} (hs:es.Pairwise elt) {i j:Nat} (hij:i≤j) (hj:j < es.length) (h:elt (ne es j) x):elt (ne es i) x:=by
  by_cases e:i=j
  · subst e;exact h
  · rw [ne_eq _ _ hj] at h
    rw [ne_eq _ _ (by omega)]
    exact elt_trans ((List.pairwise_iff_getElem.1 hs) i j (by omega) hj (by omega)) h
def postc (b:Bok) (x:En):Int :=
  if bookc b≠0 then bookc b else if enc x≠0 then enc x else
  if 0≤findE b.en x.key then (if ne b.en (findE b.en x.key).toNat=x then 0 else 5) else
  if knownB b.ac x=false then 4 else if x.day≤b.shut then 9 else if b.en.length=60 then 2 else 0
def postb (b:Bok) (x:En):Bok:=if 0≤findE b.en x.key then b else { b with en:=ins x b.en }
theorem post_pre {b:Bok} {x:En} (h:postc b x=0):BOk b∧enc x=0∧(if 0≤findE b.en x.key then (if ne b.en (findE b.en x.key).toNat=x then (0:Int) else 5) else if knownB b.ac x=false then 4 else if x.day≤b.shut then 9 else if b.en.length=60 then 2 else 0)=0:=by
  unfold postc at h
  by_cases h1:bookc b=0
  · rw [if_neg (by simp [h1])] at h
    by_cases h2:enc x=0
    · rw [if_neg (by simp [h2])] at h
      exact ⟨(bookc_iff b).1 h1,h2,h⟩
    · rw [if_pos h2] at h;exact absurd h h2
  · rw [if_pos h1] at h;exact absurd h h1
theorem post_old {b:Bok} {x:En} (h:postc b x=0) (hf:0≤findE b.en x.key):BOk b∧enc x=0∧x∈b.en∧postb b x=b:=by
  obtain ⟨h1,h2,h3⟩:=post_pre h
  rw [if_pos hf] at h3
  by_cases h4:ne b.en (findE b.en x.key).toNat=x
  · refine ⟨h1,h2,?_,by unfold postb;rw [if_pos hf]⟩
    rcases findE_cases b.en x.key with ⟨e,_⟩ | ⟨i,hi,e,hk⟩
    · rw [e] at hf;omega
    · rw [e] at h4
      rw [← h4,show ((i:Int)).toNat=i by omega,ne_eq _ _ hi]
      exact List.getElem_mem hi
  · rw [if_neg h4] at h3;omega
theorem post_new {b:Bok} {x:En} (h:postc b x=0) (hf:¬ 0≤findE b.en x.key):BOk b∧enc x=0∧(∀ y∈b.en,y.key≠x.key)∧knownB b.ac x=true∧b.shut < x.day∧b.en.length < 60∧postb b x={ b with en:=ins x b.en }:=by
  obtain ⟨h1,h2,h3⟩:=post_pre h
  rw [if_neg hf] at h3
  by_cases h4:knownB b.ac x=false
  · rw [if_pos h4] at h3;omega
  · rw [if_neg h4] at h3
    by_cases h5:x.day≤b.shut
    · rw [if_pos h5] at h3;omega
    · rw [if_neg h5] at h3
      by_cases h6:b.en.length=60
      · rw [if_pos h6] at h3;omega
      · refine ⟨h1,h2,?_,by simpa using h4,by omega,by have:=h1.len;omega,by unfold postb;rw [if_neg hf]⟩
        rcases findE_cases b.en x.key with ⟨_,e⟩ | ⟨i,hi,e,_⟩
        · exact e
        · rw [e] at hf;omega
theorem post_ok {b:Bok} {x:En} (h:postc b x=0):BOk (postb b x):=by
  by_cases hf:0≤findE b.en x.key
  · obtain ⟨h1,_,_,h4⟩:=post_old h hf
    rw [h4];exact h1
  · obtain ⟨h1,h2,h3,h4,h5,h6,h7⟩:=post_new h hf
    rw [h7]
    refine ⟨h1.ac,h1.s0,h1.s9,?_,?_,?_,ins_keys h1.keys h3,ins_sorted h1.sorted h3⟩
    · show (ins x b.en).length≤60
      rw [ins_len];omega
    · intro y hy
      rcases mem_ins.1 hy with rfl | hy
      · exact h2
      · exact h1.enc y hy
    · intro y hy
      rcases mem_ins.1 hy with rfl | hy
      · exact h4
      · exact h1.known y hy
end Go.Proofs.YtdhbkifpodekcaaGreatDoor
namespace Go.Proofs.YtdhbkifpodekcaaGreatDoor
open Go Go.PlainAid
set_option linter.unusedVariables false
set_option maxRecDepth 100000
def sm {α:Type} (f:α→Int):List α→Int
  | []=>0
  | x :: xs=>f x+sm f xs
section
variable {α β : Type}
theorem sm_append (f:α→Int) (xs ys:List α):sm f (xs++ys)=sm f xs+sm f ys:=by
  induction xs with
  | nil=>show sm f ys=0+sm f ys;omega
  | cons x xs ih=>show f x+sm f (xs++ys)=f x+sm f xs+sm f ys;omega
theorem sm_snoc (f:α→Int) (xs:List α) (x:α):sm f (xs++[x])=sm f xs+f x:=by
  rw [sm_append];show _+(f x+0)=_;omega
theorem sm_take (f:α→Int) (xs:List α) (k:Nat) (h:k < xs.length):sm f (xs.take (k+1))=sm f (xs.take k)+f xs[k]:=by
  rw [List.take_succ_eq_append_getElem h,sm_snoc]
theorem sm_bd {f:α→Int} {xs:List α} {M:Int} (h:∀ x∈xs,-M≤f x∧f x≤M):-(M*xs.length)≤sm f xs∧sm f xs≤M*xs.length:=by
  induction xs with
  | nil=>simp [sm]
  | cons x xs ih =>
    have h1:=h x (List.mem_cons_self)
    have h2:=ih fun y hy=>h y (List.mem_cons_of_mem _ hy)
    show -(M*((xs.length+1:Nat):Int))≤f x+sm f xs∧f x+sm f xs≤M*((xs.length+1:Nat):Int)
    rw [Int.natCast_add,Int.mul_add]
    omega
end
def lnOf (ls:List Ln) (s:ByteArray):Int:=sm (fun l=>if l.1=s then l.2 else 0) ls
def enOf (s:ByteArray) (from' to:Int) (e:En):Int:=if e.day < from'∨to < e.day then 0 else lnOf e.ls s
def ofS (es:List En) (s:ByteArray) (from' to:Int):Int:=sm (enOf s from' to) es
theorem lnOf_bd {ls:List Ln} (h:∀ x∈ls,okL x) (s:ByteArray):-(1000000000000*(ls.length:Int))≤lnOf ls s∧lnOf ls s≤1000000000000*ls.length:=by
  refine sm_bd fun x hx=>?_
  have:=h x hx
  unfold okL at this
  split <;> omega
theorem en_lines {x:En} (h:enc x=0):x.ls.length≤12∧2≤x.ls.length∧sm (·.2) x.ls=0∧(∀ l∈x.ls,okL l)∧(x.ls.map (·.1)).Nodup∧0≤x.day∧x.day≤292193∧keyB x.key=true:=by
  obtain ⟨h1,h2,h3,h4⟩:=entc_ok h
  obtain ⟨k1,k2,k3,k4,k5⟩:=linec_iff.1 h4
  refine ⟨k1,k2,?_,k4,k5,h2,h3,h1⟩
  rw [← k3]
  clear h h1 h2 h3 h4 k1 k2 k3 k4 k5
  induction x.ls with
  | nil=>rfl
  | cons y ys ih=>show y.2+sm _ ys=_;rw [ih];simp
theorem enOf_bd {x:En} (h:enc x=0) (s:ByteArray) (f t:Int):-12000000000000≤enOf s f t x∧enOf s f t x≤12000000000000:=by
  unfold enOf
  split
  · omega
  · obtain ⟨h1,_,_,h4,_⟩:=en_lines h
    have:=lnOf_bd h4 s
    omega
theorem ofS_bd {es:List En} (h:∀ x∈es,enc x=0) (hl:es.length≤60) (s:ByteArray) (f t:Int):-720000000000000≤ofS es s f t∧ofS es s f t≤720000000000000:=by
  have:=sm_bd (f:=enOf s f t) (M:=12000000000000) (xs:=es) fun x hx=>enOf_bd (h x hx) s f t
  unfold ofS
  omega
theorem acc_ok {ac:List Ln} (h:acc ac=0):ac.length≤24∧(ac.map (·.1)).Nodup∧(∀ a∈ac,codeB a.1=true∧0≤a.2∧a.2≤4)∧ac.Pairwise fun a b=>ltB a.1 b.1=true:=by
  unfold acc at h
  split at h
  · omega
  · have hat:∀ k,k < ac.length→codeB (cd ac k)=true∧0≤am ac k∧am ac k≤4∧(0 < k→ltB (cd ac (k - 1)) (cd ac k)=true):=by
      intro k hk
      have h1:=acUp_at h hk
      unfold acAt at h1
      split at h1
      · omega
      · rename_i h2
        split at h1
        · omega
        · rename_i h3
          split at h1
          · omega
          · rename_i h4
            refine ⟨by simpa using h2,by omega,by omega,fun h0=>?_⟩
            cases hl:ltB (cd ac (k - 1)) (cd ac k)
            · exact absurd ⟨h0,hl⟩ h4
            · rfl
    have hlt:∀ d i:Nat,i+d+1 < ac.length→ltB (cd ac i) (cd ac (i+d+1))=true:=by
      intro d
      induction d with
      | zero=>intro i hi;exact (hat (i+1) (by omega)).2.2.2 (by omega)
      | succ d ih=>intro i hi;exact ltB_trans (ih i (by omega)) ((hat (i+(d+1)+1) (by omega)).2.2.2 (by omega))
    have hpw:ac.Pairwise fun a b=>ltB a.1 b.1=true:=by
      rw [List.pairwise_iff_getElem]
      intro i j hi hj hij
      have:=hlt (j - i - 1) i (by omega)
      rw [show i+(j - i - 1)+1=j by omega,(cd_at ac i hi).1,(cd_at ac j hj).1] at this
      exact this
    refine ⟨by omega,?_,?_,hpw⟩
    · unfold List.Nodup
      rw [List.pairwise_map]
      exact hpw.imp fun {a b} h e=>by rw [e,ltB_irrefl] at h;cases h
    · intro a ha
      obtain ⟨i,hi,rfl⟩:=List.mem_iff_getElem.1 ha
      have:=hat i hi
      rw [(cd_at ac i hi).1,(cd_at ac i hi).2] at this
      exact ⟨this.1,this.2.1,this.2.2.1⟩
def balc (b:Bok) (s:ByteArray) (day:Int):Int:=if bookc b≠0 then bookc b else if hasB b.ac s=false then 4 else if day < 0∨292193 < day then 1 else 0
def balv (b:Bok) (s:ByteArray) (day:Int):Int:=if balc b s day≠0 then 0 else ofS b.en s 0 day
end Go.Proofs.YtdhbkifpodekcaaGreatDoor
