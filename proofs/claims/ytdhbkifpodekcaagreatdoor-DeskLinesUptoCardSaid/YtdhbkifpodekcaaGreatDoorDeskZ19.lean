/- Texts of this claim. -/
import Derived.WalkKit
namespace Go.Proofs.YtdhbkifpodekcaaGreatDoor
set_option maxRecDepth 100000
def wi (k n:Int):Int:=(k % 18446744073709551616) % n
theorem wi_lo (k n:Int) (h:1≤n):0≤wi k n:=Int.emod_nonneg _ (by omega)
theorem wi_hi (k n:Int) (h:1≤n):wi k n < n:=Int.emod_lt_of_pos _ (by omega)
def rup (n d way:Int):Bool :=
  if way=1 then decide (0 < n % d)
  else if way=2 then decide (d < 2*(n % d)) || (decide (2*(n % d)=d) && decide (0 < n))
  else if way=3 then decide (d < 2*(n % d)) || (decide (2*(n % d)=d) && decide ((n / d) % 2≠0))
  else false
def rnd (n d way:Int):Int:=n / d+if rup n d way then 1 else 0
theorem rnd_1 (n d:Int):rnd n d 1=n / d+if 0 < n % d then 1 else 0:=by simp [rnd,rup]
theorem rnd_2 (n d:Int):rnd n d 2=n / d+if d < 2*(n % d)∨2*(n % d)=d∧0 < n then 1 else 0:=by simp [rnd,rup]
theorem rnd_3 (n d:Int):rnd n d 3=n / d+if d < 2*(n % d)∨2*(n % d)=d∧(n / d) % 2≠0 then 1 else 0:=by simp [rnd,rup]
theorem rnd_other (n d way:Int) (h1:way≠1) (h2:way≠2) (h3:way≠3):rnd n d way=n / d:=by simp [rnd,rup,h1,h2,h3]
theorem rnd_cases (n d way:Int) (hd:1≤d) :
    (rnd n d way=n / d∧n % d < d∧0≤n % d)∨(rnd n d way=n / d+1∧0 < n % d∧n % d < d):=by
  have r0:0≤n % d:=Int.emod_nonneg _ (by omega)
  have r1:n % d < d:=Int.emod_lt_of_pos _ (by omega)
  by_cases h1:way=1
  · subst h1;rw [rnd_1];split <;> omega
  · by_cases h2:way=2
    · subst h2;rw [rnd_2];split <;> omega
    · by_cases h3:way=3
      · subst h3;rw [rnd_3];split <;> omega
      · rw [rnd_other n d way h1 h2 h3];omega
theorem div_mod (n d:Int):d*(n / d)+n % d=n:=Int.mul_ediv_add_emod n d
theorem rnd_near (n d way:Int) (hd:1≤d):d*rnd n d way < n+d∧n - d < d*rnd n d way:=by
  have e:=div_mod n d
  rcases rnd_cases n d way hd with ⟨h,h1,h2⟩ | ⟨h,h1,h2⟩
  · rw [h];omega
  · rw [h,Int.mul_add];omega
theorem rnd_le (n d way c:Int) (hd:1≤d) (h:n≤d*c):rnd n d way≤c:=by
  have e:=(rnd_near n d way hd).1
  have:d*rnd n d way < d*(c+1):=by rw [Int.mul_add];omega
  have:=Int.lt_of_mul_lt_mul_left this (by omega)
  omega
theorem le_rnd (n d way c:Int) (hd:1≤d) (h:d*c≤n):c≤rnd n d way:=by
  have e:=(rnd_near n d way hd).2
  have:d*(c - 1) < d*rnd n d way:=by rw [Int.mul_sub];omega
  have:=Int.lt_of_mul_lt_mul_left this (by omega)
  omega
theorem rnd_exact (d way c:Int) (hd:1≤d):rnd (d*c) d way=c:=by
  have:=rnd_le (d*c) d way c hd (Int.le_refl _)
  have:=le_rnd (d*c) d way c hd (Int.le_refl _)
  omega
theorem rnd_mono (n m d way:Int) (hd:1≤d) (h:n≤m):rnd n d way≤rnd m d way:=by
  have hq:n / d≤m / d:=Int.ediv_le_ediv (by omega) h
  have e1:=div_mod n d
  have e2:=div_mod m d
  have r0:0≤m % d:=Int.emod_nonneg _ (by omega)
  by_cases hlt:n / d < m / d
  · rcases rnd_cases n d way hd with ⟨a,_⟩ | ⟨a,_⟩ <;> rcases rnd_cases m d way hd with ⟨b,_⟩ | ⟨b,_⟩ <;> omega
  · have hq2:n / d=m / d:=by omega
    have hr:n % d≤m % d:=by rw [hq2] at e1;omega
    by_cases h1:way=1
    · subst h1;rw [rnd_1,rnd_1,hq2];split <;> split <;> omega
    · by_cases h2:way=2
      · subst h2;rw [rnd_2,rnd_2,hq2];split <;> split <;> omega
      · by_cases h3:way=3
        · subst h3;rw [rnd_3,rnd_3,hq2];split <;> split <;> omega
        · rw [rnd_other n d way h1 h2 h3,rnd_other m d way h1 h2 h3];omega
theorem rnd_share (a r way:Int) (h1:0≤a) (h3:0≤r) (h4:r≤1000000):0≤rnd (a*r) 1000000 way∧rnd (a*r) 1000000 way≤a:=by
  have e1:0≤a*r:=Int.mul_nonneg h1 h3
  have e2:a*r≤a*1000000:=Int.mul_le_mul_of_nonneg_left h4 h1
  exact ⟨le_rnd _ _ _ _ (by omega) (by omega),rnd_le _ _ _ _ (by omega) (by omega)⟩
def fq (n d:Int):Rat:=Rat.divInt n d
def fn (q:Rat):Int:=q.num
theorem prod_bd (a r:Int) (M R:Int) (h1:-M≤a) (h2:a≤M) (h3:0≤r) (h4:r≤R) (hM:0≤M):-(M*R)≤a*r∧a*r≤M*R:=by
  have e1:a*r≤M*r:=Int.mul_le_mul_of_nonneg_right h2 h3
  have e2:M*r≤M*R:=Int.mul_le_mul_of_nonneg_left h4 hM
  have e3:-M*r≤a*r:=Int.mul_le_mul_of_nonneg_right h1 h3
  have e4:-M*r=-(M*r):=by rw [Int.neg_mul]
  omega
end Go.Proofs.YtdhbkifpodekcaaGreatDoor
namespace Go.Proofs.YtdhbkifpodekcaaGreatDoor
set_option linter.unusedVariables false
set_option maxRecDepth 100000
def dv (way s:Int):Int:=if way=0 then s+1 else if way=1 then 2*s+1 else s
theorem dv_0 (s:Int):dv 0 s=s+1:=by simp [dv]
theorem dv_1 (s:Int):dv 1 s=2*s+1:=by simp [dv]
theorem dv_le (way s t:Int) (h:s≤t):dv way s≤dv way t:=by unfold dv;split <;> (try split) <;> omega
theorem dv_lt (way s t:Int) (h:s < t):dv way s < dv way t:=by unfold dv;split <;> (try split) <;> omega
theorem dv_pos (way s:Int) (h:0≤s):0≤dv way s:=by unfold dv;split <;> (try split) <;> omega
theorem dv_bd (way s:Int) (h:0≤s) (h2:s≤1000):0≤dv way s∧dv way s≤2001:=by unfold dv;split <;> (try split) <;> omega
def sumTo (f:Nat→Int):Nat→Int
  | 0=>0
  | m+1=>sumTo f m+f m
theorem sumTo_congr (f g:Nat→Int) (m:Nat) (h:∀ i,i < m→f i=g i):sumTo f m=sumTo g m:=by
  induction m with
  | zero=>rfl
  | succ m ih=>simp only [sumTo];rw [ih (fun i hi=>h i (by omega)),h m (by omega)]
theorem sumTo_le (f g:Nat→Int) (m:Nat) (h:∀ i,i < m→f i≤g i):sumTo f m≤sumTo g m:=by
  induction m with
  | zero=>exact Int.le_refl _
  | succ m ih=>have:=ih (fun i hi=>h i (by omega));have:=h m (by omega);simp only [sumTo];omega
theorem sumTo_lt (f g:Nat→Int) (m j:Nat) (hj:j < m) (h:∀ i,i < m→f i≤g i) (hs:f j < g j):sumTo f m < sumTo g m:=by
  induction m with
  | zero=>omega
  | succ m ih =>
    by_cases e:j=m
    · subst e
      have:=sumTo_le f g j (fun i hi=>h i (by omega));simp only [sumTo];omega
    · have:=ih (by omega) (fun i hi=>h i (by omega));have:=h m (by omega);simp only [sumTo];omega
theorem sumTo_more (f g:Nat→Int) (m j:Nat) (hj:j < m) (hs:sumTo f m≤sumTo g m) (h:g j < f j):∃ i,i < m∧f i < g i:=by
  by_cases hx:∃ i,i < m∧f i < g i
  · exact hx
  · have:=sumTo_lt g f m j hj (fun i hi=>by
      by_cases hl:f i < g i
      · exact absurd ⟨i,hi,hl⟩ hx
      · omega) h
    omega
theorem sumTo_const (c:Int) (m:Nat):sumTo (fun _=>c) m=c*m:=by
  induction m with
  | zero=>simp [sumTo]
  | succ m ih=>simp only [sumTo];rw [ih,Int.natCast_add,Int.mul_add];simp
theorem sumTo_upd (f:Nat→Int) (m j:Nat) (hj:j < m) (d:Int):sumTo (fun i=>if i=j then f i+d else f i) m=sumTo f m+d:=by
  induction m with
  | zero=>omega
  | succ m ih =>
    simp only [sumTo]
    by_cases e:j=m
    · subst e
      rw [sumTo_congr (fun i=>if i=j then f i+d else f i) f j (fun i hi=>by (try simp only);rw [if_neg (by omega)]),if_pos rfl];omega
    · rw [ih (by omega),if_neg (by omega)];omega
def Prec (way:Int) (v:Nat→Int) (k:Nat) (s:Int) (i:Nat) (t:Int):Prop :=
  v i*dv way s < v k*dv way t∨(v i*dv way s=v k*dv way t∧k < i)
def Fair (way:Int) (m:Nat) (v x:Nat→Int):Prop :=
  (∀ i,i < m→0≤x i)∧(∀ i,i < m→v i=0→x i=0)∧∀ i k,i < m→k < m→i≠k→0 < v i→0 < x k→Prec way v k (x k - 1) i (x i)
theorem Fair.vpos {way:Int} {m:Nat} {v x:Nat→Int} (h:Fair way m v x) (hv:∀ i,i < m→0≤v i) {k:Nat} (hk:k < m) (hx:0 < x k):0 < v k:=by
  have:=hv k hk
  rcases Int.lt_or_eq_of_le this with h0 | h0
  · exact h0
  · have:=h.2.1 k hk h0.symm;omega
theorem no_cross {way:Int} {m:Nat} {v x y:Nat→Int} (hv:∀ i,i < m→0≤v i) (hx:Fair way m v x) (hy:Fair way m v y) {i k:Nat} (hi:i < m) (hk:k < m)
    (h1:x i < y i) (h2:y k < x k):False:=by
  have x0:=hx.1 i hi
  have y0:=hy.1 k hk
  have hik:i≠k:=by rintro rfl;omega
  have vi:=hy.vpos hv hi (show 0 < y i by omega)
  have vk:=hx.vpos hv hk (show 0 < x k by omega)
  have a:=hx.2.2 i k hi hk hik vi (by omega)
  have b:=hy.2.2 k i hk hi (Ne.symm hik) vk (by omega)
  have c:=Int.mul_le_mul_of_nonneg_left (dv_le way (x i) (y i - 1) (by omega)) (show 0≤v k by omega)
  have d:=Int.mul_le_mul_of_nonneg_left (dv_le way (y k) (x k - 1) (by omega)) (show 0≤v i by omega)
  rcases a with a | a <;> rcases b with b | b <;> omega
theorem fair_le {way:Int} {m:Nat} {v x y:Nat→Int} (hv:∀ i,i < m→0≤v i) (hx:Fair way m v x) (hy:Fair way m v y) (hs:sumTo x m≤sumTo y m):∀ i,i < m→x i≤y i:=by
  intro k hk
  by_cases h:x k≤y k
  · exact h
  · obtain ⟨i,hi,hlt⟩:=sumTo_more x y m k hk hs (by omega)
    exact (no_cross hv hx hy hi hk hlt (by omega)).elim
theorem fair_unique {way:Int} {m:Nat} {v x y:Nat→Int} (hv:∀ i,i < m→0≤v i) (hx:Fair way m v x) (hy:Fair way m v y) (hs:sumTo x m=sumTo y m):∀ i,i < m→x i=y i:=by
  intro i hi
  have a:=fair_le hv hx hy (by omega) i hi
  have b:=fair_le hv hy hx (by omega) i hi
  omega
def Best (way:Int) (v x:Nat→Int) (i:Nat) (b:Int):Prop :=
  (b=-1∧∀ j,j < i→v j=0)∨∃ B:Nat,b=B∧B < i∧0 < v B∧∀ j,j < i→j≠B→0 < v j→Prec way v B (x B) j (x j)
theorem Best.zero (way:Int) (v x:Nat→Int):Best way v x 0 (-1):=.inl ⟨rfl,fun j hj=>absurd hj (Nat.not_lt_zero _)⟩
theorem Best.skip {way:Int} {v x:Nat→Int} {i:Nat} {b:Int} (h:Best way v x i b) (hv:v i=0):Best way v x (i+1) b:=by
  rcases h with ⟨e,h⟩ | ⟨B,e,hB,hp,h⟩
  · refine .inl ⟨e,fun j hj=>?_⟩
    by_cases ej:j=i
    · subst ej;exact hv
    · exact h j (by omega)
  · refine .inr ⟨B,e,by omega,hp,fun j hj hjB hvj=>?_⟩
    by_cases ej:j=i
    · subst ej;omega
    · exact h j (by omega) hjB hvj
theorem Best.first {way:Int} {v x:Nat→Int} {i:Nat} {b:Int} (h:Best way v x i b) (hb:b < 0) (hv:0 < v i):Best way v x (i+1) i:=by
  rcases h with ⟨e,h⟩ | ⟨B,e,_⟩
  · refine .inr ⟨i,rfl,by omega,hv,fun j hj hji hvj=>?_⟩
    have:=h j (by omega);omega
  · omega
theorem Best.stay {way:Int} {v x:Nat→Int} {i B:Nat} (h:Best way v x i B) (hv:0 < v i) (hc:v i*dv way (x B)≤v B*dv way (x i)):Best way v x (i+1) B:=by
  rcases h with ⟨e,h⟩ | ⟨B',e,hB,hp,h⟩
  · omega
  · obtain rfl:B=B':=by omega
    refine .inr ⟨B,rfl,by omega,hp,fun j hj hjB hvj=>?_⟩
    by_cases ej:j=i
    · subst ej;unfold Prec;omega
    · exact h j (by omega) hjB hvj
theorem Best.take {way:Int} {v x:Nat→Int} {i B:Nat} (h:Best way v x i B) (hx:∀ j,j < i+1→0≤x j) (hv:0 < v i) (hc:v B*dv way (x i) < v i*dv way (x B)):Best way v x (i+1) i:=by
  rcases h with ⟨e,h⟩ | ⟨B',e,hB,hp,h⟩
  · omega
  · obtain rfl:B=B':=by omega
    refine .inr ⟨i,rfl,by omega,hv,fun j hj hji hvj=>.inl ?_⟩
    have di:=dv_pos way (x i) (hx i (by omega))
    have dj:=dv_pos way (x j) (hx j hj)
    have db0:=dv_pos way (x B) (hx B (by omega))
    have db:0 < dv way (x B):=by
      rcases Int.lt_or_eq_of_le db0 with h0 | h0
      · exact h0
      · rw [← h0,Int.mul_zero] at hc
        have:=Int.mul_nonneg (show 0≤v B by omega) di;omega
    by_cases ejB:j=B
    · subst ejB;exact hc
    · have a:v j*dv way (x B)≤v B*dv way (x j):=by rcases h j (by omega) ejB hvj with t | t <;> omega
      have djp:0 < dv way (x j):=by
        rcases Int.lt_or_eq_of_le dj with h0 | h0
        · exact h0
        · rw [← h0,Int.mul_zero] at a
          have:=Int.mul_pos hvj db;omega
      have s1:=Int.mul_le_mul_of_nonneg_left a di
      have s2:=Int.mul_lt_mul_of_pos_left hc djp
      have e1:dv way (x i)*(v j*dv way (x B))=dv way (x B)*(v j*dv way (x i)):=by ac_rfl
      have e2:dv way (x i)*(v B*dv way (x j))=dv way (x j)*(v B*dv way (x i)):=by ac_rfl
      have e3:dv way (x j)*(v i*dv way (x B))=dv way (x B)*(v i*dv way (x j)):=by ac_rfl
      have s3:dv way (x B)*(v j*dv way (x i)) < dv way (x B)*(v i*dv way (x j)):=by omega
      exact Int.lt_of_mul_lt_mul_left s3 (by omega)
theorem Fair.next {way:Int} {m:Nat} {v x:Nat→Int} (h:Fair way m v x) (hv:∀ i,i < m→0≤v i) {B:Nat} (hb:Best way v x m B):B < m∧Fair way m v (fun i=>if i=B then x i+1 else x i):=by
  rcases hb with ⟨e,_⟩ | ⟨B',e,hB,hp,hb⟩
  · omega
  · obtain rfl:B=B':=by omega
    refine ⟨hB,fun i hi=>?_,fun i hi hz=>?_,fun i k hi hk hik hvi hxk=>?_⟩
    · have:=h.1 i hi;simp only;split <;> omega
    · have:=h.2.1 i hi hz
      simp only;split
      · subst_vars;omega
      · omega
    · simp only at hxk ⊢
      by_cases ek:k=B
      · subst ek
        rw [if_pos rfl,if_neg hik,show x k+1 - 1=x k by omega]
        exact hb i hi hik hvi
      · rw [if_neg ek] at hxk ⊢
        have a:=h.2.2 i k hi hk hik hvi hxk
        by_cases ei:i=B
        · subst ei
          rw [if_pos rfl]
          have vk:=h.vpos hv hk hxk
          have c:=Int.mul_lt_mul_of_pos_left (dv_lt way (x i) (x i+1) (by omega)) vk
          unfold Prec at a ⊢
          rcases a with a | a <;> omega
        · rw [if_neg ei];exact a
theorem Fair.zero (way:Int) (m:Nat) (v:Nat→Int):Fair way m v (fun _=>0) :=
  ⟨fun _ _=>Int.le_refl _,fun _ _ _=>rfl,fun i k _ _ _ _ h=>absurd (show (0:Int) < 0 from h) (by omega)⟩
theorem Best.some {way:Int} {m:Nat} {v x:Nat→Int} {b:Int} (h:Best way v x m b) (hs:sumTo v m≠0):∃ B:Nat,b=B∧B < m:=by
  rcases h with ⟨e,h⟩ | ⟨B,e,hB,_⟩
  · have:=sumTo_congr v (fun _=>0) m h
    rw [sumTo_const] at this;omega
  · exact ⟨B,e,hB⟩
def dstep (left rest rate n:Int):Int:=min (max (rnd (left*rate) 1000000 2) (rnd (left - rest) n 1)) (left - rest)
def fleft (cost rest rate N:Int):Nat→Int
  | 0=>cost
  | k+1=>fleft cost rest rate N k - dstep (fleft cost rest rate N k) rest rate (N - k)
def fdd (cost rest rate N:Int) (k:Nat):Int:=dstep (fleft cost rest rate N k) rest rate (N - k)
def flist (cost rest rate N:Int) (k:Nat):List Int:=(List.range k).map (fdd cost rest rate N)
theorem dstep_bd (left rest rate n:Int) (h1:rest≤left) (h2:0≤rest) (h3:0≤rate) (hn:1≤n):0≤dstep left rest rate n∧dstep left rest rate n≤left - rest:=by
  have a:=le_rnd (left - rest) n 1 0 hn (by omega)
  unfold dstep;omega
theorem fleft_bd (cost rest rate N:Int) (h1:rest≤cost) (h2:0≤rest) (h3:0≤rate) (k:Nat) (hk:(k:Int)≤N):rest≤fleft cost rest rate N k∧fleft cost rest rate N k≤cost:=by
  induction k with
  | zero=>exact ⟨h1,Int.le_refl _⟩
  | succ k ih =>
    have:=ih (by omega)
    have:=dstep_bd (fleft cost rest rate N k) rest rate (N - k) this.1 h2 h3 (by omega)
    simp only [fleft];omega
theorem flist_succ (cost rest rate N:Int) (k:Nat):flist cost rest rate N (k+1)=flist cost rest rate N k++[fdd cost rest rate N k]:=by
  simp [flist,List.range_succ]
theorem flist_len (cost rest rate N:Int) (k:Nat):(flist cost rest rate N k).length=k:=by simp [flist]
theorem fleft_succ (cost rest rate N:Int) (k:Nat):fleft cost rest rate N (k+1)=fleft cost rest rate N k - fdd cost rest rate N k:=rfl
def yrs (y:Int):Int:=365*(y - 1600)+(y - 1600+3) / 4 - (y - 1600+99) / 100+(y - 1600+399) / 400
def lp (y:Int):Bool:=decide (y % 4=0) && (!decide (y % 100=0) || decide (y % 400=0))
def lpn (y:Int):Int:=if lp y then 1 else 0
def mtab:List Int:=[0,31,28,31,30,31,30,31,31,30,31,30,31]
def ctab:List Int:=[0,0,31,59,90,120,151,181,212,243,273,304,334,365]
def mlen (y m:Int):Int:=if m=2∧lp y=true then 29 else mtab.getD m.toNat 0
def fst (y m:Int):Int:=yrs y+ctab.getD m.toNat 0+(if 2 < m then lpn y else 0)
theorem lpn_cases (y:Int):(lpn y=0∧lp y=false)∨(lpn y=1∧lp y=true):=by
  unfold lpn;cases lp y <;> simp
theorem lp_iff (y:Int):lp y=true↔y % 4=0∧(y % 100≠0∨y % 400=0):=by unfold lp;simp
theorem lp_false (y:Int):lp y=false↔¬ (y % 4=0∧(y % 100≠0∨y % 400=0)):=by rw [← lp_iff];simp
theorem yrs_succ (y:Int):yrs (y+1)=yrs y+365+lpn y:=by
  unfold yrs
  rcases lpn_cases y with ⟨h,h'⟩ | ⟨h,h'⟩
  · rw [h];rw [lp_false] at h';omega
  · rw [h];rw [lp_iff] at h';omega
theorem yrs_le (y:Int) (h:1600≤y):yrs y≤366*(y - 1600):=by unfold yrs;omega
theorem yrs_ge (y:Int) (h:1600≤y):365*(y - 1600)≤yrs y:=by unfold yrs;omega
theorem yrs_mono (y z:Int) (h:y≤z):yrs y+365*(z - y)≤yrs z:=by unfold yrs;omega
theorem yrs_top:yrs 2400=292194:=by decide
theorem m_cases {m:Int} (h1:1≤m) (h2:m≤12):m=1∨m=2∨m=3∨m=4∨m=5∨m=6∨m=7∨m=8∨m=9∨m=10∨m=11∨m=12:=by omega
theorem mlen_eq {y m:Int} (h1:1≤m) (h2:m≤12) :
    (m=2∧mlen y m=28+lpn y)∨((m=4∨m=6∨m=9∨m=11)∧mlen y m=30)∨((m=1∨m=3∨m=5∨m=7∨m=8∨m=10∨m=12)∧mlen y m=31):=by
  unfold mlen lpn
  rcases m_cases h1 h2 with rfl | rfl | rfl | rfl | rfl | rfl | rfl | rfl | rfl | rfl | rfl | rfl <;> cases lp y <;> decide
theorem mlen_bd {y m:Int} (h1:1≤m) (h2:m≤12):28≤mlen y m∧mlen y m≤31:=by
  rcases mlen_eq (y:=y) h1 h2 with ⟨_,h⟩ | ⟨_,h⟩ | ⟨_,h⟩
  · rcases lpn_cases y with ⟨e,_⟩ | ⟨e,_⟩ <;> omega
  · omega
  · omega
theorem fst_one (y:Int):fst y 1=yrs y:=by unfold fst;simp [ctab]
theorem fst_succ {y m:Int} (h1:1≤m) (h2:m≤11):fst y (m+1)=fst y m+mlen y m:=by
  have h3:m≤12:=by omega
  unfold fst mlen lpn
  rcases m_cases h1 h3 with rfl | rfl | rfl | rfl | rfl | rfl | rfl | rfl | rfl | rfl | rfl | rfl <;> cases lp y <;> simp [ctab,mtab] <;> omega
theorem fst_year (y:Int):yrs (y+1)=fst y 12+mlen y 12:=by
  rw [yrs_succ];unfold fst mlen;simp [ctab,mtab];omega
def fk (k:Int):Int:=fst (1600+k / 12) (1+k % 12)
def lk (k:Int):Int:=mlen (1600+k / 12) (1+k % 12)
theorem lk_bd (k:Int):28≤lk k∧lk k≤31:=mlen_bd (by omega) (by omega)
theorem fk_succ (k:Int):fk (k+1)=fk k+lk k:=by
  unfold fk lk
  by_cases h:k % 12=11
  · rw [show (k+1) / 12=k / 12+1 by omega,show 1+(k+1) % 12=1 by omega,show 1+k % 12=12 by omega,show 1600+(k / 12+1)=1600+k / 12+1 by omega,fst_one,fst_year]
  · rw [show (k+1) / 12=k / 12 by omega,show 1+(k+1) % 12=1+k % 12+1 by omega,fst_succ (by omega) (by omega)]
theorem fk_zero:fk 0=0:=by decide
theorem fk_top:fk 9600=292194:=by decide
theorem fk_add (k:Int) (n:Nat):fk k+28*n≤fk (k+n):=by
  induction n with
  | zero=>simp
  | succ n ih =>
    rw [show k+((n+1:Nat):Int)=k+n+1 by omega,fk_succ]
    have:=lk_bd (k+n);omega
theorem fk_mono {j k:Int} (h:j≤k):fk j+28*(k - j)≤fk k:=by
  obtain ⟨n,hn⟩:=Int.eq_ofNat_of_zero_le (show 0≤k - j by omega)
  have:=fk_add j n
  rw [show j+(n:Int)=k by omega] at this;omega
theorem fk_lt {j k:Int} (h:j < k):fk j+lk j≤fk k:=by
  have:=fk_mono (show j+1≤k by omega)
  rw [fk_succ] at this;omega
structure IsD (n k D:Int):Prop where
  k0:0≤k
  k1:k < 9600
  d0:1≤D
  d1:D≤lk k
  eq:n=fk k+D - 1
theorem IsD.bd {n k D:Int} (h:IsD n k D):0≤n∧n≤292193:=by
  have a:=fk_mono h.k0
  have b:=fk_lt h.k1
  rw [fk_zero] at a;rw [fk_top] at b
  have:=h.eq;have:=h.d0;have:=h.d1;have:=h.k0
  omega
theorem isD_ex (n:Nat) (h:(n:Int)≤292193):∃ k D,IsD n k D:=by
  induction n with
  | zero=>exact ⟨0,1,⟨by omega,by omega,by omega,by have:=lk_bd 0;omega,by rw [fk_zero];rfl⟩⟩
  | succ n ih =>
    obtain ⟨k,D,hd⟩:=ih (by omega)
    by_cases h1:D < lk k
    · exact ⟨k,D+1,⟨hd.k0,hd.k1,by have:=hd.d0;omega,by omega,by have:=hd.eq;omega⟩⟩
    · refine ⟨k+1,1,⟨by have:=hd.k0;omega,?_,by omega,by have:=lk_bd (k+1);omega,by rw [fk_succ];have:=hd.eq;have:=hd.d1;omega⟩⟩
      by_cases h9:k+1=9600
      · have e:=fk_succ k
        rw [h9,fk_top] at e
        have:=hd.eq;have:=hd.d1;omega
      · have:=hd.k1;omega
noncomputable def dk (n:Int):Int:=@dite _ (∃ k D,IsD n k D) (Classical.propDecidable _) (fun h=>Classical.choose h) (fun _=>0)
noncomputable def dm (n:Int):Int:=n - fk (dk n)+1
theorem isD_of {n:Int} (h0:0≤n) (h1:n≤292193):IsD n (dk n) (dm n):=by
  have h:∃ k D,IsD n k D:=by
    obtain ⟨m,rfl⟩:=Int.eq_ofNat_of_zero_le h0
    exact isD_ex m h1
  unfold dm dk
  rw [dif_pos h]
  obtain ⟨D,hD⟩:=Classical.choose_spec h
  have:n - fk (Classical.choose h)+1=D:=by have:=hD.eq;omega
  rw [this];exact hD
theorem IsD.uniq {n k D k' D':Int} (h:IsD n k D) (h':IsD n k' D'):k=k'∧D=D':=by
  have e:=h.eq;have e':=h'.eq
  have:=h.d0;have:=h.d1;have:=h'.d0;have:=h'.d1
  rcases Int.lt_trichotomy k k' with l | l | l
  · have:=fk_lt l;omega
  · subst l;exact ⟨rfl,by omega⟩
  · have:=fk_lt l;omega
theorem IsD.dk {n k D:Int} (h:IsD n k D):dk n=k:=((isD_of h.bd.1 h.bd.2).uniq h).1
theorem IsD.dm {n k D:Int} (h:IsD n k D):dm n=D:=((isD_of h.bd.1 h.bd.2).uniq h).2
theorem IsD.le {n k D n' k' D':Int} (h:IsD n k D) (h':IsD n' k' D'):n≤n'↔k < k'∨(k=k'∧D≤D'):=by
  have e:=h.eq;have e':=h'.eq
  have:=h.d0;have:=h.d1;have:=h'.d0;have:=h'.d1
  rcases Int.lt_trichotomy k k' with l | l | l
  · have:=fk_lt l;constructor <;> intro <;> omega
  · subst l;omega
  · have:=fk_lt l;constructor <;> intro <;> omega
theorem isD_mk {k D:Int} (h0:0≤k) (h1:k < 9600) (d0:1≤D) (d1:D≤lk k):IsD (fk k+D - 1) k D:=⟨h0,h1,d0,d1,rfl⟩
def nint (L rate:Int):Int:=rnd (L*rate) 1000000 2
def noff (L rate pay:Int):Int:=min (pay - nint L rate) L
def nl (owed rate pay:Int):Nat→Int
  | 0=>owed
  | k+1=>nl owed rate pay k - noff (nl owed rate pay k) rate pay
theorem nl_succ (owed rate pay:Int) (k:Nat):nl owed rate pay (k+1)=nl owed rate pay k - noff (nl owed rate pay k) rate pay:=rfl
theorem nint_bd (L rate:Int) (h1:0≤L) (h3:0≤rate) (h4:rate≤1000000):0≤nint L rate∧nint L rate≤L:=rnd_share L rate 2 h1 h3 h4
theorem nint_mono (L M r s:Int) (h0:0≤L) (h1:L≤M) (h2:0≤r) (h3:r≤s):nint L r≤nint M s:=by
  refine rnd_mono _ _ _ _ (by omega) ?_
  have a:=Int.mul_le_mul_of_nonneg_right h1 h2
  have b:=Int.mul_le_mul_of_nonneg_left h3 (show 0≤M by omega)
  omega
theorem nint_zero (r:Int):nint 0 r=0:=by
  unfold nint;rw [Int.zero_mul];exact rnd_exact 1000000 2 0 (by omega)
theorem nl_nonneg (owed rate pay:Int) (h1:0≤owed) (k:Nat):0≤nl owed rate pay k:=by
  induction k with
  | zero=>exact h1
  | succ k ih=>rw [nl_succ];unfold noff;omega
theorem nl_step (owed rate pay:Int) (h1:0≤owed) (h3:0≤rate) (h4:rate≤1000000) (hp:nint owed rate < pay) (k:Nat) :
    nl owed rate pay k≤owed∧nint (nl owed rate pay k) rate < pay∧nl owed rate pay (k+1)≤nl owed rate pay k∧(0 < nl owed rate pay k→1≤noff (nl owed rate pay k) rate pay):=by
  have base:nl owed rate pay k≤owed→nint (nl owed rate pay k) rate < pay∧nl owed rate pay (k+1)≤nl owed rate pay k∧(0 < nl owed rate pay k→1≤noff (nl owed rate pay k) rate pay):=by
    intro h
    have n0:=nl_nonneg owed rate pay h1 k
    have m:=nint_mono _ _ rate rate n0 h h3 (Int.le_refl _)
    rw [nl_succ]
    unfold noff
    refine ⟨by omega,by omega,by omega⟩
  induction k with
  | zero=>exact ⟨Int.le_refl _,base (Int.le_refl _)⟩
  | succ k ih =>
    have le:nl owed rate pay k≤owed:=by
      cases k with
      | zero=>exact Int.le_refl _
      | succ j=>exact (ih (by
          intro h
          have n0:=nl_nonneg owed rate pay h1 (j+1)
          have m:=nint_mono _ _ rate rate n0 h h3 (Int.le_refl _)
          rw [nl_succ _ _ _ (j+1)]
          unfold noff
          refine ⟨by omega,by omega,by omega⟩)).1
    have n0:=nl_nonneg owed rate pay h1 k
    have m:=nint_mono _ _ rate rate n0 le h3 (Int.le_refl _)
    have s:nl owed rate pay (k+1)≤owed:=by rw [nl_succ];unfold noff;omega
    exact ⟨s,base s⟩
theorem nl_zero (owed rate pay:Int) (h:0≤pay) (k:Nat) (hk:nl owed rate pay k=0) (j:Nat) (hj:k≤j):nl owed rate pay j=0:=by
  induction j with
  | zero=>rwa [show k=0 by omega] at hk
  | succ j ih =>
    by_cases e:k=j+1
    · rw [← e];exact hk
    · have i:=ih (by omega)
      rw [nl_succ,i];unfold noff;rw [nint_zero];omega
theorem nl_mono (o o' r r' p p':Int) (h0:0≤o) (h1:o≤o') (h2:0≤r) (h3:r≤r') (h4:p'≤p) (k:Nat):nl o r p k≤nl o' r' p' k:=by
  induction k with
  | zero=>exact h1
  | succ k ih =>
    have n0:=nl_nonneg o r p h0 k
    have m:=nint_mono _ _ r r' n0 ih h2 h3
    rw [nl_succ,nl_succ]
    unfold noff
    omega
def NT (owed rate pay:Int) (T:Nat):Prop:=T≤41∧(∀ k,k < T→0 < nl owed rate pay k)∧(T=41∨nl owed rate pay T=0)
theorem NT.le {o o' r r' p p':Int} {T T':Nat} (h:NT o r p T) (h':NT o' r' p' T') (hm:∀ k,nl o r p k≤nl o' r' p' k):T≤T':=by
  rcases Nat.lt_or_ge T' T with hlt | hge
  · have a:=h.2.1 T' hlt
    have b:=hm T'
    have c:=h.1
    rcases h'.2.2 with e | e <;> omega
  · exact hge
theorem NT.end_ {o r p:Int} {T n:Nat} (h:NT o r p T) (h0:0≤p) (hn:n≤40):T≤n↔nl o r p n=0:=by
  constructor
  · intro hle
    rcases h.2.2 with e | e
    · omega
    · exact nl_zero o r p h0 T e n hle
  · intro hz
    rcases Nat.lt_or_ge n T with hlt | hge
    · have:=h.2.1 n hlt;omega
    · exact hge
def okp (owed rate:Int) (n:Nat) (pay:Int):Prop:=owed=0∨(nint owed rate < pay∧nl owed rate pay n=0)
theorem okp_le (o r p:Int) (n:Nat) (l1:0≤o) (l3:0≤r) (l4:r≤1000000) (hp:0≤p) (h:okp o r n p) (k:Nat):nl o r p k≤o:=by
  rcases h with e | ⟨e,_⟩
  · subst e
    have:=nl_zero 0 r p hp 0 rfl k (by omega);omega
  · exact (nl_step o r p l1 l3 l4 e k).1
theorem okp_mono (o o' r r' p p':Int) (n n':Nat) (h0:0≤o) (h1:o≤o') (h2:0≤r) (h3:r≤r') (h4:p'≤p) (h5:n'≤n) (hp:0≤p') (h:okp o' r' n' p'):okp o r n p:=by
  by_cases hz:o=0
  · exact .inl hz
  · rcases h with h | ⟨a,b⟩
    · omega
    · refine .inr ⟨?_,?_⟩
      · have:=nint_mono o o' r r' h0 h1 h2 h3;omega
      · have c:=nl_mono o o' r r' p p' h0 h1 h2 h3 h4 n
        have d:=nl_zero o' r' p' hp n' b n h5
        have e:=nl_nonneg o r p h0 n
        omega
def leastP (o r:Int) (n:Nat) (p:Int):Prop:=1≤p∧p≤2000000000000∧okp o r n p∧(p=1∨¬ okp o r n (p - 1))
theorem okp_most (o r:Int) (n:Nat) (h0:0≤o) (h1:o≤1000000000000) (h2:0≤r) (h3:r≤1000000) (hn:1≤n):okp o r n 2000000000000:=by
  have b:=nint_bd o r h0 h2 h3
  refine .inr ⟨by omega,nl_zero o r 2000000000000 (by omega) 1 ?_ n hn⟩
  rw [nl_succ];show o - noff o r 2000000000000=0;unfold noff;omega
theorem least_le (o o' r r' p p':Int) (n n':Nat) (h0:0≤o) (h1:o≤o') (h2:0≤r) (h3:r≤r') (h5:n'≤n) (h:leastP o r n p) (h':leastP o' r' n' p'):p≤p':=by
  obtain ⟨a1,a2,a3,a4⟩:=h
  obtain ⟨b1,b2,b3,b4⟩:=h'
  rcases Int.lt_or_le p' p with hlt | hge
  · rcases a4 with e | e
    · omega
    · exact absurd (okp_mono o o' r r' (p - 1) p' n n' h0 h1 h2 h3 (by omega) h5 (by omega) b3) e
  · exact hge
end Go.Proofs.YtdhbkifpodekcaaGreatDoor
