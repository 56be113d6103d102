/- Texts of this claim. -/
import Derived.Test.YtdhbkifpodekcaaGreatDoorDeskZ8
import Derived.Test.YtdhbkifpodekcaaGreatDoorDeskZ20
import Derived.WalkSpells
namespace Go.Proofs.YtdhbkifpodekcaaGreatDoor
open Go.ChangeShapes Go.WideShapes Go.ChangeAt Go.RowKit
set_option linter.unusedVariables false
set_option maxRecDepth 100000
theorem vi {k:IntKind} {a b:Int} (h:a=b):Value.int k a=Value.int k b:=by rw [h]
theorem info_row:(Tryz.prog.info? 105).map (fun i=>(i.zero,i.size,i.bytes))=some (some (.agg #[.int .i64 0,.int .i64 0,.int .i64 0]),3,24):=by kernel_rfl
def loanP (owed rate:Int):Prop:=0≤owed∧owed≤1000000000000∧0≤rate∧rate≤1000000
instance (owed rate : Int) : Decidable (loanP owed rate) := by unfold loanP; infer_instance
set_option maxHeartbeats 400000 in
theorem nlook_ok (owed rate:Int) (w:World) (h:loanP owed rate) :
    Calls Tryz.prog 107 #[.int .i64 owed,.int .i64 rate] w fun e w'=>e=.returned (.int .i64 0)∧w=w':=by
  obtain ⟨h1,h2,h3,h4⟩:=h
  go_enter Tryz.func107,Tryz.ntmps107
  go_wp2
  all_goals go_ret
  all_goals exact ⟨rfl,rfl⟩
set_option maxHeartbeats 800000 in
theorem nlook_no (owed rate:Int) (w:World) (h:¬ loanP owed rate) :
    Calls Tryz.prog 107 #[.int .i64 owed,.int .i64 rate] w fun e w'=>e=.returned (.int .i64 1)∧w=w':=by
  have hc:owed < 0∨(0≤owed∧1000000000000 < owed)∨(0≤owed∧owed≤1000000000000∧rate < 0)∨(0≤owed∧owed≤1000000000000∧0≤rate∧1000000 < rate):=by
    unfold loanP at h;omega
  clear h
  rcases hc with h | ⟨h,h'⟩ | ⟨h,h',h''⟩ | ⟨h,h',h'',h'''⟩
  all_goals
    go_enter Tryz.func107,Tryz.ntmps107
    go_wp2
    all_goals go_ret
    all_goals exact ⟨rfl,rfl⟩
def nrow (o r p:Int) (k:Nat):List Value:=[.int .i64 (nint (nl o r p k) r),.int .i64 (noff (nl o r p k) r p),.int .i64 (nl o r p (k+1))]
theorem nrow_len (o r p:Int) (k:Nat):(nrow o r p k).length=3:=rfl
def nrows (o r p:Int) (T:Nat):List Value:=flat (nrow o r p) (List.range T)
theorem nrows_succ (o r p:Int) (k:Nat):nrows o r p (k+1)=nrows o r p k++nrow o r p k:=by
  unfold nrows;rw [List.range_succ,flat_snoc]
def RowsPost (w:World) (o r p:Int) (e:Ending) (w':World):Prop :=
  ∃ T g c bs k,e=.returned (.slice (some ⟨g,0,none⟩) T c)∧w'=more w bs k∧NT o r p T∧1≤T∧T≤c∧Rd (more w bs k) (some ⟨g,0,none⟩) (nrows o r p T)
def RowsPost2 (w:World) (o r p:Int) (e:Ending) (w':World):Prop :=
  ∃ T A c,e=.returned (.slice A T c)∧NT o r p T∧1≤T∧w'.ownsRow w.heap.size 105 3 (.slice A T c) T (nrows o r p T)∧Below w.heap.size w w'
set_option maxRecDepth 100000 in
set_option maxHeartbeats 3200000 in
theorem rows_some2 (o r p:Int) (w:World) (hl:loanP o r) (hp2:p≤2000000000001) (h1:1≤o) (hp:nint o r < p) :
    Calls Tryz.prog 110 #[.int .i64 o,.int .i64 r,.int .i64 p] w (RowsPost2 w o r p):=by
  obtain ⟨l1,l2,l3,l4⟩:=hl
  obtain ⟨i0,hi,hz0,hz1,hz2⟩:=info_parts info_row
  have HS:=Lib.hid (fun k=>nl_step o r p l1 l3 l4 hp k)
  have HG:=Lib.hid (fun k=>nl_nonneg o r p l1 k)
  clear hp
  go_enter Tryz.func110,Tryz.ntmps110
  go_wp2_with fail
  go_loopw [0,7] (fun ow v wr=>∃ k:Nat,k≤41∧ow=.int .i64 (nl o r p k)∧Hid (∀ j,j < k→0 < nl o r p j)∧wr.ownsRow w.heap.size 105 3 v k (nrows o r p k)∧Below w.heap.size w wr) (fun ow _ _=>(intOf ow).toNat)
  case atStart=>exact ⟨0,by omega,rfl,Lib.hid (fun j hj=>absurd hj (Nat.not_lt_zero _)),World.ownsRow_nil _ _ _ _,Below.refl _ _⟩
  case round =>
    obtain ⟨k,hk,rfl,hpos,hown,hnx⟩:=hrel
    obtain ⟨A,c,rfl,hkc,hRd,hAg⟩:=own_shape hown
    have HA:=Lib.hid (⟨hRd,hAg⟩:Rd wr A (nrows o r p k)∧(0 < k→∃ g,A=some ⟨g,0,none⟩∧w.heap.size≤g))
    clear hRd hAg
    obtain ⟨s1,s2,s3,s4⟩:=HS.out k
    have s0:=HG.out k
    have HO:=Lib.hid hown
    have HX:=Lib.hid hnx
    have HE:=Lib.hid (nl_succ o r p k)
    have HR:=Lib.hid (nrows_succ o r p k)
    have HF:=Lib.hid (show nrow o r p k=[.int .i64 (nint (nl o r p k) r),.int .i64 (noff (nl o r p k) r p),.int .i64 (nl o r p (k+1))] from rfl)
    have HN:=Lib.hid (show noff (nl o r p k) r p=min (p - nint (nl o r p k) r) (nl o r p k) from rfl)
    have b:=nint_bd (nl o r p k) r s0 l3 l4
    have pb:=prod_bd (nl o r p k) r 1000000000000 1000000 (by omega) (by omega) l3 l4 (by omega)
    have HC:=Lib.hid (fun w=>show Calls Tryz.prog 102 #[.int .i64 (nl o r p k*r),.int .i64 1000000,.int .i64 2] w fun e w'=>e=.returned (.int .i64 (nint (nl o r p k) r))∧∃ k,w'=w.drewN k from rounded_any (nl o r p k*r) 1000000 2 w (by omega) (by omega) (by omega) (by omega))
    have HK:=Lib.hid (⟨hk,hpos⟩:k≤41∧Hid (∀ j,j < k→0 < nl o r p j))
    obtain ⟨b1,b2⟩:=b
    obtain ⟨pb1,pb2⟩:=pb
    clear hown hnx hpos
    obtain ⟨L,hL⟩:∃ L,nl o r p k=L:=⟨_,rfl⟩
    have HL:=Lib.hid hL
    rw [hL] at s1 s2 s3 s4 s0 b1 b2 pb1 pb2
    have HC':=Lib.hid (show ∀ w,Calls Tryz.prog 102 #[.int .i64 (L*r),.int .i64 1000000,.int .i64 2] w fun e w'=>e=.returned (.int .i64 (nint L r))∧∃ k,w'=w.drewN k by rw [← hL];exact HC.out)
    have HN':=Lib.hid (show noff L r p=min (p - nint L r) L from rfl)
    rw [hL]
    clear hL HC s3
    obtain ⟨i,hi0⟩:∃ i,nint L r=i:=⟨_,rfl⟩
    have HI:=Lib.hid hi0
    rw [hi0] at s2 b1 b2
    have HC2:=Lib.hid (show ∀ w,Calls Tryz.prog 102 #[.int .i64 (L*r),.int .i64 1000000,.int .i64 2] w fun e w'=>e=.returned (.int .i64 i)∧∃ k,w'=w.drewN k by rw [← hi0];exact HC'.out)
    rw [hi0] at HN'
    clear hi0 HC'
    by_cases hlt:0 < L∧k≤40
    · obtain ⟨g1,g2⟩:=hlt
      clear s4
      by_cases hm:L < p - i
      · skip
        have HV:=Lib.hid (show noff L r p=L by have:=HN'.out;omega)
        have HW:=Lib.hid (show nl o r p (k+1)=0 by have:=HE.out;rw [HL.out,HV.out] at this;omega)
        go_wp2_with (first | (go_at_call 102;(with_reducible refine (HC2.out _).mono ?_);rintro e w1 ⟨rfl,m,rfl⟩) | (at_builtin;refine wpList_append_own _ rfl _ _ 101 rfl w.heap.size 105 i0 (.agg #[.int .i64 0,.int .i64 0,.int .i64 0]) 3 24 Tryz.underlying101 hi hz0 hz1 hz2 rfl (by decide) _ _ _ rfl (by exact own_drewN (HO.out.alloc _)) ⟨wr.heap.size,0,none⟩ 1 1 [.int .i64 i,.int .i64 (L),.int .i64 (0)] rfl rfl ?_ ?_ ?_ ?_ ?_ ?_))
        · intro j u hj
          match j,hj with
          | 0,hj=>simp at hj;subst hj;simp [Addr.add]
          | 1,hj=>simp at hj;subst hj;simp [Addr.add]
          | 2,hj=>simp at hj;subst hj;simp [Addr.add]
        · intro u hu;simp at hu;rcases hu with rfl | rfl | rfl <;> rfl
        · unfold maxLen;omega
        · omega
        · have:=HX.out.size;simp;omega
        · intro v' w1 hown' hgrow _
          have HO':=Lib.hid hown'
          have HX':=Lib.hid (own_stepS HO.out HX.out hgrow)
          clear hown' hgrow
          go_wp2
          go_roundw
          case rel =>
            refine ⟨k+1,by omega,by rw [HW.out],Lib.hid (fun j hj=>?_),by rw [HR.out,HF.out,HL.out,HV.out,HW.out,HI.out];exact HO'.out,HX'.out⟩
            by_cases e:j=k
            · subst e;rw [HL.out];exact g1
            · exact HK.out.2.out j (by omega)
          case measure=>simp [intOf];omega
      · have hm':p - i≤L:=by omega
        clear hm
        have HV:=Lib.hid (show noff L r p=p - i by have:=HN'.out;omega)
        have HW:=Lib.hid (show nl o r p (k+1)=L - (p - i) by have:=HE.out;rw [HL.out,HV.out] at this;omega)
        go_wp2_with (first | (go_at_call 102;(with_reducible refine (HC2.out _).mono ?_);rintro e w1 ⟨rfl,m,rfl⟩) | (at_builtin;refine wpList_append_own _ rfl _ _ 101 rfl w.heap.size 105 i0 (.agg #[.int .i64 0,.int .i64 0,.int .i64 0]) 3 24 Tryz.underlying101 hi hz0 hz1 hz2 rfl (by decide) _ _ _ rfl (by exact own_drewN (HO.out.alloc _)) ⟨wr.heap.size,0,none⟩ 1 1 [.int .i64 i,.int .i64 (p - i),.int .i64 (L - (p - i))] rfl rfl ?_ ?_ ?_ ?_ ?_ ?_))
        · intro j u hj
          match j,hj with
          | 0,hj=>simp at hj;subst hj;simp [Addr.add]
          | 1,hj=>simp at hj;subst hj;simp [Addr.add]
          | 2,hj=>simp at hj;subst hj;simp [Addr.add]
        · intro u hu;simp at hu;rcases hu with rfl | rfl | rfl <;> rfl
        · unfold maxLen;omega
        · omega
        · have:=HX.out.size;simp;omega
        · intro v' w1 hown' hgrow _
          have HO':=Lib.hid hown'
          have HX':=Lib.hid (own_stepS HO.out HX.out hgrow)
          clear hown' hgrow
          go_wp2
          go_roundw
          case rel =>
            refine ⟨k+1,by omega,by rw [HW.out],Lib.hid (fun j hj=>?_),by rw [HR.out,HF.out,HL.out,HV.out,HW.out,HI.out];exact HO'.out,HX'.out⟩
            by_cases e:j=k
            · subst e;rw [HL.out];exact g1
            · exact HK.out.2.out j (by omega)
          case measure=>simp [intOf];omega
    · have HZ:=Lib.hid (show k=41∨L=0 by omega)
      have hfin:∀ W:World,wr=W→RowsPost2 w o r p (.returned (.slice A k c)) W:=by
        rintro W rfl
        have hk1:1≤k:=by
          rcases Nat.eq_zero_or_pos k with e0 | e0
          · subst e0
            have e1:=HL.out
            have e2:=HZ.out
            have e3:nl o r p 0=o:=rfl
            omega
          · exact e0
        refine ⟨k,A,c,rfl,⟨HK.out.1,HK.out.2.out,?_⟩,hk1,HO.out,HX.out⟩
        have e2:=HZ.out;rw [← HL.out] at e2;exact e2
      have HFin:=Lib.hid hfin
      clear hfin
      by_cases hz:0 < L
      · have g2:40 < k:=by omega
        clear hlt s4
        go_wp2_with fail
        go_ret
        exact HFin.out _ rfl
      · clear hlt s4
        go_wp2_with fail
        go_ret
        exact HFin.out _ rfl
theorem rows_some (o r p:Int) (w:World) (hl:loanP o r) (hp2:p≤2000000000001) (h1:1≤o) (hp:nint o r < p) :
    Calls Tryz.prog 110 #[.int .i64 o,.int .i64 r,.int .i64 p] w (RowsPost w o r p):=by
  refine (rows_some2 o r p w hl hp2 h1 hp).mono ?_
  rintro e w' ⟨T,A,c,rfl,hNT,hT,hown,hnx⟩
  obtain ⟨bs,e⟩:=more_of_below hnx
  obtain ⟨A',c',e1,hkc,hrd,hag⟩:=own_shape hown
  injection e1 with e2 _ e3
  subst e2 e3
  obtain ⟨g,rfl,hg⟩:=hag hT
  exact ⟨T,g,c,bs,w'.drawn,rfl,e,hNT,hT,hkc,by rw [← e];exact hrd⟩
@[go_sem] theorem eql_nil_row (w : World) (a : Option Addr) (n c : Nat) : (binOp .eql 101 (.slice a n c) (.slice none 0 0)).run Tryz.prog w = .ok (.bool a.isNone) w :=
  Lib.run_eql_slice_nil w _ 105 a n c 0 0 Tryz.underlying101
@[go_sem] theorem neq_nil_row (w : World) (a : Option Addr) (n c : Nat) : (binOp .neq 101 (.slice a n c) (.slice none 0 0)).run Tryz.prog w = .ok (.bool (!a.isNone)) w :=
  run_neq_slice_nil_any w _ 105 a n c 0 0 Tryz.underlying101
set_option maxRecDepth 100000 in
set_option maxHeartbeats 1600000 in
theorem rows_none (o r p:Int) (w:World) (hl:loanP o r) (h:o=0∨(1≤o∧p≤nint o r)) :
    Calls Tryz.prog 110 #[.int .i64 o,.int .i64 r,.int .i64 p] w fun e w'=>e=.returned (.slice none 0 0)∧∃ k,w'=w.drewN k:=by
  obtain ⟨l1,l2,l3,l4⟩:=hl
  rcases h with h | ⟨h1,hp⟩
  · subst h
    go_enter Tryz.func110,Tryz.ntmps110
    go_wp2_with fail
    go_loopw [0,7] (fun ow v wr=>ow=.int .i64 0∧v=.slice none 0 0∧wr=w) (fun ow _ _=>0)
    case atStart=>exact ⟨rfl,rfl,rfl⟩
    case round =>
      obtain ⟨rfl,rfl,rfl⟩:=hrel
      go_wp2_with fail
      go_ret
      exact ⟨rfl,0,rfl⟩
  · obtain ⟨pb1,pb2⟩:=prod_bd o r 1000000000000 1000000 (by omega) (by omega) l3 l4 (by omega)
    have HC:=Lib.hid (fun w=>show Calls Tryz.prog 102 #[.int .i64 (o*r),.int .i64 1000000,.int .i64 2] w fun e w'=>e=.returned (.int .i64 (nint o r))∧∃ k,w'=w.drewN k from rounded_any (o*r) 1000000 2 w (by omega) (by omega) (by omega) (by omega))
    generalize nint o r=i at *
    go_enter Tryz.func110,Tryz.ntmps110
    go_wp2_with fail
    go_loopw [0,7] (fun ow v wr=>ow=.int .i64 o∧v=.slice none 0 0∧wr=w) (fun ow _ _=>0)
    case atStart=>exact ⟨rfl,rfl,rfl⟩
    case round =>
      obtain ⟨rfl,rfl,rfl⟩:=hrel
      go_wp2_with (first | (go_at_call 102;(with_reducible refine (HC.out _).mono ?_);rintro e w1 ⟨rfl,m,rfl⟩))
      go_ret
      exact ⟨rfl,_,rfl⟩
def rowsP (o r p:Int):Prop:=loanP o r∧1≤p∧p≤2000000000000
def rcode (o r p:Int):Int:=if loanP o r∧1≤p∧p≤2000000000000 then (if p≤nint o r then 7 else 2) else 1
def RowsBad (w:World) (c:Int) (e:Ending) (w':World):Prop :=
  ∃ bs k,e=.returned (.tuple #[.slice none 0 0,.int .i64 c])∧w'=more w bs k
set_option maxRecDepth 100000 in
set_option maxHeartbeats 1600000 in
theorem Rows_bad (o r p:Int) (w:World) (h:¬ (rowsP o r p∧okp o r 40 p)) :
    Calls Tryz.prog 62 #[.int .i64 o,.int .i64 r,.int .i64 p] w (RowsBad w (rcode o r p)):=by
  by_cases hl:loanP o r
  · have HL:=Lib.hid (fun w=>nlook_ok o r w hl)
    by_cases hp:1≤p∧p≤2000000000000
    · have hz:o≠0:=fun hz=>h ⟨⟨hl,hp⟩,.inl hz⟩
      have ho1:1≤o:=by have:=hl.1;omega
      by_cases hn:p≤nint o r
      · have hrc:rcode o r p=7:=by unfold rcode;rw [if_pos ⟨hl,hp⟩,if_pos hn]
        rw [hrc]
        have HC:=Lib.hid (fun w=>rows_none o r p w hl (.inr ⟨ho1,hn⟩))
        obtain ⟨hp1,hp2⟩:=hp
        clear hl h hrc hn hz
        go_enter Tryz.func62,Tryz.ntmps62
        go_wp2_with (first | (go_at_call 107;(with_reducible refine (HL.out _).mono ?_);rintro e w1 ⟨rfl,rfl⟩) | (go_at_call 110;(with_reducible refine (HC.out _).mono ?_);rintro e w1 ⟨rfl,k,rfl⟩))
        go_returns
        exact ⟨[],_,rfl,(more_nil _ _).symm⟩
      · have hrc:rcode o r p=2:=by unfold rcode;rw [if_pos ⟨hl,hp⟩,if_neg hn]
        rw [hrc]
        have hno:nl o r p 40≠0:=fun e=>h ⟨⟨hl,hp⟩,.inr ⟨by omega,e⟩⟩
        have HC:=Lib.hid (fun w=>rows_some o r p w hl (by omega) ho1 (by omega))
        obtain ⟨hp1,hp2⟩:=hp
        have HB:=Lib.hid hno
        clear hl h hrc hn hz hno
        go_enter Tryz.func62,Tryz.ntmps62
        go_wp2_with (first | (go_at_call 107;(with_reducible refine (HL.out _).mono ?_);rintro e w1 ⟨rfl,rfl⟩))
        refine (HC.out _).mono ?_
        rintro e w1 ⟨T,g,c,bs,k,rfl,rfl,hT,h1,h2,hr⟩
        have t40:40 < T:=by
          rcases Nat.lt_or_ge 40 T with a | a
          · exact a
          · exact absurd ((hT.end_ (by omega) (Nat.le_refl _)).1 a) HB.out
        clear hT hr
        go_wp2_with fail
        go_returns
        exact ⟨bs,k,rfl,rfl⟩
    · have hrc:rcode o r p=1:=by unfold rcode;rw [if_neg (fun h=>hp h.2)]
      rw [hrc]
      have hc:p < 1∨(1≤p∧2000000000000 < p):=by omega
      clear hrc h hl hp
      rcases hc with hp | ⟨hp,hp'⟩
      all_goals
        go_enter Tryz.func62,Tryz.ntmps62
        go_wp2_with (first | (go_at_call 107;(with_reducible refine (HL.out _).mono ?_);rintro e w1 ⟨rfl,rfl⟩))
        go_returns
        exact ⟨[],_,rfl,more_zero _⟩
  · have hrc:rcode o r p=1:=by unfold rcode;rw [if_neg (fun h=>hl h.1)]
    rw [hrc]
    have HL:=Lib.hid (fun w=>nlook_no o r w hl)
    clear hrc h hl
    go_enter Tryz.func62,Tryz.ntmps62
    go_wp2_with (first | (go_at_call 107;(with_reducible refine (HL.out _).mono ?_);rintro e w1 ⟨rfl,rfl⟩))
    go_returns
    exact ⟨[],_,rfl,more_zero _⟩
def RowsOwn (w:World) (o r p:Int) (T:Nat) (c:Int) (e:Ending) (w':World):Prop :=
  ∃ v,e=.returned (.tuple #[v,.int .i64 c])∧w'.ownsRow w.heap.size 105 3 v T (nrows o r p T)∧Mor w w'
def RowsOwnG (w:World) (o r p:Int) (e:Ending) (w':World):Prop:=∃ T,NT o r p T∧T≤40∧RowsOwn w o r p T 0 e w'
set_option maxHeartbeats 1600000 in
theorem Rows_good2 (o r p:Int) (w:World) (h:rowsP o r p) (ho:okp o r 40 p) :
    Calls Tryz.prog 62 #[.int .i64 o,.int .i64 r,.int .i64 p] w (RowsOwnG w o r p):=by
  obtain ⟨hl,hp1,hp2⟩:=h
  have HL:=Lib.hid (fun w=>nlook_ok o r w hl)
  by_cases hz:o=0
  · subst hz
    have HC:=Lib.hid (fun w=>rows_none 0 r p w hl (.inl rfl))
    clear hl ho
    go_enter Tryz.func62,Tryz.ntmps62
    go_wp2_with (first | (go_at_call 107;(with_reducible refine (HL.out _).mono ?_);rintro e w1 ⟨rfl,rfl⟩) | (go_at_call 110;(with_reducible refine (HC.out _).mono ?_);rintro e w1 ⟨rfl,k,rfl⟩))
    go_returns
    exact ⟨0,⟨by omega,fun k hk=>absurd hk (Nat.not_lt_zero _),.inr rfl⟩,by omega,_,rfl,World.ownsRow_nil _ _ _ _,(Mor.refl w).drewN⟩
  · have ho1:1≤o:=by have:=hl.1;omega
    rcases ho with ho | ⟨ha,hb⟩
    · exact absurd ho hz
    · have HC:=Lib.hid (fun w=>rows_some2 o r p w hl (by omega) ho1 ha)
      clear hl ha hz
      have HB:=Lib.hid hb
      clear hb
      go_enter Tryz.func62,Tryz.ntmps62
      go_wp2_with (first | (go_at_call 107;(with_reducible refine (HL.out _).mono ?_);rintro e w1 ⟨rfl,rfl⟩))
      refine (HC.out _).mono ?_
      rintro e w1 ⟨T,A,c,rfl,hT,h1,hown,hbel⟩
      have t40:T≤40:=(hT.end_ (by omega) (Nat.le_refl _)).2 HB.out
      have HT:=Lib.hid hT
      have HR:=Lib.hid hown
      have HX:=Lib.hid hbel
      obtain ⟨A',c',e1,hkc,hrd,hag⟩:=own_shape hown
      injection e1 with e2 _ e3
      subst e2 e3
      obtain ⟨g,rfl,hg⟩:=hag h1
      clear hT hown hbel hrd hag
      go_wp2_with fail
      go_returns
      exact ⟨T,HT.out,t40,_,rfl,HR.out,Mor.of_below HX.out⟩
end Go.Proofs.YtdhbkifpodekcaaGreatDoor
