/- Texts of this claim. -/
import Derived.Test.YtdhbkifpodekcaaGreatDoorDeskZ17
import Derived.Test.YtdhbkifpodekcaaGreatDoorDeskZ26
import Derived.Test.YtdhbkifpodekcaaGreatDoorDeskZ28
namespace Go.Proofs.YtdhbkifpodekcaaGreatDoor
open Go Go.ChangeShapes Go.WideShapes Go.ChangeAt Go.RowKit Go.PlainAid
set_option linter.unusedVariables false
set_option maxRecDepth 100000
def CB (c:Int):Prop:=0≤c∧c≤20
def NV (w:World) (v c:Int) (e:Ending) (w':World):Prop:=e=.returned (.tuple #[.int .i64 v,.int .i64 c])∧Mor w w'
def LV (w:World) (l:List Int) (c:Int) (e:Ending) (w':World):Prop :=
  ∃ A k,e=.returned (.tuple #[.slice A l.length k,.int .i64 c])∧l.length≤k∧Ri w' A l∧Mor w w'
def LB (l:List Int):Prop:=l.length≤100∧∀ x∈l,I64 x
theorem LB.nil:LB []:=⟨by simp,by simp⟩
theorem lv_nil {w w':World} (c:Int) (hm:Mor w w'):LV w [] c (.returned (.tuple #[.slice none 0 0,.int .i64 c])) w':=⟨none,0,rfl,Nat.le_refl _,.inl rfl,hm⟩
theorem lv_cells {w w':World} {g:Nat} {xs:List Int} {cs:Array Value} (hb:Blk w' g 3 cs) (hc:cs=ic xs) {n:Nat} (hn:xs.length=n) (hm:Mor w w') :
    LV w xs 0 (.returned (.tuple #[.slice (some ⟨g,0,none⟩) n n,.int .i64 0])) w':=by
  subst hc hn
  exact ⟨_,_,rfl,Nat.le_refl _,Ri.of_row hb.row,hm⟩
theorem of_v (y m d:Int):∃ v c,I64 v∧CB c∧∀ w,Tab w→Calls Tryz.prog 37 #[.agg #[.int .i64 y,.int .i64 m,.int .i64 d]] w (NV w v c):=by
  by_cases h:okD y m d
  · obtain ⟨h1,h2,h3,h4,h5,h6⟩:=h
    have a:=fst_bd (y:=y) h1 (by omega) h3 h4
    have b:=mlen_bd (y:=y) h3 h4
    exact ⟨fst y m+d - 1,0,by unfold I64;omega,by unfold CB;omega,fun w ht=>ofday_yes y m d w ⟨h1,h2,h3,h4,h5,h6⟩ ht⟩
  · exact ⟨0,1,by unfold I64;omega,by unfold CB;omega,fun w ht=>ofday_no y m d w h ht⟩
set_option maxHeartbeats 800000 in
theorem add_no1 (n m:Int) (w:World) (h:¬ (0≤n∧n≤292193)):Calls Tryz.prog 39 #[.int .i64 n,.int .i64 m] w (NV w 0 1):=by
  have HI:=Lib.hid (fun w=>is_any n w)
  rw [decide_eq_false h] at HI
  go_enter Tryz.func39,Tryz.ntmps39
  go_wp2_with (first | (go_at_call 93;(with_reducible refine (HI.out _).mono ?_);rintro e w1 ⟨rfl,rfl⟩))
  go_returns
  exact ⟨rfl,(by repeat (first | exact Mor.refl _ | apply Mor.alloc | apply Mor.more | apply Mor.drewN | apply Mor.drew))⟩
set_option maxHeartbeats 800000 in
theorem add_no2 (n m:Int) (w:World) (h0:0≤n) (h9:n≤292193) (h:m < -9600∨9600 < m):Calls Tryz.prog 39 #[.int .i64 n,.int .i64 m] w (NV w 0 1):=by
  have HI:=Lib.hid (fun w=>is_any n w)
  rw [decide_eq_true ⟨h0,h9⟩] at HI
  have h':m < -9600∨(-9600≤m∧9600 < m):=by omega
  rcases h' with h | ⟨h,h'⟩
  all_goals
    go_enter Tryz.func39,Tryz.ntmps39
    go_wp2_with (first | (go_at_call 93;(with_reducible refine (HI.out _).mono ?_);rintro e w1 ⟨rfl,rfl⟩))
    go_returns
    exact ⟨rfl,(by repeat (first | exact Mor.refl _ | apply Mor.alloc | apply Mor.more | apply Mor.drewN | apply Mor.drew))⟩
theorem add_v (n m:Int):∃ v c,I64 v∧CB c∧∀ w,Tab w→Calls Tryz.prog 39 #[.int .i64 n,.int .i64 m] w (NV w v c):=by
  by_cases h:0≤n∧n≤292193
  · by_cases hm:m < -9600∨9600 < m
    · exact ⟨0,1,by unfold I64;omega,by unfold CB;omega,fun w ht=>add_no2 n m w h.1 h.2 hm⟩
    · by_cases hk:dk n+m < 0∨9600≤dk n+m
      · exact ⟨0,2,by unfold I64;omega,by unfold CB;omega,fun w ht=>add_far n m w h.1 h.2 (by omega) (by omega) hk ht⟩
      · have a:=lk_bd (dk n+m)
        have b:=fst_bd (y:=1600+(dk n+m) / 12) (m:=1+(dk n+m) % 12) (by omega) (by omega) (by omega) (by omega)
        have d:=(ymd h.1 h.2).1.2.2.2.2.1
        refine ⟨ad n m,0,?_,by unfold CB;omega,fun w ht=>add_yes n m w h.1 h.2 (by omega) (by omega) (by omega) (by omega) ht⟩
        unfold I64 ad fk
        split <;> omega
  · exact ⟨0,1,by unfold I64;omega,by unfold CB;omega,fun w ht=>add_no1 n m w h⟩
set_option maxHeartbeats 800000 in
theorem date_no (n:Int) (w:World) (h:¬ (0≤n∧n≤292193)):Calls Tryz.prog 60 #[.int .i64 n] w fun e w'=>e=.returned (.tuple #[.agg #[.int .i64 0,.int .i64 0,.int .i64 0],.int .i64 1])∧Mor w w':=by
  have HI:=Lib.hid (fun w=>is_any n w)
  rw [decide_eq_false h] at HI
  go_enter Tryz.func60,Tryz.ntmps60
  go_wp2_with (first | (go_at_call 93;(with_reducible refine (HI.out _).mono ?_);rintro e w1 ⟨rfl,rfl⟩))
  go_returns
  exact ⟨rfl,(by repeat (first | exact Mor.refl _ | apply Mor.alloc | apply Mor.more | apply Mor.drewN | apply Mor.drew))⟩
theorem date_v (n:Int):∃ y m d c,I64 y∧I64 m∧I64 d∧CB c∧∀ w,Tab w→Calls Tryz.prog 60 #[.int .i64 n] w fun e w'=>e=.returned (.tuple #[.agg #[.int .i64 y,.int .i64 m,.int .i64 d],.int .i64 c])∧Mor w w':=by
  by_cases h:0≤n∧n≤292193
  · obtain ⟨⟨y1,y2,m1,m2,d1,d2⟩,-,-⟩:=ymd h.1 h.2
    have b:=mlen_bd (y:=yr n) m1 m2
    exact ⟨yr n,mo n,dm n,0,by unfold I64;omega,by unfold I64;omega,by unfold I64;omega,by unfold CB;omega,fun w ht=>date_yes n w h.1 h.2 ht⟩
  · exact ⟨0,0,0,1,by unfold I64;omega,by unfold I64;omega,by unfold I64;omega,by unfold CB;omega,fun w ht=>date_no n w h⟩
def shareP (a rate way:Int):Prop:=-1000000000000≤a∧a≤1000000000000∧0≤rate∧rate≤1000000∧0≤way∧way≤3
set_option maxHeartbeats 800000 in
theorem mlook_noS (a rate way:Int) (w:World) (h:¬ shareP a rate way) :
    Calls Tryz.prog 101 #[.int .i64 a,.int .i64 rate,.int .i64 way] w fun e w'=>e=.returned (.int .i64 1)∧w=w':=by
  have H:=Lib.hid h
  clear h
  go_enter Tryz.func101,Tryz.ntmps101
  go_wp2
  all_goals go_ret
  all_goals first | exact ⟨rfl,rfl⟩ | (have h:=H.out;exfalso;unfold shareP at h;omega)
set_option maxHeartbeats 800000 in
theorem share_noS (a rate way:Int) (w:World) (h:¬ shareP a rate way) :
    Calls Tryz.prog 46 #[.int .i64 a,.int .i64 rate,.int .i64 way] w (NV w 0 1):=by
  have H:=Lib.hid h
  clear h
  go_enter Tryz.func46,Tryz.ntmps46
  go_wp2_with (first | (go_at_call 101;refine (mlook_noS _ _ _ _ H.out).mono ?_;rintro e w' ⟨rfl,rfl⟩))
  go_ret2
  exact ⟨rfl,by repeat (first | exact Mor.refl _ | apply Mor.alloc | apply Mor.more | apply Mor.drewN | apply Mor.drew)⟩
theorem share_v (a r y:Int):∃ v c,I64 v∧CB c∧∀ w,Calls Tryz.prog 46 #[.int .i64 a,.int .i64 r,.int .i64 y] w (NV w v c):=by
  by_cases h:shareP a r y
  · obtain ⟨h1,h2,h3,h4,h5,h6⟩:=h
    obtain ⟨b1,b2⟩:=prod_bd a r 1000000000000 1000000 h1 h2 h3 h4 (by omega)
    refine ⟨rnd (a*r) 1000000 y,0,⟨?_,?_⟩,by unfold CB;omega,fun w=>(share_ok a r y w h1 h2 h3 h4 h5 h6).mono fun e w' hh=>?_⟩
    · exact le_rnd _ _ _ _ (by omega) (by omega)
    · exact rnd_le _ _ _ _ (by omega) (by omega)
    · obtain ⟨rfl,k,rfl⟩:=hh
      exact ⟨rfl,(Mor.refl _).drewN⟩
  · exact ⟨0,1,by unfold I64;omega,by unfold CB;omega,fun w=>share_noS a r y w h⟩
theorem least_v (o r n:Int):∃ v c,I64 v∧CB c∧∀ w,Calls Tryz.prog 54 #[.int .i64 o,.int .i64 r,.int .i64 n] w (NV w v c):=by
  by_cases h:loanP o r∧1≤n∧n≤40
  · obtain ⟨hl,h1,h2⟩:=h
    obtain ⟨m,rfl⟩:∃ m:Nat,n=m:=⟨n.toNat,by omega⟩
    by_cases hx:∃ p,leastP o r m p
    · obtain ⟨p,hp⟩:=hx
      refine ⟨p,0,by unfold I64;have:=hp.1;have:=hp.2.1;omega,by unfold CB;omega,fun w=>(Least_ok o r m w hl (by omega) (by omega)).mono fun e w' hh=>?_⟩
      obtain ⟨q,rfl,hm,hq⟩:=hh
      have a:=least_le o o r r p q m m hl.1 (Int.le_refl _) hl.2.2.1 (Int.le_refl _) (Nat.le_refl _) hp hq
      have b:=least_le o o r r q p m m hl.1 (Int.le_refl _) hl.2.2.1 (Int.le_refl _) (Nat.le_refl _) hq hp
      obtain rfl:p=q:=by omega
      exact ⟨rfl,hm⟩
    · refine ⟨0,0,by unfold I64;omega,by unfold CB;omega,fun w=>(Least_ok o r m w hl (by omega) (by omega)).mono fun e w' hh=>?_⟩
      obtain ⟨q,rfl,hm,hq⟩:=hh
      exact absurd ⟨q,hq⟩ hx
  · exact ⟨0,1,by unfold I64;omega,by unfold CB;omega,fun w=>Least_no o r n w h⟩
theorem straight_v (x y n:Int):∃ l c,LB l∧CB c∧∀ w,Calls Tryz.prog 48 #[.int .i64 x,.int .i64 y,.int .i64 n] w (LV w l c):=by
  by_cases h:lineP x y n
  · obtain ⟨h1,h2,h3,h4,h5,h6⟩:=h
    obtain ⟨m,rfl⟩:∃ m:Nat,n=m:=⟨n.toNat,by omega⟩
    refine ⟨(List.range m).map (stP (x - y) m),0,⟨by simp;omega,fun v hv=>?_⟩,by unfold CB;omega,fun w=>(straight_b2 x y m w h1 h2 h3 h4 (by omega) (by omega)).mono fun e w' hh=>?_⟩
    · obtain ⟨k,hk,rfl⟩:=List.mem_map.1 hv
      rw [List.mem_range] at hk
      have a:=stB_bd (x - y) m ((k:Int)+1) (by omega) (by omega) h5 (by omega) (by omega)
      have b:=stB_bd (x - y) m k (by omega) (by omega) h5 (by omega) (by omega)
      unfold I64 stP
      omega
    · obtain ⟨b,rfl,hb,hx,hm⟩:=hh
      exact lv_cells hx (fc_ic _ _) (by simp) hm
  · refine ⟨[],1,LB.nil,by unfold CB;omega,fun w=>(straight_no x y n w h).mono fun e w' hh=>?_⟩
    obtain ⟨rfl,hm⟩:=hh
    exact lv_nil _ hm
theorem digits_v (x y n:Int):∃ l c,LB l∧CB c∧∀ w,Calls Tryz.prog 50 #[.int .i64 x,.int .i64 y,.int .i64 n] w (LV w l c):=by
  by_cases h:lineP x y n
  · obtain ⟨h1,h2,h3,h4,h5,h6⟩:=h
    obtain ⟨m,rfl⟩:∃ m:Nat,n=m:=⟨n.toNat,by omega⟩
    refine ⟨(List.range m).map (dgP (x - y) m),0,⟨by simp;omega,fun v hv=>?_⟩,by unfold CB;omega,fun w=>(digits_b2 x y m w h1 h2 h3 h4 (by omega) (by omega)).mono fun e w' hh=>?_⟩
    · obtain ⟨k,hk,rfl⟩:=List.mem_map.1 hv
      rw [List.mem_range] at hk
      have a:=dgB_bd (x - y) m ((k:Int)+1) (by omega) (by omega) h5 h6 (by omega) (by omega)
      have b:=dgB_bd (x - y) m k (by omega) (by omega) h5 h6 (by omega) (by omega)
      unfold I64 dgP
      omega
    · obtain ⟨b,rfl,hb,hx,hm⟩:=hh
      exact lv_cells hx (fc_ic _ _) (by simp) hm
  · refine ⟨[],1,LB.nil,by unfold CB;omega,fun w=>(digits_no x y n w h).mono fun e w' hh=>?_⟩
    obtain ⟨rfl,hm⟩:=hh
    exact lv_nil _ hm
theorem falling_v (x y r n:Int):∃ l c,LB l∧CB c∧∀ w,Calls Tryz.prog 52 #[.int .i64 x,.int .i64 y,.int .i64 r,.int .i64 n] w (LV w l c):=by
  by_cases h:lookF x y n∧0≤r∧r≤1000000
  · obtain ⟨⟨h1,h2,h3,h4,h5,h6⟩,h7,h8⟩:=h
    obtain ⟨m,rfl⟩:∃ m:Nat,n=m:=⟨n.toNat,by omega⟩
    refine ⟨flist x y r m m,0,⟨by rw [flist_len];omega,fun v hv=>?_⟩,by unfold CB;omega,fun w=>(falling_ok2 x y r m w h1 h2 h3 h4 h7 h8 (by omega) (by omega)).mono fun e w' hh=>?_⟩
    · unfold flist at hv
      obtain ⟨k,hk,rfl⟩:=List.mem_map.1 hv
      rw [List.mem_range] at hk
      have a:=fleft_bd x y r m h4 h3 h7 k (by omega)
      have b:=fleft_bd x y r m h4 h3 h7 (k+1) (by omega)
      rw [fleft_succ] at b
      unfold I64
      omega
    · obtain ⟨v,rfl,hv,hb⟩:=hh
      obtain ⟨A',c',rfl,hkc,_,_⟩:=own_shape hv
      have e:=flist_len x y r m m
      refine ⟨A',c',by rw [e],by rw [e];exact hkc,own_ri hv,Mor.of_below hb⟩
  · refine ⟨[],1,LB.nil,by unfold CB;omega,fun w=>(falling_no x y r n w h).mono fun e w' hh=>?_⟩
    obtain ⟨rfl,rfl⟩:=hh
    exact lv_nil _ (Mor.refl _)
theorem byc_cb (a:Int) (l:List Int):CB (byc a l):=by
  unfold CB byc swc
  split <;> (try split) <;> (try split) <;> (try split) <;> omega
theorem by_v (a:Int) (l:List Int):∃ o c,LB o∧CB c∧∀ w A n cap,Ri w A l→l.length=n→n≤maxLen→Calls Tryz.prog 44 #[.int .i64 a,.slice A n cap] w (LV w o c):=by
  by_cases hc:byc a l=0
  · have h40:l.length≤40:=(swc_zero (byc_zero hc).1).1
    refine ⟨byl a l,0,⟨by rw [byl_len'];omega,fun x hx=>?_⟩,by unfold CB;omega,fun w A n cap hr hn hl=>(by_any2 a A n cap l w hr hn hc).mono fun e w' hh=>?_⟩
    · have:=(byk hc).all x hx
      unfold I64
      omega
    · obtain ⟨g,rfl,hm,hg,hb⟩:=hh
      exact lv_cells hb rfl (byl_len' a l) hm
  · refine ⟨[],byc a l,LB.nil,byc_cb a l,fun w A n cap hr hn hl=>(by_no a A n cap l w hr hn hl hc).mono fun e w' hh=>?_⟩
    obtain ⟨rfl,hm⟩:=hh
    exact lv_nil _ hm
theorem dcode_cb (y n:Int) (l:List Int):CB (dcode y n l):=by
  unfold CB dcode lcode
  split <;> (try split) <;> (try split) <;> (try split) <;> (try split) <;> omega
theorem deal_v (y n:Int) (l:List Int):∃ o c,LB o∧CB c∧∀ w A m cap,Ri w A l→l.length=m→Calls Tryz.prog 42 #[.int .i64 y,.int .i64 n,.slice A m cap] w (LV w o c):=by
  by_cases hc:dcode y n l=0
  · obtain ⟨a1,a2,a3⟩:=dcode_zero hc
    obtain ⟨c1,c2,c3,c4,c5⟩:=lcode_zero a3
    obtain ⟨k,rfl⟩:∃ k:Nat,n=k:=⟨n.toNat,by omega⟩
    by_cases hx:∃ xs,DealInv y l xs k
    · obtain ⟨xs,hi⟩:=hx
      refine ⟨xs,0,⟨by rw [hi.1];omega,fun v hv=>?_⟩,by unfold CB;omega,fun w A m cap hr hm=>(deal_ok2 y k A m cap l w a1 a2 hr hm a3).mono fun e w' hh=>?_⟩
      · obtain ⟨i,hi2,rfl⟩:=List.getElem_of_mem hv
        have:=hi.bd i (by rw [← hi.1];exact hi2)
        rw [List.getD_eq_getElem?_getD,List.getElem?_eq_getElem hi2] at this
        unfold I64
        simp at this
        omega
      · obtain ⟨ys,rfl,hb,hi',hx⟩:=hh
        obtain rfl:=deal_known c2 hi hi'
        exact lv_cells hx rfl hi.1 (Mor.of_below hb)
    · refine ⟨[],0,LB.nil,by unfold CB;omega,fun w A m cap hr hm=>(deal_ok2 y k A m cap l w a1 a2 hr hm a3).mono fun e w' hh=>?_⟩
      obtain ⟨ys,rfl,hb,hi',_⟩:=hh
      exact absurd ⟨ys,hi'⟩ hx
  · refine ⟨[],dcode y n l,LB.nil,dcode_cb y n l,fun w A m cap hr hm=>(deal_no y n A m cap l w hr hm hc).mono fun e w' hh=>?_⟩
    obtain ⟨rfl,rfl⟩:=hh
    exact lv_nil _ (Mor.refl _)
def FV (w:World) (v d c:Int) (e:Ending) (w':World):Prop:=e=.returned (.tuple #[.agg #[.int .i64 v,.int .i64 d],.int .i64 c])∧Mor w w'
set_option maxHeartbeats 1600000 in
theorem between_no (way a b:Int) (w:World) (h:¬ (0≤way∧way≤2∧0≤a∧b≤292193∧a≤b)) :
    Calls Tryz.prog 56 #[.int .i64 way,.int .i64 a,.int .i64 b] w (FV w 0 0 1):=by
  have hc:way < 0∨(0≤way∧2 < way)∨(0≤way∧way≤2∧¬ (0≤a∧a≤292193))∨(0≤way∧way≤2∧(0≤a∧a≤292193)∧¬ (0≤b∧b≤292193))∨(0≤way∧way≤2∧(0≤a∧a≤292193)∧(0≤b∧b≤292193)∧b < a):=by omega
  clear h
  have HI:=Lib.hid (fun w=>is_any a w)
  have HJ:=Lib.hid (fun w=>is_any b w)
  rcases hc with h | ⟨h,h'⟩ | ⟨h,h',h1⟩ | ⟨h,h',h1,h2⟩ | ⟨h,h',h1,h2,h3⟩
  · go_enter Tryz.func56,Tryz.ntmps56
    go_wp2_with fail
    go_returns
    exact ⟨rfl,by repeat (first | exact Mor.refl _ | apply Mor.alloc | apply Mor.more | apply Mor.drewN | apply Mor.drew)⟩
  · go_enter Tryz.func56,Tryz.ntmps56
    go_wp2_with fail
    go_returns
    exact ⟨rfl,by repeat (first | exact Mor.refl _ | apply Mor.alloc | apply Mor.more | apply Mor.drewN | apply Mor.drew)⟩
  · rw [decide_eq_false h1] at HI
    clear h1
    go_enter Tryz.func56,Tryz.ntmps56
    go_wp2_with (first | (go_at_call 93;(with_reducible refine (HI.out _).mono ?_);rintro e w1 ⟨rfl,rfl⟩) | (go_at_call 93;(with_reducible refine (HJ.out _).mono ?_);rintro e w1 ⟨rfl,rfl⟩))
    go_returns
    exact ⟨rfl,by repeat (first | exact Mor.refl _ | apply Mor.alloc | apply Mor.more | apply Mor.drewN | apply Mor.drew)⟩
  · rw [decide_eq_true h1] at HI
    rw [decide_eq_false h2] at HJ
    clear h1 h2
    go_enter Tryz.func56,Tryz.ntmps56
    go_wp2_with (first | (go_at_call 93;(with_reducible refine (HI.out _).mono ?_);rintro e w1 ⟨rfl,rfl⟩) | (go_at_call 93;(with_reducible refine (HJ.out _).mono ?_);rintro e w1 ⟨rfl,rfl⟩))
    go_returns
    exact ⟨rfl,by repeat (first | exact Mor.refl _ | apply Mor.alloc | apply Mor.more | apply Mor.drewN | apply Mor.drew)⟩
  · rw [decide_eq_true h1] at HI
    rw [decide_eq_true h2] at HJ
    clear h1 h2
    go_enter Tryz.func56,Tryz.ntmps56
    go_wp2_with (first | (go_at_call 93;(with_reducible refine (HI.out _).mono ?_);rintro e w1 ⟨rfl,rfl⟩) | (go_at_call 93;(with_reducible refine (HJ.out _).mono ?_);rintro e w1 ⟨rfl,rfl⟩))
    go_returns
    exact ⟨rfl,by repeat (first | exact Mor.refl _ | apply Mor.alloc | apply Mor.more | apply Mor.drewN | apply Mor.drew)⟩
theorem between_v (y a b:Int):∃ v d c,I64 v∧I64 d∧CB c∧∀ w,Tab w→Calls Tryz.prog 56 #[.int .i64 y,.int .i64 a,.int .i64 b] w (FV w v d c):=by
  by_cases h:0≤y∧y≤2∧0≤a∧b≤292193∧a≤b
  · obtain ⟨h1,h2,h3,h4,h5⟩:=h
    have e:=eu_bd h3 h4 h5
    refine ⟨cnt y a b,den y,0,?_,?_,by unfold CB;omega,fun w ht=>between_yes y a b w h1 h2 h3 h4 h5 ht⟩
    · unfold I64 cnt;split <;> omega
    · unfold I64 den;split <;> omega
  · exact ⟨0,0,1,by unfold I64;omega,by unfold I64;omega,by unfold CB;omega,fun w ht=>between_no y a b w h⟩
theorem rows_v (o r p:Int):∃ T c,T≤40∧CB c∧(∀ k,k < T→I64 (nint (nl o r p k) r)∧I64 (noff (nl o r p k) r p))∧∀ w,Calls Tryz.prog 62 #[.int .i64 o,.int .i64 r,.int .i64 p] w (RowsOwn w o r p T c):=by
  by_cases h:rowsP o r p∧okp o r 40 p
  · by_cases hT:∃ T,NT o r p T∧T≤40
    · obtain ⟨T,hT,h40⟩:=hT
      obtain ⟨hl,hp1,hp2⟩:=h.1
      have hle:=okp_le o r p 40 hl.1 hl.2.2.1 hl.2.2.2 (by omega) h.2
      refine ⟨T,0,h40,by unfold CB;omega,fun k hk=>?_,fun w=>(Rows_good2 o r p w h.1 h.2).mono ?_⟩
      · have a:=nl_nonneg o r p hl.1 k
        have b:=hle k
        have d:=nint_bd (nl o r p k) r a hl.2.2.1 hl.2.2.2
        have f:=hl.2.1
        unfold I64 noff
        omega
      · rintro e w' ⟨T',hT',_,hr⟩
        have e1:=NT.le hT hT' (fun k=>Int.le_refl _)
        have e2:=NT.le hT' hT (fun k=>Int.le_refl _)
        obtain rfl:T'=T:=by omega
        exact hr
    · refine ⟨0,0,by omega,by unfold CB;omega,fun k hk=>absurd hk (Nat.not_lt_zero _),fun w=>(Rows_good2 o r p w h.1 h.2).mono ?_⟩
      rintro e w' ⟨T',hT',h40,hr⟩
      exact absurd ⟨T',hT',h40⟩ hT
  · refine ⟨0,rcode o r p,by omega,by unfold CB rcode;split <;> (try split) <;> omega,fun k hk=>absurd hk (Nat.not_lt_zero _),fun w=>(Rows_bad o r p w h).mono ?_⟩
    rintro e w' ⟨bs,k,rfl,rfl⟩
    exact ⟨_,rfl,World.ownsRow_nil _ _ _ _,(Mor.refl w).more⟩
def RecPost (w:World) (r:Int × List Int) (e:Ending) (w':World):Prop :=
  ((r.1=0∧e=.returned (.string (tolB r.2)))∨(r.1≠0∧e=bang r.1))∧Mor w w'
def RB (r:Int × List Int):Prop:=CB r.1∧LB r.2
theorem mor_new (w:World) (o:Obj):Mor w (w.alloc o):=(Mor.refl w).alloc
set_option maxHeartbeats 1600000 in
theorem kone_any (v c:Int) (w:World) (hv:I64 v) (ht:Tb w) :
    Calls Tryz.prog 36 #[.int .i64 v,.int .i64 c] w (RecPost w (c,[v])):=by
  by_cases hc:c=0
  · subst hc
    have HM:=Lib.hid (fun w=>must_ok w)
    have HT:=Lib.hid (fun w' (h:Ri w' (some ⟨w.heap.size,0,none⟩) [v]) (hm:Mor w w')=>told_any (some ⟨w.heap.size,0,none⟩) 1 1 [v] w' h rfl (by omega) (by omega) (by intro x hx;simp at hx;subst hx;exact hv) (ht.mor hm))
    have HR:=Lib.hid (show Ri (w.alloc (.cells #[.int .i64 v] 3)) (some ⟨w.heap.size,0,none⟩) [v] from Ri.of_row ((Blk.new w 3 (ic [v])).row))
    clear hv ht
    go_enter Tryz.func36,Tryz.ntmps36
    go_wp2_with (first | (go_at_call 57;(with_reducible refine (HM.out _).mono ?_);rintro e w1 ⟨rfl,rfl⟩))
    refine (HT.out _ HR.out (mor_new _ _)).mono ?_
    rintro e w1 ⟨rfl,hm⟩
    go_wp2_with fail
    go_returns
    exact ⟨.inl ⟨rfl,rfl⟩,(mor_new _ _).trans' hm⟩
  · have HM:=Lib.hid (fun w=>must_no c w hc)
    have HC:=Lib.hid hc
    clear hc hv ht
    go_enter Tryz.func36,Tryz.ntmps36
    go_wp2_with (first | (go_at_call 57;(with_reducible refine (HM.out _).mono ?_);rintro e w1 ⟨he,rfl⟩;rw [bang] at he;subst he))
    exact ⟨rfl,.inr ⟨HC.out,rfl⟩,Mor.refl _⟩
set_option maxHeartbeats 1600000 in
theorem many_any (A:Option Addr) (n k:Nat) (l:List Int) (c:Int) (w:World) (hr:Ri w A l) (hn:l.length=n) (hk:n≤k) (hl:LB l) (ht:Tb w) :
    Calls Tryz.prog 41 #[.slice A n k,.int .i64 c] w (RecPost w (c,l)):=by
  have hn100:n≤100:=by have:=hl.1;omega
  by_cases hc:c=0
  · subst hc
    have HM:=Lib.hid (fun w=>must_ok w)
    have HT:=Lib.hid (told_any A n k l w hr hn (by omega) hk hl.2 ht)
    clear hr hn hl ht
    go_enter Tryz.func41,Tryz.ntmps41
    go_wp2_with (first | (go_at_call 57;(with_reducible refine (HM.out _).mono ?_);rintro e w1 ⟨rfl,rfl⟩))
    refine HT.out.mono ?_
    rintro e w1 ⟨rfl,hm⟩
    go_wp2_with fail
    go_returns
    exact ⟨.inl ⟨rfl,rfl⟩,hm⟩
  · have HM:=Lib.hid (fun w=>must_no c w hc)
    have HC:=Lib.hid hc
    clear hc hr hn hl ht
    go_enter Tryz.func41,Tryz.ntmps41
    go_wp2_with (first | (go_at_call 57;(with_reducible refine (HM.out _).mono ?_);rintro e w1 ⟨he,rfl⟩;rw [bang] at he;subst he))
    exact ⟨rfl,.inr ⟨HC.out,rfl⟩,Mor.refl _⟩
structure Arg (w:World) (g n:Nat) (B:Option Addr) (m k:Nat) (a l:List Int):Prop where
  cell:∀ i,i < a.length→w.cell? ⟨g,i,none⟩=some (.int .i64 (a.getD i 0))
  lt:g < w.heap.size
  len:a.length=n
  ri:Ri w B l
  ll:l.length=m
  lk:m≤k
  lm:m≤200000
  tb:Tb w
  tab:Tab w
def RecOk (K ar:Nat):Prop:=∀ a l:List Int,a.length=ar→∃ r,RB r∧∀ w g n c B m k,Arg w g n B m k a l→n≤c→Calls Tryz.prog K #[.slice (some ⟨g,0,none⟩) n c,.slice B m k] w (RecPost w r)
theorem RecPost.ok {w w':World} {r:Int × List Int} {e:Ending} (h:RecPost w r e w') (h0:r.1=0):e=.returned (.string (tolB r.2))∧Mor w w':=by
  rcases h.1 with ⟨_,e⟩ | ⟨hn,_⟩
  · exact ⟨e,h.2⟩
  · exact absurd h0 hn
theorem RecPost.no {w w':World} {r:Int × List Int} {e:Ending} (h:RecPost w r e w') (h0:r.1≠0):e=bang r.1∧Mor w w':=by
  rcases h.1 with ⟨hn,_⟩ | ⟨_,e⟩
  · exact absurd hn h0
  · exact ⟨e,h.2⟩
theorem len1 {a:List Int} (h:a.length=1):∃ x,a=[x]:=by match a,h with | [x],_=>exact ⟨x,rfl⟩
theorem len2 {a:List Int} (h:a.length=2):∃ x y,a=[x,y]:=by match a,h with | [x,y],_=>exact ⟨x,y,rfl⟩
theorem len3 {a:List Int} (h:a.length=3):∃ x y z,a=[x,y,z]:=by match a,h with | [x,y,z],_=>exact ⟨x,y,z,rfl⟩
theorem len4 {a:List Int} (h:a.length=4):∃ x y z u,a=[x,y,z,u]:=by match a,h with | [x,y,z,u],_=>exact ⟨x,y,z,u,rfl⟩
end Go.Proofs.YtdhbkifpodekcaaGreatDoor
