/- Texts of this claim. -/
import Derived.Test.YtdhbkifpodekcaaGreatDoorDeskZ24
import Derived.Deep.RegionWith
namespace Go.Proofs.YtdhbkifpodekcaaGreatDoor
open Go.ChangeShapes Go.WideShapes Go.ChangeAt Go.RowKit
set_option linter.unusedVariables false
set_option maxRecDepth 100000
def okD (y m d:Int):Prop:=1600≤y∧y≤2399∧1≤m∧m≤12∧1≤d∧d≤mlen y m
theorem length_int (y m:Int) (w:World) (h1:1600≤y) (h2:y≤2401) (m1:1≤m) (m2:m≤12) (ht:Tab w) :
    Calls Tryz.prog 91 #[.int .i64 y,.int .i64 m] w fun e w'=>e=.returned (.int .i64 (mlen y m))∧w=w':=by
  obtain ⟨k,rfl⟩:=Int.eq_ofNat_of_zero_le (show 0≤m by omega)
  exact length_any y k w h1 h2 (by omega) (by omega) ht
theorem ymd {n:Int} (h0:0≤n) (h9:n≤292193):okD (yr n) (mo n) (dm n)∧12*(yr n - 1600)+mo n - 1=dk n∧n=fst (yr n) (mo n)+dm n - 1:=by
  have h:=isD_of h0 h9
  have:=h.k0;have:=h.k1
  refine ⟨⟨by unfold yr;omega,by unfold yr;omega,by unfold mo;omega,by unfold mo;omega,h.d0,h.d1⟩,by unfold yr mo;omega,h.eq⟩
theorem dec_is {n:Int} (h0:0≤n) (h9:n≤292193):decide (0≤n∧n≤292193)=true:=by simp [h0,h9]
set_option maxHeartbeats 800000 in
theorem date_yes (n:Int) (w:World) (h0:0≤n) (h9:n≤292193) (ht:Tab w) :
    Calls Tryz.prog 60 #[.int .i64 n] w fun e w'=>e=.returned (.tuple #[.agg #[.int .i64 (yr n),.int .i64 (mo n),.int .i64 (dm n)],.int .i64 0])∧Mor w w':=by
  have HT:=Lib.hid ht
  clear ht
  have HI:=Lib.hid (fun w=>is_any n w)
  rw [dec_is h0 h9] at HI
  have HP:=Lib.hid (fun w h=>calpl_any n w h0 h9 h)
  generalize yr n=Y at *
  generalize mo n=M at *
  generalize dm n=D at *
  go_enter Tryz.func60,Tryz.ntmps60
  go_wp2_with (first | (go_at_call 93;(with_reducible refine (HI.out _).mono ?_);rintro e w1 ⟨rfl,rfl⟩) | (go_at_call 94;(with_reducible refine (HP.out _ (by repeat (first | exact HT.out | apply Tab.alloc | apply Tab.more | apply Tab.drewN | apply Tab.drew | (refine Tab.set ?_ (by omega))))).mono ?_);rintro e w1 ⟨rfl,bs,k,rfl⟩))
  go_returns
  exact ⟨rfl,(by repeat (first | exact Mor.refl _ | apply Mor.alloc | apply Mor.more | apply Mor.drewN | apply Mor.drew))⟩
noncomputable def la (n:Int):Int:=fk (dk n)+lk (dk n) - 1
noncomputable def ad (n m:Int):Int:=fk (dk n+m)+(if lk (dk n+m) < dm n then lk (dk n+m) else dm n) - 1
set_option maxHeartbeats 3200000 in
theorem add_yes (n m:Int) (w:World) (h0:0≤n) (h9:n≤292193) (m0:-9600≤m) (m9:m≤9600) (k0:0≤dk n+m) (k9:dk n+m < 9600) (ht:Tab w) :
    Calls Tryz.prog 39 #[.int .i64 n,.int .i64 m] w fun e w'=>e=.returned (.tuple #[.int .i64 (ad n m),.int .i64 0])∧Mor w w':=by
  have HT:=Lib.hid ht
  clear ht
  have HI:=Lib.hid (fun w=>is_any n w)
  rw [dec_is h0 h9] at HI
  have HP:=Lib.hid (fun w h=>calpl_any n w h0 h9 h)
  obtain ⟨⟨y1,y2,m1,m2,d1,d2⟩,hk,-⟩:=ymd h0 h9
  have ⟨l3,l4⟩:=mlen_bd (y:=yr n) m1 m2
  obtain ⟨K,hK⟩:∃ K,dk n+m=K:=⟨_,rfl⟩
  rw [hK] at k0 k9
  have ⟨l1,l2⟩:=lk_bd K
  have HL:=Lib.hid (fun w h=>length_int (1600+K / 12) (1+K % 12) w (by omega) (by omega) (by omega) (by omega) h)
  rw [show mlen (1600+K / 12) (1+K % 12)=lk K from rfl] at HL
  have HO:=Lib.hid (fun D w (d1:0≤D) (d2:D≤400) h=>calof_any (1600+K / 12) (1+K % 12) D w (by omega) (by omega) (by omega) (by omega) d1 d2 h)
  rw [show fst (1600+K / 12) (1+K % 12)=fk K from rfl] at HO
  have HE:=Lib.hid (show ad n m=fk K+(if lk K < dm n then lk K else dm n) - 1 by unfold ad;rw [hK])
  have hk2:12*(yr n - 1600)+mo n - 1+m=K:=by omega
  have d3:dm n≤31:=by omega
  clear d2 hk hK l3 l4
  generalize lk K=L at *
  generalize fk K=F at *
  generalize yr n=Y at *
  generalize mo n=M at *
  generalize dm n=D at *
  generalize ad n m=AD at *
  have HK:=Lib.hid hk2
  by_cases hc:L < D
  · have HOl:=Lib.hid (fun w h=>HO.out L w (by omega) (by omega) h)
    have HR:=Lib.hid (show AD=F+L - 1 by rw [HE.out,if_pos hc])
    clear HO HE
    go_enter Tryz.func39,Tryz.ntmps39
    go_wp2_with (first | (go_at_call 93;(with_reducible refine (HI.out _).mono ?_);rintro e w1 ⟨rfl,rfl⟩) | (go_at_call 94;(with_reducible refine (HP.out _ (by repeat (first | exact HT.out | apply Tab.alloc | apply Tab.more | apply Tab.drewN | apply Tab.drew | (refine Tab.set ?_ (by omega))))).mono ?_);rintro e w1 ⟨rfl,bs,k,rfl⟩))
    go_region_with ((go_at_call 91;(with_reducible refine (HL.out _ (by repeat (first | exact HT.out | apply Tab.alloc | apply Tab.more | apply Tab.drewN | apply Tab.drew | (refine Tab.set ?_ (by omega))))).mono ?_);rintro e w1 ⟨rfl,rfl⟩))
    all_goals (go_wp2_with (go_at_call 92;(with_reducible refine (HOl.out _ (by repeat (first | exact HT.out | apply Tab.alloc | apply Tab.more | apply Tab.drewN | apply Tab.drew | (refine Tab.set ?_ (by omega))))).mono ?_);rintro e w1 ⟨rfl,bs,k,rfl⟩))
    all_goals go_returns
    all_goals exact ⟨by rw [HR.out];rfl,(by repeat (first | exact Mor.refl _ | apply Mor.alloc | apply Mor.more | apply Mor.drewN | apply Mor.drew))⟩
  · have HOl:=Lib.hid (fun w h=>HO.out D w (by omega) (by omega) h)
    have HR:=Lib.hid (show AD=F+D - 1 by rw [HE.out,if_neg hc])
    clear HO HE
    go_enter Tryz.func39,Tryz.ntmps39
    go_wp2_with (first | (go_at_call 93;(with_reducible refine (HI.out _).mono ?_);rintro e w1 ⟨rfl,rfl⟩) | (go_at_call 94;(with_reducible refine (HP.out _ (by repeat (first | exact HT.out | apply Tab.alloc | apply Tab.more | apply Tab.drewN | apply Tab.drew | (refine Tab.set ?_ (by omega))))).mono ?_);rintro e w1 ⟨rfl,bs,k,rfl⟩))
    go_region_with ((go_at_call 91;(with_reducible refine (HL.out _ (by repeat (first | exact HT.out | apply Tab.alloc | apply Tab.more | apply Tab.drewN | apply Tab.drew | (refine Tab.set ?_ (by omega))))).mono ?_);rintro e w1 ⟨rfl,rfl⟩))
    all_goals (go_wp2_with (go_at_call 92;(with_reducible refine (HOl.out _ (by repeat (first | exact HT.out | apply Tab.alloc | apply Tab.more | apply Tab.drewN | apply Tab.drew | (refine Tab.set ?_ (by omega))))).mono ?_);rintro e w1 ⟨rfl,bs,k,rfl⟩))
    all_goals go_returns
    all_goals exact ⟨by rw [HR.out];rfl,(by repeat (first | exact Mor.refl _ | apply Mor.alloc | apply Mor.more | apply Mor.drewN | apply Mor.drew))⟩
set_option maxHeartbeats 3200000 in
theorem add_far (n m:Int) (w:World) (h0:0≤n) (h9:n≤292193) (m0:-9600≤m) (m9:m≤9600) (hk:dk n+m < 0∨9600≤dk n+m) (ht:Tab w) :
    Calls Tryz.prog 39 #[.int .i64 n,.int .i64 m] w fun e w'=>e=.returned (.tuple #[.int .i64 0,.int .i64 2])∧Mor w w':=by
  have HT:=Lib.hid ht
  clear ht
  have HI:=Lib.hid (fun w=>is_any n w)
  rw [dec_is h0 h9] at HI
  have HP:=Lib.hid (fun w h=>calpl_any n w h0 h9 h)
  obtain ⟨⟨y1,y2,m1,m2,d1,d2⟩,hd,-⟩:=ymd h0 h9
  have ⟨l3,l4⟩:=mlen_bd (y:=yr n) m1 m2
  obtain ⟨K,hK⟩:∃ K,dk n+m=K:=⟨_,rfl⟩
  rw [hK] at hk
  have hk2:12*(yr n - 1600)+mo n - 1+m=K:=by omega
  have d3:dm n≤31:=by omega
  clear d2 hd hK l3 l4
  generalize yr n=Y at *
  generalize mo n=M at *
  generalize dm n=D at *
  rcases hk with hk | hk
  all_goals
    go_enter Tryz.func39,Tryz.ntmps39
    go_wp2_with (first | (go_at_call 93;(with_reducible refine (HI.out _).mono ?_);rintro e w1 ⟨rfl,rfl⟩) | (go_at_call 94;(with_reducible refine (HP.out _ (by repeat (first | exact HT.out | apply Tab.alloc | apply Tab.more | apply Tab.drewN | apply Tab.drew | (refine Tab.set ?_ (by omega))))).mono ?_);rintro e w1 ⟨rfl,bs,k,rfl⟩))
    go_returns
    exact ⟨rfl,(by repeat (first | exact Mor.refl _ | apply Mor.alloc | apply Mor.more | apply Mor.drewN | apply Mor.drew))⟩
end Go.Proofs.YtdhbkifpodekcaaGreatDoor
namespace Go.Proofs.YtdhbkifpodekcaaGreatDoor
set_option linter.unusedVariables false
set_option maxRecDepth 100000
theorem ym_dk (n:Int):12*yr n+mo n=19201+dk n:=by unfold yr mo;omega
noncomputable def cut (n k:Int):Int:=if lk k < dm n then lk k else dm n
theorem cut_bd {n k:Int} (h0:0≤n) (h9:n≤292193):1≤cut n k∧cut n k≤lk k∧cut n k≤dm n:=by
  have h:=isD_of h0 h9
  have:=h.d0;have:=lk_bd k
  unfold cut;split <;> omega
theorem ad_isD {n m:Int} (h0:0≤n) (h9:n≤292193) (k0:0≤dk n+m) (k9:dk n+m < 9600):IsD (ad n m) (dk n+m) (cut n (dk n+m)):=by
  have h:=cut_bd (k:=dk n+m) h0 h9
  exact isD_mk k0 k9 h.1 h.2.1
theorem ad_mono2 {n m m':Int} (h0:0≤n) (h9:n≤292193) (h:m≤m') (k0:0≤dk n+m) (k9:dk n+m' < 9600):ad n m≤ad n m':=by
  refine ((ad_isD h0 h9 k0 (by omega)).le (ad_isD h0 h9 (by omega) k9)).2 ?_
  by_cases e:m=m'
  · subst e;right;exact ⟨rfl,Int.le_refl _⟩
  · left;omega
theorem isD_num (k D:Int) (h0:0≤k) (h1:k < 9600) (d0:1≤D) (d1:D≤lk k) {n:Int} (hn:fk k+D - 1=n):IsD n k D:=⟨h0,h1,d0,d1,hn.symm⟩
end Go.Proofs.YtdhbkifpodekcaaGreatDoor
namespace Go.Proofs.YtdhbkifpodekcaaGreatDoor
open Go.ChangeShapes Go.WideShapes Go.ChangeAt Go.RowKit
set_option linter.unusedVariables false
set_option maxRecDepth 100000
def m30 (d:Int):Int:=if 30 < d then 30 else d
noncomputable def eu (a b:Int):Int:=360*(yr b - yr a)+30*(mo b - mo a)+m30 (dm b) - m30 (dm a)
theorem eu_eq (a b:Int):eu a b=30*(dk b - dk a)+m30 (dm b) - m30 (dm a):=by
  have:=ym_dk a;have:=ym_dk b;unfold eu;omega
noncomputable def cnt (way a b:Int):Int:=if way=2 then eu a b else b - a
def den (way:Int):Int:=if way=1 then 365 else 360
set_option maxHeartbeats 3200000 in
theorem between_yes (way a b:Int) (w:World) (hw0:0≤way) (hw2:way≤2) (h0:0≤a) (h9:b≤292193) (h:a≤b) (ht:Tab w) :
    Calls Tryz.prog 56 #[.int .i64 way,.int .i64 a,.int .i64 b] w fun e w'=>e=.returned (.tuple #[.agg #[.int .i64 (cnt way a b),.int .i64 (den way)],.int .i64 0])∧Mor w w':=by
  have HT:=Lib.hid ht
  clear ht
  have HI:=Lib.hid (fun w=>is_any a w)
  rw [dec_is h0 (by omega)] at HI
  have HJ:=Lib.hid (fun w=>is_any b w)
  rw [dec_is (by omega) h9] at HJ
  have hc:way=0∨way=1∨way=2:=by omega
  rcases hc with rfl | rfl | rfl
  · rw [show cnt 0 a b=b - a from rfl,show den 0=360 from rfl]
    go_enter Tryz.func56,Tryz.ntmps56
    go_wp2_with (first | (go_at_call 93;(with_reducible refine (HI.out _).mono ?_);rintro e w1 ⟨rfl,rfl⟩) | (go_at_call 93;(with_reducible refine (HJ.out _).mono ?_);rintro e w1 ⟨rfl,rfl⟩))
    go_returns
    exact ⟨rfl,by repeat (first | exact Mor.refl _ | apply Mor.alloc | apply Mor.more | apply Mor.drewN | apply Mor.drew)⟩
  · rw [show cnt 1 a b=b - a from rfl,show den 1=365 from rfl]
    go_enter Tryz.func56,Tryz.ntmps56
    go_wp2_with (first | (go_at_call 93;(with_reducible refine (HI.out _).mono ?_);rintro e w1 ⟨rfl,rfl⟩) | (go_at_call 93;(with_reducible refine (HJ.out _).mono ?_);rintro e w1 ⟨rfl,rfl⟩))
    go_returns
    exact ⟨rfl,by repeat (first | exact Mor.refl _ | apply Mor.alloc | apply Mor.more | apply Mor.drewN | apply Mor.drew)⟩
  · have HP:=Lib.hid (fun w h=>calpl_any a w h0 (by omega) h)
    have HQ:=Lib.hid (fun w h=>calpl_any b w (by omega) h9 h)
    obtain ⟨⟨y1,y2,m1,m2,d1,d2⟩,-,-⟩:=ymd (n:=a) h0 (by omega)
    obtain ⟨⟨y3,y4,m3,m4,d3,d4⟩,-,-⟩:=ymd (n:=b) (by omega) h9
    have l1:=(mlen_bd (y:=yr a) m1 m2).2
    have l2:=(mlen_bd (y:=yr b) m3 m4).2
    have d5:dm a≤31:=by omega
    have d6:dm b≤31:=by omega
    obtain ⟨X,hX⟩:∃ X,(if 30 < dm a then 30 else dm a)=X:=⟨_,rfl⟩
    obtain ⟨Z,hZ⟩:∃ Z,(if 30 < dm b then 30 else dm b)=Z:=⟨_,rfl⟩
    have x1:0≤X:=by rw [← hX];split <;> omega
    have x2:X≤30:=by rw [← hX];split <;> omega
    have z1:0≤Z:=by rw [← hZ];split <;> omega
    have z2:Z≤30:=by rw [← hZ];split <;> omega
    have HE:=Lib.hid (show cnt 2 a b=360*(yr b - yr a)+30*(mo b - mo a)+Z - X by unfold cnt eu m30;rw [if_pos rfl,hX,hZ])
    clear d2 d4 l1 l2
    rw [show den 2=360 from rfl]
    generalize cnt 2 a b=C at *
    generalize yr a=Ya at *
    generalize mo a=Ma at *
    generalize dm a=Da at *
    generalize yr b=Yb at *
    generalize mo b=Mb at *
    generalize dm b=Db at *
    go_enter Tryz.func56,Tryz.ntmps56
    go_wp2_with (first | (go_at_call 93;(with_reducible refine (HI.out _).mono ?_);rintro e w1 ⟨rfl,rfl⟩) | (go_at_call 93;(with_reducible refine (HJ.out _).mono ?_);rintro e w1 ⟨rfl,rfl⟩) | (go_at_call 94;(with_reducible refine (HP.out _ (by repeat (first | exact HT.out | apply Tab.alloc | apply Tab.more | apply Tab.drewN | apply Tab.drew))).mono ?_);rintro e w1 ⟨rfl,bs,k,rfl⟩) | (go_at_call 94;(with_reducible refine (HQ.out _ (by repeat (first | exact HT.out | apply Tab.alloc | apply Tab.more | apply Tab.drewN | apply Tab.drew))).mono ?_);rintro e w1 ⟨rfl,bs,k,rfl⟩))
    go_returns
    exact ⟨by rw [HE.out],by repeat (first | exact Mor.refl _ | apply Mor.alloc | apply Mor.more | apply Mor.drewN | apply Mor.drew)⟩
theorem eu_bd {a b:Int} (h0:0≤a) (h9:b≤292193) (h:a≤b):0≤eu a b∧eu a b≤300000:=by
  have ha:=isD_of (n:=a) h0 (by omega);have hb:=isD_of (n:=b) (by omega) h9
  have:=ha.d0;have:=hb.d0;have:=ha.d1;have:=hb.d1;have:=lk_bd (dk a);have:=lk_bd (dk b)
  have:=ha.k0;have:=hb.k1
  rw [eu_eq]
  unfold m30
  rcases (ha.le hb).1 h with h | ⟨h,h'⟩
  · split <;> split <;> omega
  · split <;> split <;> omega
set_option maxHeartbeats 1600000 in
theorem ofday_yes (y m d:Int) (w:World) (h:okD y m d) (ht:Tab w) :
    Calls Tryz.prog 37 #[.agg #[.int .i64 y,.int .i64 m,.int .i64 d]] w fun e w'=>e=.returned (.tuple #[.int .i64 (fst y m+d - 1),.int .i64 0])∧Mor w w':=by
  obtain ⟨h1,h2,h3,h4,h5,h6⟩:=h
  have HT:=Lib.hid ht
  clear ht
  have HL:=Lib.hid (fun w h=>length_int y m w h1 (by omega) h3 h4 h)
  have ⟨l1,l2⟩:=mlen_bd (y:=y) h3 h4
  have HO:=Lib.hid (fun w h=>calof_any y m d w h1 (by omega) h3 h4 (by omega) (by omega) h)
  generalize mlen y m=L at *
  generalize fst y m=F at *
  go_enter Tryz.func37,Tryz.ntmps37
  go_wp2
  go_quiet ((go_at_call 91;(with_reducible exact quiet_eq (HL.out _ (by repeat (first | exact HT.out | apply Tab.alloc | apply Tab.more | apply Tab.drewN | apply Tab.drew | (refine Tab.set ?_ (by omega))))))))
  go_wp2_with (go_at_call 92;(with_reducible refine (HO.out _ (by repeat (first | exact HT.out | apply Tab.alloc | apply Tab.more | apply Tab.drewN | apply Tab.drew | (refine Tab.set ?_ (by omega))))).mono ?_);rintro e w1 ⟨rfl,bs,k,rfl⟩)
  go_returns
  exact ⟨rfl,(by repeat (first | exact Mor.refl _ | apply Mor.alloc | apply Mor.more | apply Mor.drewN | apply Mor.drew))⟩
set_option maxHeartbeats 6400000 in
theorem ofday_no1 (y m d:Int) (w:World) (h1:y < 1600) (ht:Tab w) :
    Calls Tryz.prog 37 #[.agg #[.int .i64 y,.int .i64 m,.int .i64 d]] w fun e w'=>e=.returned (.tuple #[.int .i64 0,.int .i64 1])∧Mor w w':=by
  have HT:=Lib.hid ht
  clear ht
  go_enter Tryz.func37,Tryz.ntmps37
  go_wp2
  go_quiet (fail)
  go_wp2_with fail
  go_returns
  exact ⟨rfl,(by repeat (first | exact Mor.refl _ | apply Mor.alloc | apply Mor.more | apply Mor.drewN | apply Mor.drew))⟩
set_option maxHeartbeats 6400000 in
theorem ofday_no2 (y m d:Int) (w:World) (h1:1600≤y) (h2:2399 < y) (ht:Tab w) :
    Calls Tryz.prog 37 #[.agg #[.int .i64 y,.int .i64 m,.int .i64 d]] w fun e w'=>e=.returned (.tuple #[.int .i64 0,.int .i64 1])∧Mor w w':=by
  have HT:=Lib.hid ht
  clear ht
  go_enter Tryz.func37,Tryz.ntmps37
  go_wp2
  go_quiet (fail)
  go_wp2_with fail
  go_returns
  exact ⟨rfl,(by repeat (first | exact Mor.refl _ | apply Mor.alloc | apply Mor.more | apply Mor.drewN | apply Mor.drew))⟩
set_option maxHeartbeats 6400000 in
theorem ofday_no3 (y m d:Int) (w:World) (h1:1600≤y) (h2:y≤2399) (h3:m < 1) (ht:Tab w) :
    Calls Tryz.prog 37 #[.agg #[.int .i64 y,.int .i64 m,.int .i64 d]] w fun e w'=>e=.returned (.tuple #[.int .i64 0,.int .i64 1])∧Mor w w':=by
  have HT:=Lib.hid ht
  clear ht
  go_enter Tryz.func37,Tryz.ntmps37
  go_wp2
  go_quiet (fail)
  go_wp2_with fail
  go_returns
  exact ⟨rfl,(by repeat (first | exact Mor.refl _ | apply Mor.alloc | apply Mor.more | apply Mor.drewN | apply Mor.drew))⟩
set_option maxHeartbeats 6400000 in
theorem ofday_no4 (y m d:Int) (w:World) (h1:1600≤y) (h2:y≤2399) (h3:1≤m) (h4:12 < m) (ht:Tab w) :
    Calls Tryz.prog 37 #[.agg #[.int .i64 y,.int .i64 m,.int .i64 d]] w fun e w'=>e=.returned (.tuple #[.int .i64 0,.int .i64 1])∧Mor w w':=by
  have HT:=Lib.hid ht
  clear ht
  go_enter Tryz.func37,Tryz.ntmps37
  go_wp2
  go_quiet (fail)
  go_wp2_with fail
  go_returns
  exact ⟨rfl,(by repeat (first | exact Mor.refl _ | apply Mor.alloc | apply Mor.more | apply Mor.drewN | apply Mor.drew))⟩
set_option maxHeartbeats 6400000 in
theorem ofday_no5 (y m d:Int) (w:World) (h1:1600≤y) (h2:y≤2399) (h3:1≤m) (h4:m≤12) (h5:d < 1) (ht:Tab w) :
    Calls Tryz.prog 37 #[.agg #[.int .i64 y,.int .i64 m,.int .i64 d]] w fun e w'=>e=.returned (.tuple #[.int .i64 0,.int .i64 1])∧Mor w w':=by
  have HT:=Lib.hid ht
  clear ht
  go_enter Tryz.func37,Tryz.ntmps37
  go_wp2
  go_quiet (fail)
  go_wp2_with fail
  go_returns
  exact ⟨rfl,(by repeat (first | exact Mor.refl _ | apply Mor.alloc | apply Mor.more | apply Mor.drewN | apply Mor.drew))⟩
set_option maxHeartbeats 6400000 in
theorem ofday_no6 (y m d:Int) (w:World) (h1:1600≤y) (h2:y≤2399) (h3:1≤m) (h4:m≤12) (h5:1≤d) (h6:mlen y m < d) (ht:Tab w) :
    Calls Tryz.prog 37 #[.agg #[.int .i64 y,.int .i64 m,.int .i64 d]] w fun e w'=>e=.returned (.tuple #[.int .i64 0,.int .i64 1])∧Mor w w':=by
  have HT:=Lib.hid ht
  clear ht
  have HL:=Lib.hid (fun w h=>length_int y m w h1 (by omega) h3 h4 h)
  generalize mlen y m=L at *
  go_enter Tryz.func37,Tryz.ntmps37
  go_wp2
  go_quiet ((go_at_call 91;(with_reducible exact quiet_eq (HL.out _ (by repeat (first | exact HT.out | apply Tab.alloc | apply Tab.more | apply Tab.drewN | apply Tab.drew | (refine Tab.set ?_ (by omega))))))))
  go_wp2_with fail
  go_returns
  exact ⟨rfl,(by repeat (first | exact Mor.refl _ | apply Mor.alloc | apply Mor.more | apply Mor.drewN | apply Mor.drew))⟩
end Go.Proofs.YtdhbkifpodekcaaGreatDoor
namespace Go.Proofs.YtdhbkifpodekcaaGreatDoor
set_option maxRecDepth 100000
theorem ofday_no (y m d:Int) (w:World) (h:¬ okD y m d) (ht:Tab w) :
    Calls Tryz.prog 37 #[.agg #[.int .i64 y,.int .i64 m,.int .i64 d]] w fun e w'=>e=.returned (.tuple #[.int .i64 0,.int .i64 1])∧Mor w w':=by
  unfold okD at h
  by_cases h1:1600≤y
  · by_cases h2:y≤2399
    · by_cases h3:1≤m
      · by_cases h4:m≤12
        · by_cases h5:1≤d
          · exact ofday_no6 y m d w h1 h2 h3 h4 h5 (by omega) ht
          · exact ofday_no5 y m d w h1 h2 h3 h4 (by omega) ht
        · exact ofday_no4 y m d w h1 h2 h3 (by omega) ht
      · exact ofday_no3 y m d w h1 h2 (by omega) ht
    · exact ofday_no2 y m d w h1 (by omega) ht
  · exact ofday_no1 y m d w (by omega) ht
end Go.Proofs.YtdhbkifpodekcaaGreatDoor
