/- Texts of this claim. -/
import Derived.Test.YtdhbkifpodekcaaGreatDoorDeskZ10
import Derived.Test.YtdhbkifpodekcaaGreatDoorDeskZ25
import Derived.Test.YtdhbkifpodekcaaGreatDoorDeskZ32
import Derived.BigRegion
namespace Go.Proofs.YtdhbkifpodekcaaGreatDoor
open Go.ChangeShapes Go.WideShapes Go.ChangeAt Go.RowKit Go.PlainAid
set_option linter.unusedVariables false
set_option maxRecDepth 100000
noncomputable def onec (p:Pln):Int :=
  if keyB p.key=false∨9 < p.key.size∨dashB p.key=true then 3
  else if p.kind < 0∨1 < p.kind∨¬ (0≤p.frm∧p.frm≤292193)∨p.amt < 0∨1000000000000 < p.amt∨p.num < 1∨40 < p.num then 1
  else if codeB p.deb=false∨codeB p.cre=false∨p.deb=p.cre then 3
  else if 9600≤dk p.frm+(p.num - 1) then 2 else 0
abbrev pv (p:Pln):Value:=.agg #[.string p.key,.int .i64 p.kind,.int .i64 p.frm,.int .i64 p.amt,.int .i64 p.num,.string p.deb,.string p.cre]
set_option maxRecDepth 100000 in
set_option maxHeartbeats 6400000 in
theorem one_any (p:Pln) (w:World) (hp:Pwf p) (ht:Tab w) :
    Calls Tryz.prog 131 #[pv p] w fun e w'=>e=.returned (.int .i64 (onec p))∧Mor w w':=by
  have HKy:=Lib.hid (fun w=>key_any p.key w hp.k)
  have HDa:=Lib.hid (fun w=>contains_dash p.key w hp.k)
  have HIs:=Lib.hid (fun w=>is_any p.frm w)
  have HC1:=Lib.hid (fun w=>code_any p.deb w hp.d)
  have HC2:=Lib.hid (fun w=>code_any p.cre w hp.c)
  have HT:=Lib.hid ht
  have hsz:p.key.size≤9223372036854775807:=hp.k
  have hE:=str_eq p.deb p.cre
  have HO:onec p=if keyB p.key=false∨9 < p.key.size∨dashB p.key=true then 3
    else if p.kind < 0∨1 < p.kind∨¬ (0≤p.frm∧p.frm≤292193)∨p.amt < 0∨1000000000000 < p.amt∨p.num < 1∨40 < p.num then 1
    else if codeB p.deb=false∨codeB p.cre=false∨p.deb=p.cre then 3
    else if 9600≤dk p.frm+(p.num - 1) then 2 else 0:=rfl
  obtain ⟨n1,n2⟩:=hp.num
  generalize onec p=r at *
  clear hp ht
  obtain ⟨key,kind,frm,amt,num,deb,cre⟩:=p
  simp only at HO HKy HDa HIs HC1 HC2 hsz hE n1 n2
  cases hk:keyB key
  · rw [hk] at HKy HO
    have HR:=Lib.hid (show r=3 from by rw [HO,if_pos (.inl rfl)])
    clear HO
    go_enter Tryz.func131,Tryz.ntmps131
    go_wp2_with (first | (go_at_call 161;(with_reducible refine (HKy.out _).mono ?_);rintro e w1 ⟨rfl,rfl⟩) | (go_at_call 171;(with_reducible refine (HDa.out _).mono ?_);rintro e w1 ⟨rfl,rfl⟩) | (go_at_call 93;(with_reducible refine (HIs.out _).mono ?_);rintro e w1 ⟨rfl,rfl⟩) | (go_at_call 160;(with_reducible refine (HC1.out _).mono ?_);rintro e w1 ⟨rfl,rfl⟩) | (go_at_call 160;(with_reducible refine (HC2.out _).mono ?_);rintro e w1 ⟨rfl,rfl⟩))
    go_ret
    exact ⟨by rw [HR.out] <;> rfl,by repeat (first | exact Mor.refl _ | apply Mor.alloc | apply Mor.more | apply Mor.drewN | apply Mor.drew)⟩
  · rw [hk] at HKy HO
    by_cases h9:9 < key.size
    · have HO2:r=3:=by rw [HO,if_pos (.inr (.inl h9))]
      have HR:=Lib.hid HO2
      clear HO HO2
      go_enter Tryz.func131,Tryz.ntmps131
      go_wp2_with (first | (go_at_call 161;(with_reducible refine (HKy.out _).mono ?_);rintro e w1 ⟨rfl,rfl⟩) | (go_at_call 171;(with_reducible refine (HDa.out _).mono ?_);rintro e w1 ⟨rfl,rfl⟩) | (go_at_call 93;(with_reducible refine (HIs.out _).mono ?_);rintro e w1 ⟨rfl,rfl⟩) | (go_at_call 160;(with_reducible refine (HC1.out _).mono ?_);rintro e w1 ⟨rfl,rfl⟩) | (go_at_call 160;(with_reducible refine (HC2.out _).mono ?_);rintro e w1 ⟨rfl,rfl⟩))
      go_ret
      exact ⟨by rw [HR.out] <;> rfl,by repeat (first | exact Mor.refl _ | apply Mor.alloc | apply Mor.more | apply Mor.drewN | apply Mor.drew)⟩
    · cases hd:dashB key
      rotate_left
      · rw [hd] at HDa HO
        have HO2:r=3:=by rw [HO,if_pos (.inr (.inr rfl))]
        have HR:=Lib.hid HO2
        clear HO HO2
        go_enter Tryz.func131,Tryz.ntmps131
        go_wp2_with (first | (go_at_call 161;(with_reducible refine (HKy.out _).mono ?_);rintro e w1 ⟨rfl,rfl⟩) | (go_at_call 171;(with_reducible refine (HDa.out _).mono ?_);rintro e w1 ⟨rfl,rfl⟩) | (go_at_call 93;(with_reducible refine (HIs.out _).mono ?_);rintro e w1 ⟨rfl,rfl⟩) | (go_at_call 160;(with_reducible refine (HC1.out _).mono ?_);rintro e w1 ⟨rfl,rfl⟩) | (go_at_call 160;(with_reducible refine (HC2.out _).mono ?_);rintro e w1 ⟨rfl,rfl⟩))
        go_ret
        exact ⟨by rw [HR.out] <;> rfl,by repeat (first | exact Mor.refl _ | apply Mor.alloc | apply Mor.more | apply Mor.drewN | apply Mor.drew)⟩
      · rw [hd] at HDa HO
        rw [if_neg (by simp;omega)] at HO
        by_cases ht0:kind < 0
        · have HO2:r=1:=by rw [HO,if_pos (.inl ht0)]
          have HR:=Lib.hid HO2
          clear HO HO2
          go_enter Tryz.func131,Tryz.ntmps131
          go_wp2_with (first | (go_at_call 161;(with_reducible refine (HKy.out _).mono ?_);rintro e w1 ⟨rfl,rfl⟩) | (go_at_call 171;(with_reducible refine (HDa.out _).mono ?_);rintro e w1 ⟨rfl,rfl⟩) | (go_at_call 93;(with_reducible refine (HIs.out _).mono ?_);rintro e w1 ⟨rfl,rfl⟩) | (go_at_call 160;(with_reducible refine (HC1.out _).mono ?_);rintro e w1 ⟨rfl,rfl⟩) | (go_at_call 160;(with_reducible refine (HC2.out _).mono ?_);rintro e w1 ⟨rfl,rfl⟩))
          go_ret
          exact ⟨by rw [HR.out] <;> rfl,by repeat (first | exact Mor.refl _ | apply Mor.alloc | apply Mor.more | apply Mor.drewN | apply Mor.drew)⟩
        · skip
          by_cases ht1:1 < kind
          · have HO2:r=1:=by rw [HO,if_pos (.inr (.inl ht1))]
            have HR:=Lib.hid HO2
            clear HO HO2
            go_enter Tryz.func131,Tryz.ntmps131
            go_wp2_with (first | (go_at_call 161;(with_reducible refine (HKy.out _).mono ?_);rintro e w1 ⟨rfl,rfl⟩) | (go_at_call 171;(with_reducible refine (HDa.out _).mono ?_);rintro e w1 ⟨rfl,rfl⟩) | (go_at_call 93;(with_reducible refine (HIs.out _).mono ?_);rintro e w1 ⟨rfl,rfl⟩) | (go_at_call 160;(with_reducible refine (HC1.out _).mono ?_);rintro e w1 ⟨rfl,rfl⟩) | (go_at_call 160;(with_reducible refine (HC2.out _).mono ?_);rintro e w1 ⟨rfl,rfl⟩))
            go_ret
            exact ⟨by rw [HR.out] <;> rfl,by repeat (first | exact Mor.refl _ | apply Mor.alloc | apply Mor.more | apply Mor.drewN | apply Mor.drew)⟩
          · skip
            by_cases hf:0≤frm∧frm≤292193
            rotate_left
            · rw [decide_eq_false hf] at HIs
              have HO2:r=1:=by rw [HO,if_pos (.inr (.inr (.inl hf)))]
              have HR:=Lib.hid HO2
              clear HO HO2
              go_enter Tryz.func131,Tryz.ntmps131
              go_wp2_with (first | (go_at_call 161;(with_reducible refine (HKy.out _).mono ?_);rintro e w1 ⟨rfl,rfl⟩) | (go_at_call 171;(with_reducible refine (HDa.out _).mono ?_);rintro e w1 ⟨rfl,rfl⟩) | (go_at_call 93;(with_reducible refine (HIs.out _).mono ?_);rintro e w1 ⟨rfl,rfl⟩) | (go_at_call 160;(with_reducible refine (HC1.out _).mono ?_);rintro e w1 ⟨rfl,rfl⟩) | (go_at_call 160;(with_reducible refine (HC2.out _).mono ?_);rintro e w1 ⟨rfl,rfl⟩))
              go_ret
              exact ⟨by rw [HR.out] <;> rfl,by repeat (first | exact Mor.refl _ | apply Mor.alloc | apply Mor.more | apply Mor.drewN | apply Mor.drew)⟩
            · rw [decide_eq_true hf] at HIs
              by_cases ht3:amt < 0
              · have HO2:r=1:=by rw [HO,if_pos (.inr (.inr (.inr (.inl ht3))))]
                have HR:=Lib.hid HO2
                clear HO HO2
                go_enter Tryz.func131,Tryz.ntmps131
                go_wp2_with (first | (go_at_call 161;(with_reducible refine (HKy.out _).mono ?_);rintro e w1 ⟨rfl,rfl⟩) | (go_at_call 171;(with_reducible refine (HDa.out _).mono ?_);rintro e w1 ⟨rfl,rfl⟩) | (go_at_call 93;(with_reducible refine (HIs.out _).mono ?_);rintro e w1 ⟨rfl,rfl⟩) | (go_at_call 160;(with_reducible refine (HC1.out _).mono ?_);rintro e w1 ⟨rfl,rfl⟩) | (go_at_call 160;(with_reducible refine (HC2.out _).mono ?_);rintro e w1 ⟨rfl,rfl⟩))
                go_ret
                exact ⟨by rw [HR.out] <;> rfl,by repeat (first | exact Mor.refl _ | apply Mor.alloc | apply Mor.more | apply Mor.drewN | apply Mor.drew)⟩
              · skip
                by_cases ht4:1000000000000 < amt
                · have HO2:r=1:=by rw [HO,if_pos (.inr (.inr (.inr (.inr (.inl ht4)))))]
                  have HR:=Lib.hid HO2
                  clear HO HO2
                  go_enter Tryz.func131,Tryz.ntmps131
                  go_wp2_with (first | (go_at_call 161;(with_reducible refine (HKy.out _).mono ?_);rintro e w1 ⟨rfl,rfl⟩) | (go_at_call 171;(with_reducible refine (HDa.out _).mono ?_);rintro e w1 ⟨rfl,rfl⟩) | (go_at_call 93;(with_reducible refine (HIs.out _).mono ?_);rintro e w1 ⟨rfl,rfl⟩) | (go_at_call 160;(with_reducible refine (HC1.out _).mono ?_);rintro e w1 ⟨rfl,rfl⟩) | (go_at_call 160;(with_reducible refine (HC2.out _).mono ?_);rintro e w1 ⟨rfl,rfl⟩))
                  go_ret
                  exact ⟨by rw [HR.out] <;> rfl,by repeat (first | exact Mor.refl _ | apply Mor.alloc | apply Mor.more | apply Mor.drewN | apply Mor.drew)⟩
                · skip
                  by_cases ht5:num < 1
                  · have HO2:r=1:=by rw [HO,if_pos (.inr (.inr (.inr (.inr (.inr (.inl ht5))))))]
                    have HR:=Lib.hid HO2
                    clear HO HO2
                    go_enter Tryz.func131,Tryz.ntmps131
                    go_wp2_with (first | (go_at_call 161;(with_reducible refine (HKy.out _).mono ?_);rintro e w1 ⟨rfl,rfl⟩) | (go_at_call 171;(with_reducible refine (HDa.out _).mono ?_);rintro e w1 ⟨rfl,rfl⟩) | (go_at_call 93;(with_reducible refine (HIs.out _).mono ?_);rintro e w1 ⟨rfl,rfl⟩) | (go_at_call 160;(with_reducible refine (HC1.out _).mono ?_);rintro e w1 ⟨rfl,rfl⟩) | (go_at_call 160;(with_reducible refine (HC2.out _).mono ?_);rintro e w1 ⟨rfl,rfl⟩))
                    go_ret
                    exact ⟨by rw [HR.out] <;> rfl,by repeat (first | exact Mor.refl _ | apply Mor.alloc | apply Mor.more | apply Mor.drewN | apply Mor.drew)⟩
                  · skip
                    by_cases ht6:40 < num
                    · have HO2:r=1:=by rw [HO,if_pos (.inr (.inr (.inr (.inr (.inr (.inr (ht6)))))))]
                      have HR:=Lib.hid HO2
                      clear HO HO2
                      go_enter Tryz.func131,Tryz.ntmps131
                      go_wp2_with (first | (go_at_call 161;(with_reducible refine (HKy.out _).mono ?_);rintro e w1 ⟨rfl,rfl⟩) | (go_at_call 171;(with_reducible refine (HDa.out _).mono ?_);rintro e w1 ⟨rfl,rfl⟩) | (go_at_call 93;(with_reducible refine (HIs.out _).mono ?_);rintro e w1 ⟨rfl,rfl⟩) | (go_at_call 160;(with_reducible refine (HC1.out _).mono ?_);rintro e w1 ⟨rfl,rfl⟩) | (go_at_call 160;(with_reducible refine (HC2.out _).mono ?_);rintro e w1 ⟨rfl,rfl⟩))
                      go_ret
                      exact ⟨by rw [HR.out] <;> rfl,by repeat (first | exact Mor.refl _ | apply Mor.alloc | apply Mor.more | apply Mor.drewN | apply Mor.drew)⟩
                    · skip
                      rw [if_neg (by simp only [not_or,Classical.not_not];exact ⟨ht0,ht1,hf,ht3,ht4,ht5,ht6⟩)] at HO
                      cases hc0:codeB deb
                      · rw [hc0] at HC1 HO
                        have HO2:r=3:=by rw [HO,if_pos (.inl rfl)]
                        have HR:=Lib.hid HO2
                        clear HO HO2
                        go_enter Tryz.func131,Tryz.ntmps131
                        go_wp2_with (first | (go_at_call 161;(with_reducible refine (HKy.out _).mono ?_);rintro e w1 ⟨rfl,rfl⟩) | (go_at_call 171;(with_reducible refine (HDa.out _).mono ?_);rintro e w1 ⟨rfl,rfl⟩) | (go_at_call 93;(with_reducible refine (HIs.out _).mono ?_);rintro e w1 ⟨rfl,rfl⟩) | (go_at_call 160;(with_reducible refine (HC1.out _).mono ?_);rintro e w1 ⟨rfl,rfl⟩) | (go_at_call 160;(with_reducible refine (HC2.out _).mono ?_);rintro e w1 ⟨rfl,rfl⟩))
                        go_ret
                        exact ⟨by rw [HR.out] <;> rfl,by repeat (first | exact Mor.refl _ | apply Mor.alloc | apply Mor.more | apply Mor.drewN | apply Mor.drew)⟩
                      · rw [hc0] at HC1 HO
                        cases hc1:codeB cre
                        · rw [hc1] at HC2 HO
                          have HO2:r=3:=by rw [HO,if_pos (.inr (.inl rfl))]
                          have HR:=Lib.hid HO2
                          clear HO HO2
                          go_enter Tryz.func131,Tryz.ntmps131
                          go_wp2_with (first | (go_at_call 161;(with_reducible refine (HKy.out _).mono ?_);rintro e w1 ⟨rfl,rfl⟩) | (go_at_call 171;(with_reducible refine (HDa.out _).mono ?_);rintro e w1 ⟨rfl,rfl⟩) | (go_at_call 93;(with_reducible refine (HIs.out _).mono ?_);rintro e w1 ⟨rfl,rfl⟩) | (go_at_call 160;(with_reducible refine (HC1.out _).mono ?_);rintro e w1 ⟨rfl,rfl⟩) | (go_at_call 160;(with_reducible refine (HC2.out _).mono ?_);rintro e w1 ⟨rfl,rfl⟩))
                          go_ret
                          exact ⟨by rw [HR.out] <;> rfl,by repeat (first | exact Mor.refl _ | apply Mor.alloc | apply Mor.more | apply Mor.drewN | apply Mor.drew)⟩
                        · rw [hc1] at HC2 HO
                          by_cases hdc:deb=cre
                          · rw [decide_eq_true hdc] at hE
                            have HO2:r=3:=by rw [HO,if_pos (.inr (.inr hdc))]
                            clear hdc
                            have HR:=Lib.hid HO2
                            clear HO HO2
                            go_enter Tryz.func131,Tryz.ntmps131
                            go_wp2_with (first | (go_at_call 161;(with_reducible refine (HKy.out _).mono ?_);rintro e w1 ⟨rfl,rfl⟩) | (go_at_call 171;(with_reducible refine (HDa.out _).mono ?_);rintro e w1 ⟨rfl,rfl⟩) | (go_at_call 93;(with_reducible refine (HIs.out _).mono ?_);rintro e w1 ⟨rfl,rfl⟩) | (go_at_call 160;(with_reducible refine (HC1.out _).mono ?_);rintro e w1 ⟨rfl,rfl⟩) | (go_at_call 160;(with_reducible refine (HC2.out _).mono ?_);rintro e w1 ⟨rfl,rfl⟩))
                            go_ret
                            exact ⟨by rw [HR.out] <;> rfl,by repeat (first | exact Mor.refl _ | apply Mor.alloc | apply Mor.more | apply Mor.drewN | apply Mor.drew)⟩
                          · rw [decide_eq_false hdc] at hE
                            rw [if_neg (by simp only [not_or];exact ⟨by simp,by simp,hdc⟩)] at HO
                            clear hdc
                            obtain ⟨f1,f2⟩:=hf
                            have hyd:=(ymd f1 f2).2.1
                            obtain ⟨y1,y2,m1,m2,_⟩:=(ymd f1 f2).1
                            by_cases hl:9600≤dk frm+(num - 1)
                            · have HO2:r=2:=by rw [HO,if_pos hl]
                              have HAd:=Lib.hid (fun w h=>add_far frm (num - 1) w f1 f2 (by omega) (by omega) (.inr hl) h)
                              clear hl hyd y1 y2 m1 m2
                              have HR:=Lib.hid HO2
                              clear HO HO2
                              go_enter Tryz.func131,Tryz.ntmps131
                              go_wp2_with (first | (go_at_call 161;(with_reducible refine (HKy.out _).mono ?_);rintro e w1 ⟨rfl,rfl⟩) | (go_at_call 171;(with_reducible refine (HDa.out _).mono ?_);rintro e w1 ⟨rfl,rfl⟩) | (go_at_call 93;(with_reducible refine (HIs.out _).mono ?_);rintro e w1 ⟨rfl,rfl⟩) | (go_at_call 160;(with_reducible refine (HC1.out _).mono ?_);rintro e w1 ⟨rfl,rfl⟩) | (go_at_call 160;(with_reducible refine (HC2.out _).mono ?_);rintro e w1 ⟨rfl,rfl⟩) | (go_at_call 39;(with_reducible refine (HAd.out _ (by repeat (first | exact HT.out | apply Tab.alloc | apply Tab.more | apply Tab.drewN | apply Tab.drew))).mono ?_);rintro e w1 ⟨rfl,bs,k,rfl⟩))
                              go_ret
                              exact ⟨by rw [HR.out] <;> rfl,by repeat (first | exact Mor.refl _ | apply Mor.alloc | apply Mor.more | apply Mor.drewN | apply Mor.drew)⟩
                            · have HO2:r=0:=by rw [HO,if_neg hl]
                              have HAd:=Lib.hid (fun w h=>add_yes frm (num - 1) w f1 f2 (by omega) (by omega) (by omega) (by omega) h)
                              clear hl hyd y1 y2 m1 m2
                              generalize ad frm (num - 1)=q at *
                              have HR:=Lib.hid HO2
                              clear HO HO2
                              go_enter Tryz.func131,Tryz.ntmps131
                              go_wp2_with (first | (go_at_call 161;(with_reducible refine (HKy.out _).mono ?_);rintro e w1 ⟨rfl,rfl⟩) | (go_at_call 171;(with_reducible refine (HDa.out _).mono ?_);rintro e w1 ⟨rfl,rfl⟩) | (go_at_call 93;(with_reducible refine (HIs.out _).mono ?_);rintro e w1 ⟨rfl,rfl⟩) | (go_at_call 160;(with_reducible refine (HC1.out _).mono ?_);rintro e w1 ⟨rfl,rfl⟩) | (go_at_call 160;(with_reducible refine (HC2.out _).mono ?_);rintro e w1 ⟨rfl,rfl⟩) | (go_at_call 39;(with_reducible refine (HAd.out _ (by repeat (first | exact HT.out | apply Tab.alloc | apply Tab.more | apply Tab.drewN | apply Tab.drew))).mono ?_);rintro e w1 ⟨rfl,bs,k,rfl⟩))
                              go_ret
                              exact ⟨by rw [HR.out] <;> rfl,by repeat (first | exact Mor.refl _ | apply Mor.alloc | apply Mor.more | apply Mor.drewN | apply Mor.drew)⟩
end Go.Proofs.YtdhbkifpodekcaaGreatDoor
