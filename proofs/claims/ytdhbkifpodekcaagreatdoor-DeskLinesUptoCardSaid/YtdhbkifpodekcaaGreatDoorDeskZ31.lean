/- Texts of this claim. -/
import Derived.Test.YtdhbkifpodekcaaGreatDoorDeskZ30
import Derived.Carry
import Derived.Maps.Own
import Derived.Maps.OwnSet
import Derived.Maps.Views
import Derived.StringKeys
namespace Go.Proofs.YtdhbkifpodekcaaGreatDoor
open Go Go.ChangeShapes Go.WideShapes Go.ChangeAt Go.RowKit Go.PlainAid
open Go.Maps (Keyed IsMap)
set_option linter.unusedVariables false
set_option maxRecDepth 100000
structure Rk where
  n:Nat
  list:Bool
  K:Nat
def rkV (r:Rk):Value:=.agg #[.int .i64 (r.n:Int),.bool r.list,.func (.func r.K) #[] #[]]
def rkD (r:Rk):DataW Unit:=.agg [.lit (.int .i64 (r.n:Int)),.lit (.bool r.list),.lit (.int .i64 (r.K:Int))]
def fnK:Value→Option Nat
  | .func (.func K) a b=>if a.size=0∧b.size=0 then some K else none
  | _=>none
def rdRkL:List Value→Option (DataW Unit × List MemPlace)
  | [.int .i64 n,.bool l,f]=>match fnK f with
    | some K=>some (.agg [.lit (.int .i64 n),.lit (.bool l),.lit (.int .i64 (K:Int))],[])
    | none=>some (.nil,[])
  | _=>none
def rdRk:Value→Option (DataW Unit × List MemPlace)
  | .agg a=>rdRkL a.toList
  | _=>none
theorem fnK_inv {v:Value} {K:Nat} (h:fnK v=some K):v=.func (.func K) #[] #[]:=by
  unfold fnK at h
  split at h
  · rename_i k a b
    split at h
    · rename_i hab
      injection h with h
      subst h
      rw [Array.eq_empty_of_size_eq_zero hab.1,Array.eq_empty_of_size_eq_zero hab.2]
    · cases h
  · cases h
theorem rdRk_inv {v:Value} {r:Rk} {ps:List MemPlace} (h:rdRk v=some (rkD r,ps)):v=rkV r:=by
  unfold rdRk at h
  split at h
  · rename_i a
    unfold rdRkL at h
    split at h
    · rename_i n l f ha
      split at h
      · rename_i K hK
        unfold rkD at h
        simp only [Option.some.injEq,Prod.mk.injEq,DataW.agg.injEq,List.cons.injEq,DataW.lit.injEq,Lit.int.injEq,Lit.bool.injEq,true_and,and_true] at h
        obtain ⟨⟨h1,h2,h3⟩,_⟩:=h
        have e:a=#[.int .i64 n,.bool l,f]:=Array.toList_inj.1 ha
        rw [e,fnK_inv hK]
        unfold rkV
        rw [h1,h2,show K=r.K by omega]
      · unfold rkD at h;simp at h
    · cases h
  · cases h
theorem law_strD:Keyed Tryz.prog 9:=Maps.string_keyed Tryz.underlying9
theorem mor_grownB {w w1 w2:World} {b:Nat} (h:Mor w w1) (hb:w.heap.size≤b) (hg:w1.grownBy w2 (some b)):Mor w w2 :=
  Mor.of_below (h.below.grown hg h.below.size (by intro k hk;injection hk with hk;omega))
def rk_day:Rk:=⟨3,false,35⟩
def rk_add:Rk:=⟨2,false,38⟩
def rk_deal:Rk:=⟨2,true,40⟩
def rk_split:Rk:=⟨1,true,43⟩
def rk_share:Rk:=⟨3,false,45⟩
def rk_straight:Rk:=⟨3,false,47⟩
def rk_digits:Rk:=⟨3,false,49⟩
def rk_falling:Rk:=⟨4,false,51⟩
def rk_least:Rk:=⟨3,false,53⟩
def rk_between:Rk:=⟨3,false,55⟩
def rk_date:Rk:=⟨1,false,59⟩
def rk_loan:Rk:=⟨3,false,61⟩
def tabL:List (List UInt8 × Rk):=[([100,97,121],rk_day),([97,100,100],rk_add),([100,101,97,108],rk_deal),([115,112,108,105,116],rk_split),([115,104,97,114,101],rk_share),([115,116,114,97,105,103,104,116],rk_straight),([100,105,103,105,116,115],rk_digits),([102,97,108,108,105,110,103],rk_falling),([108,101,97,115,116],rk_least),([98,101,116,119,101,101,110],rk_between),([100,97,116,101],rk_date),([108,111,97,110],rk_loan)]
def tabD:DataW Unit:=tabL.foldl (fun D e=>D.put (.string e.1) (rkD e.2)) (.map [])
def tabF (s:List UInt8):Option Rk:=(tabL.reverse.find? fun e=>e.1 == s).map (·.2)
theorem fold_is (L:List (List UInt8 × Rk)):IsMap (L.foldl (fun D e=>D.put (.string e.1) (rkD e.2)) (.map []:DataW Unit)):=by
  rw [← List.foldr_reverse]
  induction L.reverse with
  | nil=>exact Maps.isMap_empty
  | cons e L ih=>exact ih.put _ _
theorem fold_look (s:List UInt8):∀ L:List (List UInt8 × Rk),
    Maps.has (L.foldr (fun e D=>D.put (.string e.1) (rkD e.2)) (.map []:DataW Unit)) (.string s)=(L.find? fun e=>e.1 == s).isSome ∧
    ∀ z,(L.foldr (fun e D=>D.put (.string e.1) (rkD e.2)) (.map []:DataW Unit)).atKey (.string s) z=match (L.find? fun e=>e.1 == s) with | some e=>rkD e.2 | none=>z
  | []=>⟨rfl,fun z=>rfl⟩
  | e :: L=>by
    obtain ⟨h1,h2⟩:=fold_look s L
    have hi:IsMap (L.foldr (fun e D=>D.put (.string e.1) (rkD e.2)) (.map []:DataW Unit)):=by
      have:=fold_is L.reverse
      rw [List.foldl_reverse] at this;exact this
    rw [List.foldr_cons,List.find?_cons]
    by_cases c:e.1=s
    · have hb:(e.1 == s)=true:=by simpa using c
      rw [hb,← c]
      exact ⟨Maps.has_put_same hi (by trivial) _,fun z=>Maps.atKey_put_same hi (by trivial) _ _⟩
    · have hb:(e.1 == s)=false:=by simpa using c
      have hne:(Lit.string s)≠Lit.string e.1:=fun h=>by injection h with h;exact c h.symm
      rw [hb,Maps.has_put_other hne]
      exact ⟨h1,fun z=>by rw [Maps.atKey_put_other hne];exact h2 z⟩
theorem tabD_look (s:List UInt8):Maps.has tabD (.string s)=(tabF s).isSome∧∀ z,tabD.atKey (.string s) z=match tabF s with | some r=>rkD r | none=>z:=by
  have h:=fold_look s tabL.reverse
  rw [List.foldr_reverse] at h
  unfold tabF
  refine ⟨by rw [Option.isSome_map];exact h.1,fun z=>?_⟩
  rw [show tabD=tabL.foldl (fun D e=>D.put (.string e.1) (rkD e.2)) (.map []) from rfl,h.2 z]
  cases (tabL.reverse.find? fun e=>e.1 == s) <;> rfl
theorem tabF_ok {s:List UInt8} {r:Rk} (h:tabF s=some r):RecOk r.K r.n∧r.n≤10∧1≤r.n:=by
  unfold tabF at h
  cases hf:(tabL.reverse.find? fun e=>e.1 == s) with
  | none=>rw [hf] at h;cases h
  | some e =>
    rw [hf] at h
    injection h with h
    subst h
    have hm:=List.mem_of_find?_eq_some hf
    simp only [tabL,List.mem_reverse,List.mem_cons,List.not_mem_nil,or_false] at hm
    rcases hm with rfl | rfl | rfl | rfl | rfl | rfl | rfl | rfl | rfl | rfl | rfl | rfl
    · exact ⟨rec_day,by decide,by decide⟩
    · exact ⟨rec_add,by decide,by decide⟩
    · exact ⟨rec_deal,by decide,by decide⟩
    · exact ⟨rec_split,by decide,by decide⟩
    · exact ⟨rec_share,by decide,by decide⟩
    · exact ⟨rec_straight,by decide,by decide⟩
    · exact ⟨rec_digits,by decide,by decide⟩
    · exact ⟨rec_falling,by decide,by decide⟩
    · exact ⟨rec_least,by decide,by decide⟩
    · exact ⟨rec_between,by decide,by decide⟩
    · exact ⟨rec_date,by decide,by decide⟩
    · exact ⟨rec_loan,by decide,by decide⟩
set_option maxHeartbeats 6400000 in
theorem table_any (w:World):Calls Tryz.prog 23 #[] w fun e w'=>∃ b,e=.returned (.map (some b))∧w'.ownsMap Tryz.prog 9 rdRk b 12 tabD∧Mor w w':=by
  have hmm:=@run_makeMap Tryz.prog
  go_enter Tryz.func23,Tryz.ntmps23
  have h0:=World.ownsMap_made w Tryz.prog 9 rdRk
  have m0:Mor w (w.alloc (.map #[] 0)):=mor_new _ _
  obtain ⟨b,hb⟩:∃ b,b=w.heap.size:=⟨_,rfl⟩
  go_wp2_with fail
  clear hmm
  rw [← hb] at h0 ⊢
  have hwb:w.heap.size≤b:=by omega
  clear hb
  obtain ⟨w1,r1,h1,g1⟩:=h0.update (val:=.agg #[.int .i64 3,.bool false,.func (.func 35) #[] #[]]) (d:=rkD rk_day) (ps:=[]) law_strD Tryz.underlying69 (by unfold maxLen;omega) (WideMaps.keyOf_string_mk (s:={ data:=#[100,97,121] }) Tryz.underlying9 (by unfold maxLen;decide)) rfl
  have m1:=mor_grownB m0 hwb g1
  clear g1 m0 h0
  rw [r1]
  clear r1
  go_wp2_with fail
  obtain ⟨w2,r2,h2,g2⟩:=h1.update (val:=.agg #[.int .i64 2,.bool false,.func (.func 38) #[] #[]]) (d:=rkD rk_add) (ps:=[]) law_strD Tryz.underlying69 (by unfold maxLen;omega) (WideMaps.keyOf_string_mk (s:={ data:=#[97,100,100] }) Tryz.underlying9 (by unfold maxLen;decide)) rfl
  have m2:=mor_grownB m1 hwb g2
  clear g2 m1 h1
  rw [r2]
  clear r2
  go_wp2_with fail
  obtain ⟨w3,r3,h3,g3⟩:=h2.update (val:=.agg #[.int .i64 2,.bool true,.func (.func 40) #[] #[]]) (d:=rkD rk_deal) (ps:=[]) law_strD Tryz.underlying69 (by unfold maxLen;omega) (WideMaps.keyOf_string_mk (s:={ data:=#[100,101,97,108] }) Tryz.underlying9 (by unfold maxLen;decide)) rfl
  have m3:=mor_grownB m2 hwb g3
  clear g3 m2 h2
  rw [r3]
  clear r3
  go_wp2_with fail
  obtain ⟨w4,r4,h4,g4⟩:=h3.update (val:=.agg #[.int .i64 1,.bool true,.func (.func 43) #[] #[]]) (d:=rkD rk_split) (ps:=[]) law_strD Tryz.underlying69 (by unfold maxLen;omega) (WideMaps.keyOf_string_mk (s:={ data:=#[115,112,108,105,116] }) Tryz.underlying9 (by unfold maxLen;decide)) rfl
  have m4:=mor_grownB m3 hwb g4
  clear g4 m3 h3
  rw [r4]
  clear r4
  go_wp2_with fail
  obtain ⟨w5,r5,h5,g5⟩:=h4.update (val:=.agg #[.int .i64 3,.bool false,.func (.func 45) #[] #[]]) (d:=rkD rk_share) (ps:=[]) law_strD Tryz.underlying69 (by unfold maxLen;omega) (WideMaps.keyOf_string_mk (s:={ data:=#[115,104,97,114,101] }) Tryz.underlying9 (by unfold maxLen;decide)) rfl
  have m5:=mor_grownB m4 hwb g5
  clear g5 m4 h4
  rw [r5]
  clear r5
  go_wp2_with fail
  obtain ⟨w6,r6,h6,g6⟩:=h5.update (val:=.agg #[.int .i64 3,.bool false,.func (.func 47) #[] #[]]) (d:=rkD rk_straight) (ps:=[]) law_strD Tryz.underlying69 (by unfold maxLen;omega) (WideMaps.keyOf_string_mk (s:={ data:=#[115,116,114,97,105,103,104,116] }) Tryz.underlying9 (by unfold maxLen;decide)) rfl
  have m6:=mor_grownB m5 hwb g6
  clear g6 m5 h5
  rw [r6]
  clear r6
  go_wp2_with fail
  obtain ⟨w7,r7,h7,g7⟩:=h6.update (val:=.agg #[.int .i64 3,.bool false,.func (.func 49) #[] #[]]) (d:=rkD rk_digits) (ps:=[]) law_strD Tryz.underlying69 (by unfold maxLen;omega) (WideMaps.keyOf_string_mk (s:={ data:=#[100,105,103,105,116,115] }) Tryz.underlying9 (by unfold maxLen;decide)) rfl
  have m7:=mor_grownB m6 hwb g7
  clear g7 m6 h6
  rw [r7]
  clear r7
  go_wp2_with fail
  obtain ⟨w8,r8,h8,g8⟩:=h7.update (val:=.agg #[.int .i64 4,.bool false,.func (.func 51) #[] #[]]) (d:=rkD rk_falling) (ps:=[]) law_strD Tryz.underlying69 (by unfold maxLen;omega) (WideMaps.keyOf_string_mk (s:={ data:=#[102,97,108,108,105,110,103] }) Tryz.underlying9 (by unfold maxLen;decide)) rfl
  have m8:=mor_grownB m7 hwb g8
  clear g8 m7 h7
  rw [r8]
  clear r8
  go_wp2_with fail
  obtain ⟨w9,r9,h9,g9⟩:=h8.update (val:=.agg #[.int .i64 3,.bool false,.func (.func 53) #[] #[]]) (d:=rkD rk_least) (ps:=[]) law_strD Tryz.underlying69 (by unfold maxLen;omega) (WideMaps.keyOf_string_mk (s:={ data:=#[108,101,97,115,116] }) Tryz.underlying9 (by unfold maxLen;decide)) rfl
  have m9:=mor_grownB m8 hwb g9
  clear g9 m8 h8
  rw [r9]
  clear r9
  go_wp2_with fail
  obtain ⟨w10,r10,h10,g10⟩:=h9.update (val:=.agg #[.int .i64 3,.bool false,.func (.func 55) #[] #[]]) (d:=rkD rk_between) (ps:=[]) law_strD Tryz.underlying69 (by unfold maxLen;omega) (WideMaps.keyOf_string_mk (s:={ data:=#[98,101,116,119,101,101,110] }) Tryz.underlying9 (by unfold maxLen;decide)) rfl
  have m10:=mor_grownB m9 hwb g10
  clear g10 m9 h9
  rw [r10]
  clear r10
  go_wp2_with fail
  obtain ⟨w11,r11,h11,g11⟩:=h10.update (val:=.agg #[.int .i64 1,.bool false,.func (.func 59) #[] #[]]) (d:=rkD rk_date) (ps:=[]) law_strD Tryz.underlying69 (by unfold maxLen;omega) (WideMaps.keyOf_string_mk (s:={ data:=#[100,97,116,101] }) Tryz.underlying9 (by unfold maxLen;decide)) rfl
  have m11:=mor_grownB m10 hwb g11
  clear g11 m10 h10
  rw [r11]
  clear r11
  go_wp2_with fail
  obtain ⟨w12,r12,h12,g12⟩:=h11.update (val:=.agg #[.int .i64 3,.bool false,.func (.func 61) #[] #[]]) (d:=rkD rk_loan) (ps:=[]) law_strD Tryz.underlying69 (by unfold maxLen;omega) (WideMaps.keyOf_string_mk (s:={ data:=#[108,111,97,110] }) Tryz.underlying9 (by unfold maxLen;decide)) rfl
  have m12:=mor_grownB m11 hwb g12
  clear g12 m11 h11
  rw [r12]
  clear r12
  go_wp2_with fail
  go_returns
  exact ⟨b,rfl,h12,m12⟩
end Go.Proofs.YtdhbkifpodekcaaGreatDoor
