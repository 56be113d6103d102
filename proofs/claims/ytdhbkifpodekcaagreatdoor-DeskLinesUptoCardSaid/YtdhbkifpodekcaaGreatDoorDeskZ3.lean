/- Texts of this claim. -/
import Derived.Test.YtdhbkifpodekcaaGreatDoorDeskZ2
import Derived.DataElems
import Derived.Deep.LoopGhost
import Derived.Laws.Cover1
import Derived.Shelf.Abstract
namespace Go.Proofs.YtdhbkifpodekcaaGreatDoor
open Go.ChangeShapes Go.WideShapes Go.ChangeAt Go.RowKit Go.PlainAid
set_option linter.unusedVariables false
set_option maxRecDepth 100000
def Si (w:World) (A:Option Addr) (xs:List Ln):Prop :=
  xs=[]∨∃ x,A=some x∧x.block < w.heap.size∧∀ i,i < xs.length→w.cell? (x.add (i*2))=some (.string (cd xs i))∧w.cell? ⟨(x.add (i*2)).block,(x.add (i*2)).off+1,none⟩=some (.int .i64 (am xs i))
theorem Si.mor {w w':World} {A:Option Addr} {xs:List Ln} (h:Si w A xs) (hm:Mor w w'):Si w' A xs:=by
  rcases h with h | ⟨x,e,hb,hc⟩
  · exact .inl h
  · have hB:=hm.below
    exact .inr ⟨x,e,by have:=hB.size;omega,fun i hi=>⟨(hB.cell (p:=x.add (i*2)) (by rw [addb];exact hb)).trans (hc i hi).1,(hB.cell (p:=⟨(x.add (i*2)).block,(x.add (i*2)).off+1,none⟩) (by rw [addb];exact hb)).trans (hc i hi).2⟩⟩
theorem Si.at_ {w:World} {A:Option Addr} {xs:List Ln} (h:Si w A xs) (i:Nat) (hi:i < xs.length) :
    ∃ x,A=some x∧x.block < w.heap.size∧w.cell? (x.add (i*2))=some (.string (cd xs i))∧w.cell? ⟨(x.add (i*2)).block,(x.add (i*2)).off+1,none⟩=some (.int .i64 (am xs i)):=by
  rcases h with h | ⟨x,e,hb,hc⟩
  · subst h;simp at hi
  · exact ⟨x,e,hb,hc i hi⟩
set_option maxHeartbeats 400000 in
theorem mon_any (a:Int) (w:World):Calls Tryz.prog 98 #[.int .i64 a] w fun e w'=>e=.returned (.bool (decide (-1000000000000≤a) && decide (a≤1000000000000)))∧w=w':=by
  by_cases h1:-1000000000000≤a <;> by_cases h2:a≤1000000000000
  all_goals
    go_enter Tryz.func98,Tryz.ntmps98
    go_wp2
    go_ret
    exact ⟨by simp [h1,h2],rfl⟩
set_option maxHeartbeats 400000 in
theorem cis_any (n:Int) (w:World):Calls Tryz.prog 93 #[.int .i64 n] w fun e w'=>e=.returned (.bool (decide (0≤n) && decide (n≤292193)))∧w=w':=by
  by_cases a:0≤n <;> by_cases b:n≤292193
  all_goals
    go_enter Tryz.func93,Tryz.ntmps93
    go_wp2
    go_ret
    exact ⟨by simp [*],rfl⟩
set_option maxHeartbeats 400000 in
theorem tw_clo (g:Nat) (s s':ByteArray) (n':Int) (w:World) (hc:w.cell? ⟨g,0,none⟩=some (.string s)) (hg:g < w.heap.size) :
    Calls Tryz.prog 194 #[.agg #[.string s',.int .i64 n'],.pointer (some ⟨g,0,none⟩)] w fun e w'=>e=.returned (.bool (decide (s'=s)))∧Mor w w':=by
  go_enter Tryz.func194,Tryz.ntmps194
  go_wp2
  go_ret
  exact ⟨by simp [str_eq],by repeat (first | exact Mor.refl _ | apply Mor.alloc | apply Mor.more | apply Mor.drewN | apply Mor.drew)⟩
def SaysL (w:World) (g:Nat) (cb:Array Value) (xs:List Ln) (p:Nat→Bool):Prop :=
  ∀ (i:Nat) (w1:World),i < xs.length→Mor w w1→Calls Tryz.prog g (#[.agg #[.string (cd xs i),.int .i64 (am xs i)]]++cb) w1 fun e w'=>e=.returned (.bool (p i))∧Mor w1 w'
def IndexPost (w:World) (n:Nat) (p:Nat→Bool) (e:Ending) (w':World):Prop :=
  (∃ j:Nat,j < n∧p j=true∧e=.returned (.int .i64 j)∧Mor w w')∨((∀ j,j < n→p j=false)∧e=.returned (.int .i64 (-1))∧Mor w w')
set_option maxHeartbeats 1600000 in
theorem index_ln (g:Nat) (cb:Array Value) (A:Option Addr) (n cap:Nat) (xs:List Ln) (p:Nat→Bool) (w:World) (eg:∀ args w,(callFunc g args).run Tryz.prog w=.ok (.enter g args) w) (hr:Si w A xs) (hn:n≤xs.length) (hl:n≤1000) (hf:SaysL w g cb xs p) :
    Calls Tryz.prog 195 #[.slice A n cap,.func (.func g) #[] cb] w (IndexPost w n p):=by
  have HF:=Lib.hid hf
  have HR:=Lib.hid hr
  have HN:=Lib.hid hn
  clear hf hr hn
  go_enter Tryz.func195,Tryz.ntmps195
  go_wp2
  go_loopw [8] (fun i wr=>∃ k:Nat,k≤n∧i=.int .i64 k∧Hid (∀ j,j < k→p j=false)∧Hid (Mor w wr)) (fun i _=>n - (intOf i).toNat)
  case atStart=>exact ⟨0,Nat.zero_le _,rfl,Lib.hid (fun j hj=>absurd hj (by omega)),Lib.hid (Mor.refl _)⟩
  case round =>
    obtain ⟨k,hk,rfl,HA,HM⟩:=hrel
    by_cases hlt:k < n
    · have hki:(k:Int) < (n:Int):=by omega
      have hk0:(0:Int)≤(k:Int):=by omega
      obtain ⟨x,hA,hxb,c1,c2⟩:=(HR.out.mor HM.out).at_ k (by have:=HN.out;omega)
      subst hA
      have hc:=HF.out k wr (by have:=HN.out;omega) HM.out
      generalize cd xs k=s at *
      generalize am xs k=a at *
      cases hp:p k <;> rw [hp] at hc
      · have HG:=Lib.hid (show ∀ j,j < k+1→p j=false from fun j hj=>by
          by_cases e:j=k
          · subst e;exact hp
          · exact HA.out j (by omega))
        clear hp
        go_wp2_with (go_at_fn g;refine hc.mono ?_;rintro e w' ⟨rfl,hmw⟩)
        have HM':=Lib.hid (Mor.trans' HM.out hmw)
        clear hmw
        go_roundw
        case rel=>exact ⟨k+1,by omega,by go_num,HG,HM'⟩
        case measure=>simp [intOf];omega
      · have HP:=Lib.hid hp
        clear hp
        go_wp2_with (go_at_fn g;refine hc.mono ?_;rintro e w' ⟨rfl,hmw⟩)
        have HM':=Lib.hid (Mor.trans' HM.out hmw)
        clear hmw
        go_ret
        exact .inl ⟨k,hlt,HP.out,rfl,HM'.out⟩
    · obtain rfl:k=n:=by omega
      go_wp2
      go_ret
      exact .inr ⟨HA.out,rfl,HM.out⟩
set_option maxHeartbeats 800000 in
theorem contains_ln (g:Nat) (cb:Array Value) (A:Option Addr) (n cap:Nat) (xs:List Ln) (p:Nat→Bool) (w:World) (eg:∀ args w,(callFunc g args).run Tryz.prog w=.ok (.enter g args) w) (hr:Si w A xs) (hn:n≤xs.length) (hl:n≤1000) (hf:SaysL w g cb xs p) :
    Calls Tryz.prog 166 #[.slice A n cap,.func (.func g) #[] cb] w fun e w'=>e=.returned (.bool ((List.range n).any p))∧Mor w w':=by
  have HI:=Lib.hid (index_ln g cb A n cap xs p w eg hr hn hl hf)
  clear hr hn hf
  go_enter Tryz.func166,Tryz.ntmps166
  go_wp2_with fail
  refine HI.out.mono ?_
  rintro e w1 (⟨j,hj,hp,rfl,hm⟩ | ⟨hp,rfl,hm⟩)
  · have HP:=Lib.hid (show (List.range n).any p=true from List.any_eq_true.2 ⟨j,List.mem_range.2 hj,hp⟩)
    have HM:=Lib.hid hm
    clear hp hm
    go_wp2_with fail
    go_ret
    exact ⟨by rw [HP.out] <;> simp,HM.out⟩
  · have HP:=Lib.hid (show (List.range n).any p=false from List.any_eq_false.2 fun j hj=>by simp [hp j (List.mem_range.1 hj)])
    have HM:=Lib.hid hm
    clear hp hm
    go_wp2_with fail
    go_ret
    exact ⟨by rw [HP.out] <;> rfl,HM.out⟩
theorem Si.alloc {w:World} {A:Option Addr} {xs:List Ln} {o:Obj} (h:Si w A xs):Si (w.alloc o) A xs:=h.mor ((Mor.refl _).alloc)
theorem says_tw (W:World) (s:ByteArray) (a:Int) (xs:List Ln):SaysL (W.alloc (.cells #[.string s,.int .i64 a] 149)) 194 #[.pointer (some ⟨W.heap.size,0,none⟩)] xs (fun j=>decide (cd xs j=s)):=by
  intro i w1 hi hm
  have hB:=hm.below
  have hs:W.heap.size < (W.alloc (.cells #[.string s,.int .i64 a] 149)).heap.size:=by show _ < (W.heap.push _).size;rw [Array.size_push];omega
  refine tw_clo W.heap.size s (cd xs i) (am xs i) w1 ?_ (by have:=hB.size;omega)
  rw [hB.cell (p:=⟨W.heap.size,0,none⟩) hs]
  simp [go_sem]
set_option maxRecDepth 100000 in
set_option maxHeartbeats 3200000 in
theorem lines_any (A:Option Addr) (n cap:Nat) (xs:List Ln) (w:World) (hr:Si w A xs) (hn:xs.length=n) (hcap:n≤cap) (hml:n≤maxLen) (hs:∀ i,i < n→(cd xs i).size≤maxLen) :
    Calls Tryz.prog 162 #[.slice A n cap] w fun e w'=>e=.returned (.int .i64 (linec xs))∧Mor w w':=by
  unfold maxLen at hml
  have HR:=Lib.hid hr
  have HN:=Lib.hid hn
  have HS:=Lib.hid hs
  clear hr hs
  by_cases h12:12 < n
  · have HL:=Lib.hid (show linec xs=2 by unfold linec;rw [hn,if_pos h12])
    clear hn
    go_enter Tryz.func162,Tryz.ntmps162
    go_wp2
    go_ret
    exact ⟨by rw [HL.out] <;> rfl,Mor.refl _⟩
  · have HL:=Lib.hid (show linec xs=if lnUp xs n≠0 then lnUp xs n else if n < 2∨amS xs n≠0 then 7 else 0 by unfold linec;rw [hn,if_neg h12])
    have h12':n≤12:=by omega
    clear hn h12
    go_enter Tryz.func162,Tryz.ntmps162
    go_wp2
    go_loopw [3,11] (fun t i wr=>∃ k:Nat,k≤n∧i=.int .i64 k∧t=.int .i64 (amS xs k)∧Hid (lnUp xs k=0)∧Hid (Mor w wr)) (fun _ i _=>n - (intOf i).toNat)
    case atStart=>exact ⟨0,Nat.zero_le _,rfl,rfl,Lib.hid rfl,Lib.hid (Mor.refl _)⟩
    case round =>
      obtain ⟨k,hk,rfl,rfl,HU,HM⟩:=hrel
      have hsb:=amS_bd (xs:=xs) (n:=k) (fun j hj=>lnUp_at HU.out hj)
      obtain ⟨s1,s2⟩:=hsb
      by_cases hlt:k < n
      · have hki:(k:Int) < (n:Int):=by omega
        have hk0:(0:Int)≤(k:Int):=by omega
        have hkc:k≤cap:=by omega
        have hkc2:(k:Int)≤(cap:Int):=by omega
        obtain ⟨x,hA,hxb,c1,c2⟩:=(HR.out.mor HM.out).at_ k (by have:=HN.out;omega)
        subst hA
        have HCo:=Lib.hid (fun w=>code_any (cd xs k) w (HS.out k hlt))
        have HMo:=Lib.hid (fun w=>mon_any (am xs k) w)
        have HBad:=Lib.hid (fun h:lnAt xs k≠0=>show linec xs=lnAt xs k by rw [HL.out,lnUp_bad HU.out h hlt,if_pos h])
        have HAt:=Lib.hid (show lnAt xs k=if codeB (cd xs k)=false then 3 else if am xs k < -1000000000000∨1000000000000 < am xs k∨am xs k=0 then 1 else if twB xs k=true then 5 else 0 from rfl)
        have HCt:=Lib.hid (contains_ln 194 #[.pointer (some ⟨wr.heap.size,0,none⟩)] (some x) k cap xs (fun j=>decide (cd xs j=cd xs k)) (wr.alloc (.cells #[.string (cd xs k),.int .i64 (am xs k)] 149)) (fun _ _=>rfl) (HR.out.mor HM.out).alloc (by have:=HN.out;omega) (by omega) (says_tw wr (cd xs k) (am xs k) xs))
        rw [show (List.range k).any (fun j=>decide (cd xs j=cd xs k))=twB xs k from rfl] at HCt
        have HSum:=Lib.hid (show amS xs (k+1)=amS xs k+am xs k from rfl)
        have HOk:=Lib.hid (fun h:lnAt xs k=0=>lnUp_ok HU.out h)
        generalize cd xs k=s at *
        generalize am xs k=a at *
        generalize amS xs k=t at *
        cases hcb:codeB s
        · rw [hcb] at HCo HAt
          have HF:=Lib.hid (show linec xs=3 by
            have e:lnAt xs k=3:=by rw [HAt.out];rfl
            rw [HBad.out (by omega),e])
          clear hcb
          go_wp2_with ((go_at_call 160;(with_reducible refine (HCo.out _).mono ?_);rintro e w1 ⟨rfl,rfl⟩))
          go_ret
          exact ⟨by rw [HF.out] <;> rfl,HM.out.alloc⟩
        · rw [hcb] at HCo HAt
          clear hcb
          have hcase:a < -1000000000000∨1000000000000 < a∨a=0∨(-1000000000000≤a∧a≤1000000000000∧a≠0):=by omega
          rcases hcase with ha | ha | ha | ⟨a1,a2,a3⟩
          · have HF:=Lib.hid (show linec xs=1 by
              have e:lnAt xs k=1:=by rw [HAt.out,if_neg (by simp),if_pos (.inl ha)]
              rw [HBad.out (by omega),e])
            rw [show (decide (-1000000000000≤a) && decide (a≤1000000000000))=false by simp;omega] at HMo
            go_wp2_with (first | (go_at_call 160;(with_reducible refine (HCo.out _).mono ?_);rintro e w1 ⟨rfl,rfl⟩) | (go_at_call 98;(with_reducible refine (HMo.out _).mono ?_);rintro e w1 ⟨rfl,rfl⟩))
            go_ret
            exact ⟨by rw [HF.out] <;> rfl,HM.out.alloc⟩
          · have HF:=Lib.hid (show linec xs=1 by
              have e:lnAt xs k=1:=by rw [HAt.out,if_neg (by simp),if_pos (.inr (.inl ha))]
              rw [HBad.out (by omega),e])
            rw [show (decide (-1000000000000≤a) && decide (a≤1000000000000))=false by simp;omega] at HMo
            go_wp2_with (first | (go_at_call 160;(with_reducible refine (HCo.out _).mono ?_);rintro e w1 ⟨rfl,rfl⟩) | (go_at_call 98;(with_reducible refine (HMo.out _).mono ?_);rintro e w1 ⟨rfl,rfl⟩))
            go_ret
            exact ⟨by rw [HF.out] <;> rfl,HM.out.alloc⟩
          · have HF:=Lib.hid (show linec xs=1 by
              have e:lnAt xs k=1:=by rw [HAt.out,if_neg (by simp),if_pos (.inr (.inr ha))]
              rw [HBad.out (by omega),e])
            rw [show (decide (-1000000000000≤a) && decide (a≤1000000000000))=true by simp;omega] at HMo
            subst ha
            go_wp2_with (first | (go_at_call 160;(with_reducible refine (HCo.out _).mono ?_);rintro e w1 ⟨rfl,rfl⟩) | (go_at_call 98;(with_reducible refine (HMo.out _).mono ?_);rintro e w1 ⟨rfl,rfl⟩))
            go_ret
            exact ⟨by rw [HF.out] <;> rfl,HM.out.alloc⟩
          · rw [show (decide (-1000000000000≤a) && decide (a≤1000000000000))=true by simp;omega] at HMo
            have a4:(a == 0)=false:=by simpa using a3
            have HAt2:=Lib.hid (show lnAt xs k=if twB xs k=true then 5 else 0 by rw [HAt.out,if_neg (by simp),if_neg (by omega)])
            cases htw:twB xs k
            · rw [htw] at HCt HAt2
              have HOk2:=Lib.hid (HOk.out (by rw [HAt2.out];rfl))
              clear htw
              go_wp2_with (first | (go_at_call 160;(with_reducible refine (HCo.out _).mono ?_);rintro e w1 ⟨rfl,rfl⟩) | (go_at_call 98;(with_reducible refine (HMo.out _).mono ?_);rintro e w1 ⟨rfl,rfl⟩) | (go_at_call 166;(with_reducible refine HCt.out.mono ?_);rintro e w1 ⟨rfl,bs,dr,rfl⟩))
              go_roundw
              case rel=>exact ⟨k+1,by omega,by go_num,by rw [HSum.out],HOk2,Lib.hid (HM.out.alloc).more⟩
              case measure=>simp [intOf];omega
            · rw [htw] at HCt HAt2
              have HF:=Lib.hid (show linec xs=5 by
                have e:lnAt xs k=5:=by rw [HAt2.out];rfl
                rw [HBad.out (by omega),e])
              clear htw
              go_wp2_with (first | (go_at_call 160;(with_reducible refine (HCo.out _).mono ?_);rintro e w1 ⟨rfl,rfl⟩) | (go_at_call 98;(with_reducible refine (HMo.out _).mono ?_);rintro e w1 ⟨rfl,rfl⟩) | (go_at_call 166;(with_reducible refine HCt.out.mono ?_);rintro e w1 ⟨rfl,bs,dr,rfl⟩))
              go_ret
              exact ⟨by rw [HF.out] <;> rfl,(HM.out.alloc).more⟩
      · obtain rfl:k=n:=by omega
        have HL2:=Lib.hid (show linec xs=if k < 2∨amS xs k≠0 then 7 else 0 by rw [HL.out,HU.out,if_neg (by simp)])
        generalize amS xs k=t at *
        by_cases h2:k < 2
        · have HF:=Lib.hid (show linec xs=7 by rw [HL2.out,if_pos (.inl h2)])
          have h2':(k:Int) < 2:=by omega
          go_wp2
          go_ret
          exact ⟨by rw [HF.out] <;> rfl,HM.out⟩
        · have h2':¬ (k:Int) < 2:=by omega
          by_cases h3:t=0
          · have HF:=Lib.hid (show linec xs=0 by rw [HL2.out,if_neg (by omega)])
            subst h3
            go_wp2
            go_ret
            exact ⟨by rw [HF.out] <;> rfl,HM.out⟩
          · have HF:=Lib.hid (show linec xs=7 by rw [HL2.out,if_pos (.inr h3)])
            have h4:(t != 0)=true:=by simpa using h3
            go_wp2
            go_ret
            exact ⟨by rw [HF.out] <;> rfl,HM.out⟩
set_option maxHeartbeats 1600000 in
theorem check_any (key:ByteArray) (day:Int) (A:Option Addr) (n cap:Nat) (xs:List Ln) (w:World) (hk:key.size≤maxLen) (hr:Si w A xs) (hn:xs.length=n) (hcap:n≤cap) (hml:n≤maxLen) (hs:∀ i,i < n→(cd xs i).size≤maxLen) :
    Calls Tryz.prog 118 #[.agg #[.string key,.int .i64 day,.slice A n cap]] w fun e w'=>e=.returned (.int .i64 (entc key day xs))∧Mor w w':=by
  have HK:=Lib.hid (fun w=>key_any key w hk)
  have HD:=Lib.hid (fun w=>cis_any day w)
  have HL:=Lib.hid (fun w (h:Si w A xs)=>lines_any A n cap xs w h hn hcap hml hs)
  have HR:=Lib.hid hr
  have HE:=Lib.hid (show entc key day xs=if keyB key=false then 3 else if day < 0∨292193 < day then 1 else linec xs from rfl)
  clear hr hn hcap hml hs
  cases hkb:keyB key
  · rw [hkb] at HK HE
    clear hkb
    go_enter Tryz.func118,Tryz.ntmps118
    go_wp2_with ((go_at_call 161;(with_reducible refine (HK.out _).mono ?_);rintro e w1 ⟨rfl,rfl⟩))
    go_ret
    exact ⟨by rw [HE.out] <;> rfl,(Mor.refl _).alloc⟩
  · rw [hkb] at HK HE
    clear hkb
    by_cases hd:day < 0∨292193 < day
    · rw [show (decide (0≤day) && decide (day≤292193))=false by simp;omega] at HD
      have HE2:=Lib.hid (show entc key day xs=1 by rw [HE.out,if_neg (by simp),if_pos hd])
      clear hd
      go_enter Tryz.func118,Tryz.ntmps118
      go_wp2_with (first | (go_at_call 161;(with_reducible refine (HK.out _).mono ?_);rintro e w1 ⟨rfl,rfl⟩) | (go_at_call 93;(with_reducible refine (HD.out _).mono ?_);rintro e w1 ⟨rfl,rfl⟩))
      go_ret
      exact ⟨by rw [HE2.out] <;> rfl,(Mor.refl _).alloc⟩
    · rw [show (decide (0≤day) && decide (day≤292193))=true by simp;omega] at HD
      have HE2:=Lib.hid (show entc key day xs=linec xs by rw [HE.out,if_neg (by simp),if_neg hd])
      clear hd
      generalize linec xs=L at *
      go_enter Tryz.func118,Tryz.ntmps118
      go_wp2_with (first | (go_at_call 161;(with_reducible refine (HK.out _).mono ?_);rintro e w1 ⟨rfl,rfl⟩) | (go_at_call 93;(with_reducible refine (HD.out _).mono ?_);rintro e w1 ⟨rfl,rfl⟩) | (go_at_call 162;(with_reducible refine (HL.out _ HR.out.alloc).mono ?_);rintro e w1 ⟨rfl,bs,dr,rfl⟩))
      go_ret
      exact ⟨by rw [HE2.out] <;> rfl,((Mor.refl _).alloc).more⟩
def ltB (a b:ByteArray):Bool:=Op.bytesLess a.toList b.toList
def acAt (xs:List Ln) (i:Nat):Int :=
  if codeB (cd xs i)=false then 3 else if am xs i < 0∨4 < am xs i then 1 else if 0 < i∧ltB (cd xs (i - 1)) (cd xs i)=false then 3 else 0
def acUp (xs:List Ln):Nat→Int
  | 0=>0
  | k+1=>if acUp xs k≠0 then acUp xs k else acAt xs k
theorem acUp_bad {xs:List Ln} {k n:Nat} (h:acUp xs k=0) (hb:acAt xs k≠0) (hk:k < n):acUp xs n=acAt xs k:=by
  induction n with
  | zero=>omega
  | succ n ih =>
    by_cases e:k=n
    · subst e
      show (if acUp xs k≠0 then acUp xs k else acAt xs k)=_
      rw [if_neg (by simp [h])]
    · show (if acUp xs n≠0 then acUp xs n else acAt xs n)=_
      rw [ih (by omega),if_pos hb]
theorem acUp_ok {xs:List Ln} {k:Nat} (h:acUp xs k=0) (hb:acAt xs k=0):acUp xs (k+1)=0:=by
  show (if acUp xs k≠0 then acUp xs k else acAt xs k)=0
  rw [if_neg (by simp [h]),hb]
theorem acUp_at {xs:List Ln} {k n:Nat} (h:acUp xs n=0) (hk:k < n):acAt xs k=0:=by
  induction n with
  | zero=>omega
  | succ n ih =>
    have h':(if acUp xs n≠0 then acUp xs n else acAt xs n)=0:=h
    by_cases e:acUp xs n=0
    · rw [if_neg (by simp [e])] at h'
      by_cases e2:k=n
      · subst e2;exact h'
      · exact ih e (by omega)
    · rw [if_pos e] at h';exact absurd h' e
def acc (xs:List Ln):Int:=if 24 < xs.length then 2 else acUp xs xs.length
set_option maxRecDepth 100000 in
set_option maxHeartbeats 3200000 in
theorem acct_any (A:Option Addr) (n cap:Nat) (xs:List Ln) (w:World) (hr:Si w A xs) (hn:xs.length=n) (hml:n≤maxLen) (hs:∀ i,i < n→(cd xs i).size≤maxLen) :
    Calls Tryz.prog 116 #[.slice A n cap] w fun e w'=>e=.returned (.int .i64 (acc xs))∧Mor w w':=by
  unfold maxLen at hml
  have HR:=Lib.hid hr
  have HN:=Lib.hid hn
  have HS:=Lib.hid hs
  clear hr hs
  by_cases h12:24 < n
  · have HL:=Lib.hid (show acc xs=2 by unfold acc;rw [hn,if_pos h12])
    clear hn
    go_enter Tryz.func116,Tryz.ntmps116
    go_wp2
    go_ret
    exact ⟨by rw [HL.out] <;> rfl,Mor.refl _⟩
  · have HL:=Lib.hid (show acc xs=acUp xs n by unfold acc;rw [hn,if_neg h12])
    have h12':n≤24:=by omega
    clear hn h12
    go_enter Tryz.func116,Tryz.ntmps116
    go_wp2
    go_loopw [10] (fun i wr=>∃ k:Nat,k≤n∧i=.int .i64 k∧Hid (acUp xs k=0)∧Hid (Mor w wr)) (fun i _=>n - (intOf i).toNat)
    case atStart=>exact ⟨0,Nat.zero_le _,rfl,Lib.hid rfl,Lib.hid (Mor.refl _)⟩
    case round =>
      obtain ⟨k,hk,rfl,HU,HM⟩:=hrel
      by_cases hlt:k < n
      · have hki:(k:Int) < (n:Int):=by omega
        have hk0:(0:Int)≤(k:Int):=by omega
        obtain ⟨x,hA,hxb,c1,c2⟩:=(HR.out.mor HM.out).at_ k (by have:=HN.out;omega)
        subst hA
        have HCo:=Lib.hid (fun w=>code_any (cd xs k) w (HS.out k hlt))
        have HBad:=Lib.hid (fun h:acAt xs k≠0=>show acc xs=acAt xs k by rw [HL.out,acUp_bad HU.out h hlt])
        have HAt:=Lib.hid (show acAt xs k=if codeB (cd xs k)=false then 3 else if am xs k < 0∨4 < am xs k then 1 else if 0 < k∧ltB (cd xs (k - 1)) (cd xs k)=false then 3 else 0 from rfl)
        have HOk:=Lib.hid (fun h:acAt xs k=0=>acUp_ok HU.out h)
        obtain ⟨s',hs'⟩:∃ s',cd xs (k - 1)=s':=⟨_,rfl⟩
        have HP:=Lib.hid (fun h:0 < k=>show (wr.alloc (.cells #[.string (cd xs k),.int .i64 (am xs k)] 144)).cell? (x.add ((k - 1)*2))=some (.string s') from by
          obtain ⟨y,hA,_,d1,_⟩:=((HR.out.mor HM.out).mor (Mor.refl _).alloc).at_ (k - 1) (by have:=HN.out;omega)
          injection hA with hA
          subst hA
          rw [d1,hs'])
        rw [hs'] at HAt
        clear hs'
        generalize cd xs k=s at *
        generalize am xs k=a at *
        cases hcb:codeB s
        · rw [hcb] at HCo HAt
          have HF:=Lib.hid (show acc xs=3 by
            have e:acAt xs k=3:=by rw [HAt.out];rfl
            rw [HBad.out (by omega),e])
          clear hcb
          go_wp2_with ((go_at_call 160;(with_reducible refine (HCo.out _).mono ?_);rintro e w1 ⟨rfl,rfl⟩))
          go_ret
          exact ⟨by rw [HF.out] <;> rfl,HM.out.alloc⟩
        · rw [hcb] at HCo HAt
          clear hcb
          have hcase:a < 0∨4 < a∨(0≤a∧a≤4):=by omega
          rcases hcase with ha | ha | ⟨a1,a2⟩
          · have HF:=Lib.hid (show acc xs=1 by
              have e:acAt xs k=1:=by rw [HAt.out,if_neg (by simp),if_pos (.inl ha)]
              rw [HBad.out (by omega),e])
            go_wp2_with ((go_at_call 160;(with_reducible refine (HCo.out _).mono ?_);rintro e w1 ⟨rfl,rfl⟩))
            go_ret
            exact ⟨by rw [HF.out] <;> rfl,HM.out.alloc⟩
          · have HF:=Lib.hid (show acc xs=1 by
              have e:acAt xs k=1:=by rw [HAt.out,if_neg (by simp),if_pos (.inr ha)]
              rw [HBad.out (by omega),e])
            go_wp2_with ((go_at_call 160;(with_reducible refine (HCo.out _).mono ?_);rintro e w1 ⟨rfl,rfl⟩))
            go_ret
            exact ⟨by rw [HF.out] <;> rfl,HM.out.alloc⟩
          · have HAt2:=Lib.hid (show acAt xs k=if 0 < k∧ltB s' s=false then 3 else 0 by rw [HAt.out,if_neg (by simp),if_neg (by omega)])
            by_cases hk1:0 < k
            · obtain ⟨j,rfl⟩:∃ j,k=j+1:=⟨k - 1,by omega⟩
              have c3:=HP.out hk1
              simp only [Nat.add_sub_cancel] at c3
              have hjn:(0:Int)≤(j:Int):=by omega
              have kw1:IntKind.i64.wrap (j:Int)=(j:Int):=IntWalk.i64_in _ (by omega)
              have kw2:IntKind.i64.wrap ((j:Int)+1 - 1)=(j:Int):=by rw [show (j:Int)+1 - 1=j by omega];exact kw1
              have hjn2:(j:Int) < (n:Int):=by omega
              cases hlt2:ltB s' s
              · have HF:=Lib.hid (show acc xs=3 by
                  have e:acAt xs (j+1)=3:=by rw [HAt2.out,if_pos ⟨hk1,hlt2⟩]
                  rw [HBad.out (by omega),e])
                have hl:Op.bytesLess s'.toList s.toList=false:=hlt2
                clear hlt2
                go_wp2_with ((go_at_call 160;(with_reducible refine (HCo.out _).mono ?_);rintro e w1 ⟨rfl,rfl⟩))
                go_quiet (fail)
                go_wp2_with fail
                go_ret
                exact ⟨by rw [HF.out] <;> rfl,(HM.out.alloc).drewN⟩
              · have HG:=Lib.hid (HOk.out (by rw [HAt2.out,if_neg (by simp [hlt2])]))
                have hl:Op.bytesLess s'.toList s.toList=true:=hlt2
                clear hlt2
                go_wp2_with ((go_at_call 160;(with_reducible refine (HCo.out _).mono ?_);rintro e w1 ⟨rfl,rfl⟩))
                go_quiet (fail)
                go_wp2_with fail
                go_roundw
                case rel=>exact ⟨j+1+1,by omega,by go_num,HG,Lib.hid (HM.out.alloc).drewN⟩
                case measure=>simp [intOf];omega
            · have hk2:k=0:=by omega
              subst hk2
              simp [Addr.add] at c1 c2
              have HG:=Lib.hid (HOk.out (by rw [HAt2.out,if_neg (by omega)]))
              go_wp2_with ((go_at_call 160;(with_reducible refine (HCo.out _).mono ?_);rintro e w1 ⟨rfl,rfl⟩))
              go_quiet (fail)
              go_wp2_with fail
              go_roundw
              case rel=>exact ⟨0+1,by omega,by go_num,HG,Lib.hid (HM.out.alloc).drewN⟩
              case measure=>simp [intOf];omega
      · obtain rfl:k=n:=by omega
        go_wp2
        go_ret
        exact ⟨by rw [HL.out,HU.out] <;> rfl,HM.out⟩
end Go.Proofs.YtdhbkifpodekcaaGreatDoor
