/- Texts of this claim. -/
import Derived.Test.YtdhbkifpodekcaaGreatDoorDeskZ4
import Derived.Deep.SlicePairs
import Derived.Deep.Slices
import Derived.Deep.Strs
namespace Go.Proofs.YtdhbkifpodekcaaGreatDoor
open Go.ChangeShapes Go.WideShapes Go.ChangeAt Go.RowKit Go.PlainAid
set_option linter.unusedVariables false
structure Lq (w:World) (A:Option Addr) (n c:Nat) (xs:List Ln):Prop where
  si:Si w A xs
  length:xs.length=n
  le:n≤c
  max:c≤maxLen
  nil:A=none→n=0
  str:∀ i,i < n→(cd xs i).size≤maxLen
theorem Lq.mor {w w':World} {A:Option Addr} {n c:Nat} {xs:List Ln} (h:Lq w A n c xs) (hm:Mor w w'):Lq w' A n c xs :=
  ⟨h.si.mor hm,h.length,h.le,h.max,h.nil,h.str⟩
def Es (w:World) (X:Option Addr) (es:List En):Prop :=
  es=[]∨∃ x,X=some x∧x.block < w.heap.size∧∀ i,i < es.length→(ne es i).key.size≤maxLen∧∃ A n c,w.cell? (x.add (i*3))=some (.string (ne es i).key) ∧
    w.cell? ⟨(x.add (i*3)).block,(x.add (i*3)).off+1,none⟩=some (.int .i64 (ne es i).day)∧w.cell? ⟨(x.add (i*3)).block,(x.add (i*3)).off+2,none⟩=some (.slice A n c)∧Lq w A n c (ne es i).ls
theorem Es.mor {w w':World} {X:Option Addr} {es:List En} (h:Es w X es) (hm:Mor w w'):Es w' X es:=by
  rcases h with h | ⟨x,e,hb,hc⟩
  · exact .inl h
  · have hB:=hm.below
    refine .inr ⟨x,e,by have:=hB.size;omega,fun i hi=>?_⟩
    obtain ⟨hk,A,n,c,c1,c2,c3,hl⟩:=hc i hi
    exact ⟨hk,A,n,c,(hB.cell (p:=x.add (i*3)) (by rw [addb];exact hb)).trans c1,(hB.cell (p:=⟨(x.add (i*3)).block,(x.add (i*3)).off+1,none⟩) (by rw [addb];exact hb)).trans c2,
      (hB.cell (p:=⟨(x.add (i*3)).block,(x.add (i*3)).off+2,none⟩) (by rw [addb];exact hb)).trans c3,hl.mor hm⟩
theorem Es.at_ {w:World} {X:Option Addr} {es:List En} (h:Es w X es) (i:Nat) (hi:i < es.length) :
    ∃ x A n c,X=some x∧x.block < w.heap.size∧(ne es i).key.size≤maxLen∧w.cell? (x.add (i*3))=some (.string (ne es i).key) ∧
      w.cell? ⟨(x.add (i*3)).block,(x.add (i*3)).off+1,none⟩=some (.int .i64 (ne es i).day)∧w.cell? ⟨(x.add (i*3)).block,(x.add (i*3)).off+2,none⟩=some (.slice A n c)∧Lq w A n c (ne es i).ls:=by
  rcases h with h | ⟨x,e,hb,hc⟩
  · subst h;simp at hi
  · obtain ⟨hk,A,n,c,c1,c2,c3,hl⟩:=hc i hi
    exact ⟨x,A,n,c,e,hb,hk,c1,c2,c3,hl⟩
structure Bq (w:World) (A:Option Addr) (n c:Nat) (X:Option Addr) (m k:Nat) (b:Bok):Prop where
  ac:Lq w A n c b.ac
  es:Es w X b.en
  length:b.en.length=m
  le:m≤k
  max:k≤maxLen
  nil:X=none→m=0
theorem Bq.mor {w w':World} {A:Option Addr} {n c:Nat} {X:Option Addr} {m k:Nat} {b:Bok} (h:Bq w A n c X m k b) (hm:Mor w w'):Bq w' A n c X m k b :=
  ⟨h.ac.mor hm,h.es.mor hm,h.length,h.le,h.max,h.nil⟩
abbrev bv (A:Option Addr) (n c:Nat) (X:Option Addr) (m k:Nat) (s:Int):Value:=.agg #[.slice A n c,.slice X m k,.int .i64 s]
set_option maxRecDepth 20000
instance : Inhabited En := ⟨en0⟩
end Go.Proofs.YtdhbkifpodekcaaGreatDoor
namespace Go.Proofs.YtdhbkifpodekcaaGreatDoor
open Go.ChangeShapes Go.WideShapes Go.ChangeAt Go.RowKit Go.PlainAid
set_option linter.unusedVariables false
set_option maxRecDepth 100000
theorem fidx_at {p:Nat→Bool} {n k:Nat} (h:∀ j,j < k→p j=false) (hk:k < n) (hp:p k=true):fidx p 0 n=k:=by
  rcases fidx_spec p n 0 with ⟨_,hn⟩ | ⟨i,e,_,h2,h3,h4⟩
  · have:=hn k (by omega) (by omega);rw [hp] at this;cases this
  · rw [e]
    rcases Nat.lt_trichotomy i k with hlt | hlt | hlt
    · have:=h i hlt;rw [h3] at this;cases this
    · rw [hlt]
    · have:=h4 k (by omega) hlt;rw [hp] at this;cases this
theorem fidx_no {p:Nat→Bool} {n:Nat} (h:∀ j,j < n→p j=false):fidx p 0 n=-1:=by
  rcases fidx_spec p n 0 with ⟨e,_⟩ | ⟨i,e,_,h2,h3,h4⟩
  · exact e
  · have:=h i (by omega);rw [h3] at this;cases this
set_option maxHeartbeats 1600000 in
theorem index_ac (g:Nat) (cb:Array Value) (A:Option Addr) (n cap:Nat) (xs:List Ln) (p:Nat→Bool) (w:World) (eg:∀ args w,(callFunc g args).run Tryz.prog w=.ok (.enter g args) w) (hr:Si w A xs) (hn:n≤xs.length) (hl:n≤1000) (hf:SaysL w g cb xs p) :
    Calls Tryz.prog 196 #[.slice A n cap,.func (.func g) #[] cb] w fun e w'=>e=.returned (.int .i64 (fidx p 0 n))∧Mor w w':=by
  have HF:=Lib.hid hf
  have HR:=Lib.hid hr
  have HN:=Lib.hid hn
  clear hf hr hn
  go_enter Tryz.func196,Tryz.ntmps196
  go_wp2
  go_loopw [8] (fun i wr=>∃ k:Nat,k≤n∧i=.int .i64 k∧Hid (∀ j,j < k→p j=false)∧Hid (Mor w wr)) (fun i _=>n - (intOf i).toNat)
  case atStart=>exact ⟨0,Nat.zero_le _,rfl,Lib.hid (fun j hj=>absurd hj (by omega)),Lib.hid (Mor.refl _)⟩
  case round =>
    obtain ⟨k,hk,rfl,HA,HM⟩:=hrel
    by_cases hlt:k < n
    · have hki:(k:Int) < (n:Int):=by omega
      have hk0:(0:Int)≤(k:Int):=by omega
      obtain ⟨x,hA,hxb,c1,c2⟩:=(HR.out.mor HM.out).at_ k (by have:=HN.out;omega)
      subst hA
      have hc:=HF.out k wr (by have:=HN.out;omega) HM.out
      generalize cd xs k=s at *
      generalize am xs k=a at *
      cases hp:p k <;> rw [hp] at hc
      · have HG:=Lib.hid (show ∀ j,j < k+1→p j=false from fun j hj=>by
          by_cases e:j=k
          · subst e;exact hp
          · exact HA.out j (by omega))
        clear hp
        go_wp2_with (go_at_fn g;refine hc.mono ?_;rintro e w' ⟨rfl,hmw⟩)
        have HM':=Lib.hid (Mor.trans' HM.out hmw)
        clear hmw
        go_roundw
        case rel=>exact ⟨k+1,by omega,by go_num,HG,HM'⟩
        case measure=>simp [intOf];omega
      · have HP:=Lib.hid (fidx_at HA.out hlt hp)
        clear hp
        go_wp2_with (go_at_fn g;refine hc.mono ?_;rintro e w' ⟨rfl,hmw⟩)
        have HM':=Lib.hid (Mor.trans' HM.out hmw)
        clear hmw
        go_ret
        exact ⟨by rw [HP.out] <;> rfl,HM'.out⟩
    · obtain rfl:k=n:=by omega
      have HP:=Lib.hid (fidx_no HA.out)
      go_wp2
      go_ret
      exact ⟨by rw [HP.out] <;> rfl,HM.out⟩
def SaysE (w:World) (g:Nat) (cb:Array Value) (es:List En) (p:Nat→Bool):Prop :=
  ∀ (i:Nat) (w1:World) (A:Option Addr) (n c:Nat),i < es.length→Mor w w1→Calls Tryz.prog g (#[.agg #[.string (ne es i).key,.int .i64 (ne es i).day,.slice A n c]]++cb) w1 fun e w'=>e=.returned (.bool (p i))∧Mor w1 w'
set_option maxHeartbeats 1600000 in
theorem index_en (g:Nat) (cb:Array Value) (X:Option Addr) (n cap:Nat) (es:List En) (p:Nat→Bool) (w:World) (eg:∀ args w,(callFunc g args).run Tryz.prog w=.ok (.enter g args) w) (hr:Es w X es) (hn:n≤es.length) (hl:n≤1000) (hf:SaysE w g cb es p) :
    Calls Tryz.prog 163 #[.slice X n cap,.func (.func g) #[] cb] w fun e w'=>e=.returned (.int .i64 (fidx p 0 n))∧Mor w w':=by
  have HF:=Lib.hid hf
  have HR:=Lib.hid hr
  have HN:=Lib.hid hn
  clear hf hr hn
  go_enter Tryz.func163,Tryz.ntmps163
  go_wp2
  go_loopw [8] (fun i wr=>∃ k:Nat,k≤n∧i=.int .i64 k∧Hid (∀ j,j < k→p j=false)∧Hid (Mor w wr)) (fun i _=>n - (intOf i).toNat)
  case atStart=>exact ⟨0,Nat.zero_le _,rfl,Lib.hid (fun j hj=>absurd hj (by omega)),Lib.hid (Mor.refl _)⟩
  case round =>
    obtain ⟨k,hk,rfl,HA,HM⟩:=hrel
    by_cases hlt:k < n
    · have hki:(k:Int) < (n:Int):=by omega
      have hk0:(0:Int)≤(k:Int):=by omega
      obtain ⟨x,A,m,c,hX,hxb,hks,c1,c2,c3,hq⟩:=(HR.out.mor HM.out).at_ k (by have:=HN.out;omega)
      subst hX
      have hc:=HF.out k wr A m c (by have:=HN.out;omega) HM.out
      clear hks hq
      generalize (ne es k).key=s at *
      generalize (ne es k).day=a at *
      cases hp:p k <;> rw [hp] at hc
      · have HG:=Lib.hid (show ∀ j,j < k+1→p j=false from fun j hj=>by
          by_cases e:j=k
          · subst e;exact hp
          · exact HA.out j (by omega))
        clear hp
        go_wp2_with (go_at_fn g;refine hc.mono ?_;rintro e w' ⟨rfl,hmw⟩)
        have HM':=Lib.hid (Mor.trans' HM.out hmw)
        clear hmw
        go_roundw
        case rel=>exact ⟨k+1,by omega,by go_num,HG,HM'⟩
        case measure=>simp [intOf];omega
      · have HP:=Lib.hid (fidx_at HA.out hlt hp)
        clear hp
        go_wp2_with (go_at_fn g;refine hc.mono ?_;rintro e w' ⟨rfl,hmw⟩)
        have HM':=Lib.hid (Mor.trans' HM.out hmw)
        clear hmw
        go_ret
        exact ⟨by rw [HP.out] <;> rfl,HM'.out⟩
    · obtain rfl:k=n:=by omega
      have HP:=Lib.hid (fidx_no HA.out)
      go_wp2
      go_ret
      exact ⟨by rw [HP.out] <;> rfl,HM.out⟩
set_option maxHeartbeats 400000 in
theorem clo_ac (g:Nat) (s s':ByteArray) (n':Int) (w:World) (hc:w.cell? ⟨g,0,none⟩=some (.string s)) (hg:g < w.heap.size) :
    Calls Tryz.prog 197 #[.agg #[.string s',.int .i64 n'],.pointer (some ⟨g,0,none⟩)] w fun e w'=>e=.returned (.bool (decide (s'=s)))∧Mor w w':=by
  go_enter Tryz.func197,Tryz.ntmps197
  go_wp2
  go_ret
  exact ⟨by simp [str_eq],by repeat (first | exact Mor.refl _ | apply Mor.alloc | apply Mor.more | apply Mor.drewN | apply Mor.drew)⟩
theorem str_cell (W w1:World) (s:ByteArray) (t:TypeId) (hm:Mor (W.alloc (.cells #[.string s] t)) w1):w1.cell? ⟨W.heap.size,0,none⟩=some (.string s)∧W.heap.size < w1.heap.size:=by
  have hB:=(Bk.new W t #[.string s]).mor hm
  exact ⟨by rw [hB.cell];rfl,hB.lt⟩
theorem says_ac (W:World) (s:ByteArray) (xs:List Ln):SaysL (W.alloc (.cells #[.string s] 9)) 197 #[.pointer (some ⟨W.heap.size,0,none⟩)] xs (fun j=>decide (cd xs j=s)):=by
  intro i w1 hi hm
  obtain ⟨h1,h2⟩:=str_cell _ _ _ _ hm
  exact clo_ac W.heap.size s (cd xs i) (am xs i) w1 h1 h2
set_option maxHeartbeats 400000 in
theorem find_ac (A:Option Addr) (n cap:Nat) (xs:List Ln) (s:ByteArray) (w:World) (hr:Si w A xs) (hn:xs.length=n) (hl:n≤1000) :
    Calls Tryz.prog 168 #[.slice A n cap,.string s] w fun e w'=>e=.returned (.int .i64 (findA xs s))∧Mor w w':=by
  have HI:=Lib.hid (index_ac 197 #[.pointer (some ⟨w.heap.size,0,none⟩)] A n cap xs (fun j=>decide (cd xs j=s)) (w.alloc (.cells #[.string s] 9)) (fun _ _=>rfl) (hr.mor (Mor.refl _).alloc) (by omega) hl (says_ac w s xs))
  have HE:=Lib.hid (show fidx (fun j=>decide (cd xs j=s)) 0 n=findA xs s by rw [← hn];rfl)
  rw [HE.out] at HI
  clear hr hn HE
  generalize findA xs s=r at *
  go_enter Tryz.func168,Tryz.ntmps168
  go_wp2_with fail
  refine HI.out.mono ?_
  rintro e w1 ⟨rfl,hm⟩
  go_wp2_with fail
  go_ret
  exact ⟨rfl,(Mor.refl _).alloc.trans' hm⟩
set_option maxHeartbeats 400000 in
theorem clo_en (g:Nat) (s s':ByteArray) (d:Int) (A:Option Addr) (n c:Nat) (w:World) (hc:w.cell? ⟨g,0,none⟩=some (.string s)) (hg:g < w.heap.size) :
    Calls Tryz.prog 164 #[.agg #[.string s',.int .i64 d,.slice A n c],.pointer (some ⟨g,0,none⟩)] w fun e w'=>e=.returned (.bool (decide (s'=s)))∧Mor w w':=by
  go_enter Tryz.func164,Tryz.ntmps164
  go_wp2
  go_ret
  exact ⟨by simp [str_eq],by repeat (first | exact Mor.refl _ | apply Mor.alloc | apply Mor.more | apply Mor.drewN | apply Mor.drew)⟩
theorem says_en (W:World) (s:ByteArray) (es:List En):SaysE (W.alloc (.cells #[.string s] 9)) 164 #[.pointer (some ⟨W.heap.size,0,none⟩)] es (fun j=>decide ((ne es j).key=s)):=by
  intro i w1 A n c hi hm
  obtain ⟨h1,h2⟩:=str_cell _ _ _ _ hm
  exact clo_en W.heap.size s (ne es i).key (ne es i).day A n c w1 h1 h2
theorem sz1 (w:World) (o:Obj):w.heap.size+1=(w.alloc o).heap.size:=by show _=(w.heap.push _).size;simp
theorem index_en_at {W:World} {s:ByteArray} {X:Option Addr} {m k g:Nat} {es:List En} (hr:Es W X es) (hn:es.length=m) (hl:m≤1000) (hg:g=W.heap.size) :
    Calls Tryz.prog 163 #[.slice X m k,.func (.func 164) #[] #[.pointer (some ⟨g,0,none⟩)]] (W.alloc (.cells #[.string s] 9)) fun e w'=>e=.returned (.int .i64 (findE es s))∧Mor (W.alloc (.cells #[.string s] 9)) w':=by
  subst hg
  have h:=index_en 164 #[.pointer (some ⟨W.heap.size,0,none⟩)] X m k es (fun j=>decide ((ne es j).key=s)) (W.alloc (.cells #[.string s] 9)) (fun _ _=>rfl) (hr.mor (Mor.refl _).alloc) (by omega) hl (says_en W s es)
  have e:fidx (fun j=>decide ((ne es j).key=s)) 0 m=findE es s:=by rw [← hn];rfl
  rw [e] at h
  exact h
set_option maxHeartbeats 800000 in
theorem find_en (A:Option Addr) (n c:Nat) (X:Option Addr) (m k:Nat) (sh:Int) (es:List En) (s:ByteArray) (w:World) (hr:Es w X es) (hn:es.length=m) (hl:m≤1000) :
    Calls Tryz.prog 119 #[bv A n c X m k sh,.string s] w fun e w'=>e=.returned (.int .i64 (findE es s))∧Mor w w':=by
  have HI:=Lib.hid (fun W (h:Mor w W) g hg=>index_en_at (s:=s) (k:=k) (g:=g) (hr.mor h) hn hl hg)
  clear hr hn
  generalize findE es s=r at *
  go_enter Tryz.func119,Tryz.ntmps119
  go_wp2_with fail
  refine (HI.out _ (Mor.refl _).alloc _ (sz1 _ _)).mono ?_
  rintro e w1 ⟨rfl,hm⟩
  have HM:=Lib.hid (((Mor.refl w).alloc.alloc).trans' hm)
  clear hm
  go_wp2_with fail
  go_ret
  exact ⟨rfl,HM.out⟩
set_option maxHeartbeats 400000 in
theorem cmpstr_any (a b:ByteArray) (w:World) :
    Calls Tryz.prog 159 #[.string a,.string b] w fun e w'=>e=.returned (.int .i64 (Lib.compareBytes a.data.toList b.data.toList))∧w=w':=by
  go_enter Tryz.func159,Tryz.ntmps159
  go_wp2_with fail
  rw [run_callFunc_extern Tryz.func193 (by kernel_rfl) (by kernel_rfl) (by kernel_rfl) (e:=Extern.BytealgCompare.compare) (by kernel_rfl),Lib.run_compareString]
  simp only [Result.andThen]
  rw [Oper.upon_value]
  go_wp2
  go_ret
  exact ⟨rfl,rfl⟩
set_option maxHeartbeats 400000 in
theorem strcmp_any (a b:ByteArray) (w:World) :
    Calls Tryz.prog 115 #[.string a,.string b] w fun e w'=>e=.returned (.int .i64 (Lib.compareBytes a.data.toList b.data.toList))∧w=w':=by
  have HC:=Lib.hid (fun w=>cmpstr_any a b w)
  generalize Lib.compareBytes a.data.toList b.data.toList=r at *
  go_enter Tryz.func115,Tryz.ntmps115
  go_wp2_with (go_at_call 159;(with_reducible refine (HC.out _).mono ?_);rintro e w1 ⟨rfl,rfl⟩)
  go_ret
  exact ⟨rfl,rfl⟩
set_option maxHeartbeats 800000 in
theorem cmp_any (x y:En) (A:Option Addr) (n c:Nat) (B:Option Addr) (m k:Nat) (w:World) (h1:0≤x.day) (h2:x.day≤292193) (h3:0≤y.day) (h4:y.day≤292193) :
    Calls Tryz.prog 125 #[.agg #[.string x.key,.int .i64 x.day,.slice A n c],.agg #[.string y.key,.int .i64 y.day,.slice B m k]] w fun e w'=>e=.returned (.int .i64 (cmpE x y))∧Mor w w':=by
  have HSC:=Lib.hid (fun w=>strcmp_any x.key y.key w)
  have HC:=Lib.hid (show cmpE x y=if x.day=y.day then Lib.compareBytes x.key.data.toList y.key.data.toList else x.day - y.day from rfl)
  generalize cmpE x y=r at *
  generalize x.day=d at *
  generalize y.day=d' at *
  generalize x.key=s at *
  generalize y.key=s' at *
  by_cases hd:d=d'
  · subst hd
    rw [if_pos rfl] at HC
    go_enter Tryz.func125,Tryz.ntmps125
    generalize Lib.compareBytes s.data.toList s'.data.toList=q at *
    go_wp2_with (go_at_call 115;(with_reducible refine (HSC.out _).mono ?_);rintro e w1 ⟨rfl,rfl⟩)
    go_ret
    exact ⟨by rw [HC.out] <;> rfl,by repeat (first | exact Mor.refl _ | apply Mor.alloc | apply Mor.more | apply Mor.drewN | apply Mor.drew)⟩
  · rw [if_neg hd] at HC
    have hb:(d != d')=true:=by simpa using hd
    have ew:IntKind.i64.wrap (d - d')=d - d':=IntWalk.i64_in _ (by omega)
    go_enter Tryz.func125,Tryz.ntmps125
    go_wp2_with fail
    go_ret
    exact ⟨by rw [HC.out] <;> rfl,by repeat (first | exact Mor.refl _ | apply Mor.alloc | apply Mor.more | apply Mor.drewN | apply Mor.drew)⟩
end Go.Proofs.YtdhbkifpodekcaaGreatDoor
namespace Go.Proofs.YtdhbkifpodekcaaGreatDoor
open Go Go.ChangeShapes Go.WideShapes Go.ChangeAt Go.RowKit Go.PlainAid
set_option linter.unusedVariables false
set_option maxRecDepth 100000
theorem drewN2 (w:World) (m n:Nat):(w.drewN m).drewN n=w.drewN (m+n):=by simp [World.drewN,Nat.add_assoc]
def eqUp (xs ys:List Ln) (k:Nat):Prop:=∀ i,i < k→cd xs i=cd ys i∧am xs i=am ys i
theorem eq_of_up {xs ys:List Ln} {n:Nat} (h1:xs.length=n) (h2:ys.length=n) (h:eqUp xs ys n):xs=ys:=by
  apply List.ext_getElem (by omega)
  intro i hi hj
  obtain ⟨a,b⟩:=h i (by omega)
  rw [(cd_at xs i hi).1,(cd_at ys i hj).1] at a
  rw [(cd_at xs i hi).2,(cd_at ys i hj).2] at b
  exact Prod.ext a b
theorem up_of_ne {xs ys:List Ln} {k:Nat} (h:¬ (cd xs k=cd ys k∧am xs k=am ys k)):xs≠ys:=fun e=>h (by subst e;exact ⟨rfl,rfl⟩)
set_option maxRecDepth 100000 in
set_option maxHeartbeats 1600000 in
theorem equal_dec (A A':Option Addr) (n c n' c':Nat) (xs ys:List Ln) (w:World) (hr:Si w A xs) (hr':Si w A' ys) (hn:xs.length=n) (hn':ys.length=n') (hl:n≤maxLen) :
    Calls Tryz.prog 165 #[.slice A n c,.slice A' n' c'] w fun e w'=>e=.returned (.bool (decide (xs=ys)))∧∃ k,w'=w.drewN k:=by
  unfold maxLen at hl
  have HR:=Lib.hid hr
  have HR':=Lib.hid hr'
  have HN:=Lib.hid hn
  have HN':=Lib.hid hn'
  clear hr hr' hn hn'
  by_cases hnn:n=n'
  · subst hnn
    go_enter Tryz.func165,Tryz.ntmps165
    go_wp2
    go_loopw [13] (fun i wr=>∃ k m:Nat,k≤n∧i=.int .i64 k∧Hid (eqUp xs ys k)∧wr=w.drewN m) (fun i _=>n - (intOf i).toNat)
    case atStart=>exact ⟨0,0,Nat.zero_le _,rfl,Lib.hid (fun i hi=>absurd hi (Nat.not_lt_zero _)),rfl⟩
    case round =>
      obtain ⟨k,m,hk,rfl,HU,rfl⟩:=hrel
      by_cases hlt:k < n
      · obtain ⟨x,hA,hxb,c1,c2⟩:=HR.out.at_ k (by rw [HN.out];exact hlt)
        obtain ⟨y,hA',hyb,d1,d2⟩:=HR'.out.at_ k (by rw [HN'.out];exact hlt)
        subst hA hA'
        have HNe:=Lib.hid (fun h:¬ (cd xs k=cd ys k∧am xs k=am ys k)=>up_of_ne h)
        have HYe:=Lib.hid (fun h:(cd xs k=cd ys k∧am xs k=am ys k)=>show eqUp xs ys (k+1) from fun i hi=>by
          by_cases e:i=k
          · subst e;exact h
          · exact HU.out i (by omega))
        generalize cd xs k=s at *
        generalize am xs k=a at *
        generalize cd ys k=t at *
        generalize am ys k=b at *
        have hi:((k:Nat):Int) < (n:Int):=by omega
        by_cases he:s=t∧a=b
        · have HY:=Lib.hid (HYe.out he)
          obtain ⟨rfl,rfl⟩:=he
          go_wp2
          go_quiet (fail)
          go_wp2
          go_roundw
          case rel=>exact ⟨k+1,_,by omega,by go_num,HY,rfl⟩
          case measure=>simp [intOf];omega
        · have HF:=Lib.hid (decide_eq_false (HNe.out he))
          by_cases hs:s=t
          · subst hs
            have hab:(a == b)=false:=by
              cases h:(a == b)
              · rfl
              · simp at h;exact absurd ⟨rfl,h⟩ he
            go_wp2
            go_quiet (fail)
            go_wp2
            go_ret
            exact ⟨by rw [HF.out] <;> rfl,_,drewN2 _ _ _⟩
          · have hst:(s.toList == t.toList)=false:=by rw [str_eq];exact decide_eq_false hs
            go_wp2
            go_quiet (fail)
            go_wp2
            go_ret
            exact ⟨by rw [HF.out] <;> rfl,_,drewN2 _ _ _⟩
      · have e:k=n:=by omega
        subst e
        have HF:=Lib.hid (decide_eq_true (eq_of_up HN.out HN'.out HU.out))
        go_wp2
        go_ret
        exact ⟨by rw [HF.out] <;> rfl,_,rfl⟩
  · have HF:=Lib.hid (decide_eq_false (show xs≠ys from fun e=>hnn (by rw [← HN.out,← HN'.out,e])))
    have hb:((n:Int) != (n':Int))=true:=by simp;omega
    go_enter Tryz.func165,Tryz.ntmps165
    go_wp2
    go_ret
    exact ⟨by rw [HF.out] <;> rfl,0,rfl⟩
theorem en_eq (x y:En):decide (x=y)=(decide (x.key=y.key) && decide (x.day=y.day) && decide (x.ls=y.ls)):=by
  by_cases h1:x.key=y.key <;> by_cases h2:x.day=y.day <;> by_cases h3:x.ls=y.ls
  · rw [decide_eq_true (En.eq h1 h2 h3)];simp [h1,h2,h3]
  all_goals (rw [decide_eq_false (fun e=>by subst e;first | exact h1 rfl | exact h2 rfl | exact h3 rfl)];simp [h1,h2,h3])
end Go.Proofs.YtdhbkifpodekcaaGreatDoor
