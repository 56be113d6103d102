/- Texts of this claim. -/
import Derived.Test.YtdhbkifpodekcaaGreatDoorDeskZ23
import Derived.Test.YtdhbkifpodekcaaGreatDoorDeskZ33
import Derived.Laws.BytesArg
namespace Go.Proofs.YtdhbkifpodekcaaGreatDoor
open Go.ChangeShapes Go.WideShapes Go.ChangeAt Go.RowKit Go.PlainAid
set_option linter.unusedVariables false
set_option maxRecDepth 100000
def partP (p:Pln) (k:Nat):Int:=if p.kind=1 then dgP p.amt p.num k else stP p.amt p.num k
def two (k:Nat):ByteArray:={ data:=#[UInt8.ofNat (48+k / 10),UInt8.ofNat (48+k % 10)] }
def pk (s:ByteArray) (k:Nat):ByteArray:=s++dash++two k
set_option maxRecDepth 100000 in
set_option maxHeartbeats 800000 in
theorem jkey_any (p:Pln) (k:Nat) (w:World) (hk:k < 40) (hs:p.key.size≤12) :
    Calls Tryz.prog 174 #[pv p,.int .i64 k] w fun e w'=>e=.returned (.string (pk p.key k))∧Mor w w':=by
  obtain ⟨key,kind,frm,amt,num,deb,cre⟩:=p
  have hcv:∀ o,(convert 42 9 (.slice (some ⟨w.heap.size+1,0,none⟩) 2 2)).run Tryz.prog ((w.alloc o).alloc (.cells #[.int .u8 (48+(k:Int) / 10),.int .u8 (48+(k:Int) % 10)] 5))=.ok (.string (two k)) ((w.alloc o).alloc (.cells #[.int .u8 (48+(k:Int) / 10),.int .u8 (48+(k:Int) % 10)] 5)):=fun o=>by
    rw [run_convert_bytes_arg _ _ 5 Tryz.underlying42 Tryz.underlying5 (w.heap.size+1) 0 2 2 [48+(k:Int) / 10,48+(k:Int) % 10] rfl ?_ _ Tryz.underlying9]
    · unfold strOfNums two
      rw [show ((48:Int)+(k:Int) / 10)=((48+k / 10:Nat):Int) by omega,show ((48:Int)+(k:Int) % 10)=((48+k % 10:Nat):Int) by omega]
      rfl
    · intro i hi
      match i,hi with
      | 0,_=>simp [go_sem]
      | 1,_=>simp [go_sem]
  have hz:(two k).size=2:=rfl
  have hp:pk key k=key++dash++two k:=rfl
  have hs2:key.size+1≤9223372036854775807:=by simp only at hs;omega
  have hs3:(key++{ data:=#[45] }).size+(two k).size≤9223372036854775807:=by
    rw [ByteArray.size_append,hz]
    show key.size+1+2≤_
    simp only at hs;omega
  simp only
  rw [hp]
  generalize two k=t at *
  go_enter Tryz.func174,Tryz.ntmps174
  go_wp2_with fail
  go_returns
  exact ⟨rfl,by repeat (first | exact Mor.refl _ | apply Mor.alloc | apply Mor.more | apply Mor.drewN | apply Mor.drew)⟩
set_option maxHeartbeats 1600000 in
theorem straight_bk (cost rest:Int) (n:Nat) (w:World) (h1:0≤cost) (h2:cost≤1000000000000) (h3:0≤rest) (h4:rest≤cost) (h5:1≤n) (h6:n≤40) :
    Calls Tryz.prog 48 #[.int .i64 cost,.int .i64 rest,.int .i64 (n:Int)] w fun e w'=>∃ b,e=.returned (.tuple #[.slice (some ⟨b,0,none⟩) n n,.int .i64 0])∧Bk w' b 3 (fc (stP (cost - rest) n) n n)∧Mor w w':=by
  have HL:=Lib.hid (fun w=>lineLook_ok cost rest n w h1 h2 h3 h4 (by omega) (by omega))
  go_enter Tryz.func48,Tryz.ntmps48
  go_wp2_with (first | (go_at_call 103;(with_reducible refine (HL.out _).mono ?_);rintro e w1 ⟨rfl,rfl⟩))
  refine (parts_straight cost rest n _ _ _ _ (by simp [go_sem]) (by simp [go_sem]) (by simp [go_sem]) (by simp [go_sem]) (by simp [go_sem]) (by simp [go_sem]) h1 h2 h3 h4 h5 h6).mono ?_
  rintro e w1 ⟨rfl,k,rfl⟩
  have R:=Lib.hid (fun (w:World) k=>(Bk.new w 3 (fc (stP (cost - rest) n) n n)).drewN k)
  go_wp2
  go_returns
  refine ⟨_,rfl,?_,by repeat (first | exact Mor.refl _ | apply Mor.alloc | apply Mor.more | apply Mor.drewN | apply Mor.drew)⟩
  have r:=R.out (((w.alloc (.cells #[.int .i64 cost] 3)).alloc (.cells #[.int .i64 rest] 3)).alloc (.cells #[.int .i64 (n:Int)] 3)) k
  simp [go_sem] at r
  exact r
set_option maxHeartbeats 1600000 in
theorem digits_bk (cost rest:Int) (n:Nat) (w:World) (h1:0≤cost) (h2:cost≤1000000000000) (h3:0≤rest) (h4:rest≤cost) (h5:1≤n) (h6:n≤40) :
    Calls Tryz.prog 50 #[.int .i64 cost,.int .i64 rest,.int .i64 (n:Int)] w fun e w'=>∃ b,e=.returned (.tuple #[.slice (some ⟨b,0,none⟩) n n,.int .i64 0])∧Bk w' b 3 (fc (dgP (cost - rest) n) n n)∧Mor w w':=by
  obtain ⟨q1,q2⟩:=prod_bd (n:Int) ((n:Int)+1) 40 41 (by omega) (by omega) (by omega) (by omega) (by omega)
  have q3:0≤(n:Int)*((n:Int)+1):=Int.mul_nonneg (by omega) (by omega)
  have HL:=Lib.hid (fun w=>lineLook_ok cost rest n w h1 h2 h3 h4 (by omega) (by omega))
  go_enter Tryz.func50,Tryz.ntmps50
  go_wp2_with (first | (go_at_call 103;(with_reducible refine (HL.out _).mono ?_);rintro e w1 ⟨rfl,rfl⟩))
  refine (parts_digits cost rest n _ _ _ _ _ (by simp [go_sem]) (by simp [go_sem]) (by simp [go_sem]) (by simp [go_sem]) (by simp [go_sem]) (by simp [go_sem]) (by simp [go_sem]) (by simp [go_sem]) h1 h2 h3 h4 h5 h6).mono ?_
  rintro e w1 ⟨rfl,k,rfl⟩
  have R:=Lib.hid (fun (w:World) k=>(Bk.new w 3 (fc (dgP (cost - rest) n) n n)).drewN k)
  go_wp2
  go_returns
  refine ⟨_,rfl,?_,by repeat (first | exact Mor.refl _ | apply Mor.alloc | apply Mor.more | apply Mor.drewN | apply Mor.drew)⟩
  have r:=R.out ((((w.alloc (.cells #[.int .i64 cost] 3)).alloc (.cells #[.int .i64 rest] 3)).alloc (.cells #[.int .i64 (n:Int)] 3)).alloc (.cells #[.int .i64 ((n:Int)*(n+1) / 2)] 3)) k
  simp [go_sem] at r
  exact r
set_option maxRecDepth 100000 in
set_option maxHeartbeats 800000 in
theorem jparts_any (p:Pln) (w:World) (n:Nat) (hn:p.num=n) (h0:0≤p.amt) (h1:p.amt≤1000000000000) (h2:1≤n) (h3:n≤40) :
    Calls Tryz.prog 173 #[pv p] w fun e w'=>∃ b,e=.returned (.slice (some ⟨b,0,none⟩) n n)∧Bk w' b 3 (fc (partP p) n n)∧Mor w w':=by
  obtain ⟨key,kind,frm,amt,num,deb,cre⟩:=p
  simp only at hn h0 h1 ⊢
  subst hn
  by_cases hk:kind=1
  · subst hk
    have HP:=Lib.hid (show partP ⟨key,1,frm,amt,n,deb,cre⟩=dgP (amt - 0) n by rw [Int.sub_zero];rfl)
    have HD:=Lib.hid (fun w=>digits_bk amt 0 n w h0 h1 (Int.le_refl _) h0 (by omega) (by omega))
    generalize partP ⟨key,1,frm,amt,n,deb,cre⟩=f at *
    generalize dgP (amt - 0) n=f' at *
    go_enter Tryz.func173,Tryz.ntmps173
    go_wp2_with (go_at_call 50;(with_reducible refine (HD.out _).mono ?_);rintro e w1 ⟨b,rfl,hr,hm⟩;have HR:=Lib.hid hr;have HM:=Lib.hid hm;clear hr hm)
    go_returns
    exact ⟨b,rfl,by rw [HP.out];exact HR.out,(Mor.refl _).alloc.trans' HM.out⟩
  · have HP:=Lib.hid (show partP ⟨key,kind,frm,amt,n,deb,cre⟩=stP (amt - 0) n by
      rw [Int.sub_zero];funext i;unfold partP;rw [if_neg hk])
    have HD:=Lib.hid (fun w=>straight_bk amt 0 n w h0 h1 (Int.le_refl _) h0 (by omega) (by omega))
    generalize partP ⟨key,kind,frm,amt,n,deb,cre⟩=f at *
    generalize stP (amt - 0) n=f' at *
    go_enter Tryz.func173,Tryz.ntmps173
    go_wp2_with (go_at_call 48;(with_reducible refine (HD.out _).mono ?_);rintro e w1 ⟨b,rfl,hr,hm⟩;have HR:=Lib.hid hr;have HM:=Lib.hid hm;clear hr hm)
    go_returns
    exact ⟨b,rfl,by rw [HP.out];exact HR.out,(Mor.refl _).alloc.trans' HM.out⟩
def pkeyB (k:ByteArray) (ps:List Pln):Bool:=ps.any fun q=>decide (q.key=k)
noncomputable def plAt (ps:List Pln) (i:Nat):Int:=if onec (np ps i)≠0 then onec (np ps i) else if pkeyB (np ps i).key (ps.take i)=true then 5 else 0
noncomputable def plUp (ps:List Pln):Nat→Int
  | 0=>0
  | k+1=>if plUp ps k≠0 then plUp ps k else plAt ps k
theorem plUp_bad {xs:List Pln} {k n:Nat} (h:plUp xs k=0) (hb:plAt xs k≠0) (hk:k < n):plUp xs n=plAt xs k:=by
  induction n with
  | zero=>omega
  | succ n ih =>
    by_cases e:k=n
    · subst e
      show (if plUp xs k≠0 then plUp xs k else plAt xs k)=_
      rw [if_neg (by simp [h])]
    · show (if plUp xs n≠0 then plUp xs n else plAt xs n)=_
      rw [ih (by omega),if_pos hb]
theorem plUp_ok {xs:List Pln} {k:Nat} (h:plUp xs k=0) (hb:plAt xs k=0):plUp xs (k+1)=0:=by
  show (if plUp xs k≠0 then plUp xs k else plAt xs k)=0
  rw [if_neg (by simp [h]),hb]
theorem plUp_at {xs:List Pln} {k n:Nat} (h:plUp xs n=0) (hk:k < n):plAt xs k=0:=by
  induction n with
  | zero=>omega
  | succ n ih =>
    have h':(if plUp xs n≠0 then plUp xs n else plAt xs n)=0:=h
    by_cases e:plUp xs n=0
    · rw [if_neg (by simp [e])] at h'
      by_cases e2:k=n
      · subst e2;exact h'
      · exact ih e (by omega)
    · rw [if_pos e] at h';exact absurd h' e
noncomputable def plc (xs:List Pln):Int:=if 12 < xs.length then 2 else plUp xs xs.length
structure Pok (p:Pln):Prop where
  key:keyB p.key=true
  short:p.key.size≤9
  dash:dashB p.key=false
  kind:p.kind=0∨p.kind=1
  frm0:0≤p.frm
  frm9:p.frm≤292193
  amt0:0≤p.amt
  amt9:p.amt≤1000000000000
  num0:1≤p.num
  num9:p.num≤40
  deb:codeB p.deb=true
  cre:codeB p.cre=true
  two:p.deb≠p.cre
  last:dk p.frm+(p.num - 1) < 9600
theorem pok_of {p:Pln} (h:onec p=0):Pok p:=by
  unfold onec at h
  split at h
  · omega
  rename_i h1
  split at h
  · omega
  rename_i h2
  split at h
  · omega
  rename_i h3
  split at h
  · omega
  rename_i h4
  simp only [not_or] at h1 h2 h3
  obtain ⟨a1,a2,a3⟩:=h1
  obtain ⟨b1,b2,b3,b4,b5,b6,b7⟩:=h2
  obtain ⟨c1,c2,c3⟩:=h3
  exact ⟨by simpa using a1,by omega,by simpa using a3,by omega,by omega,by omega,by omega,by omega,by omega,by omega,by simpa using c1,by simpa using c2,c3,by omega⟩
theorem plc_ok {ps:List Pln} (h:plc ps=0):ps.length≤12∧(∀ i,i < ps.length→Pok (np ps i))∧∀ i j,i < j→j < ps.length→(np ps i).key≠(np ps j).key:=by
  unfold plc at h
  split at h
  · omega
  rename_i h1
  refine ⟨by omega,fun i hi=>?_,fun i j hij hj e=>?_⟩
  · have:=plUp_at h hi
    unfold plAt at this
    split at this
    · exact absurd this (by assumption)
    · rename_i h2;exact pok_of (by simpa using h2)
  · have:=plUp_at h hj
    unfold plAt at this
    split at this
    · exact absurd this (by assumption)
    split at this
    · omega
    · rename_i h2 h3
      apply h3
      unfold pkeyB
      rw [List.any_eq_true]
      refine ⟨np ps i,?_,by simp [e]⟩
      rw [np_eq ps i (by omega)]
      refine List.mem_iff_getElem.2 ⟨i,by rw [List.length_take];omega,by rw [List.getElem_take]⟩
theorem pok_k {p:Pln} (h:Pok p) {k:Int} (h0:0≤k) (hk:k < p.num):0≤dk p.frm+k∧dk p.frm+k < 9600:=by
  have h1:=(ymd h.frm0 h.frm9).2.1
  obtain ⟨y1,y2,m1,m2,_⟩:=(ymd h.frm0 h.frm9).1
  have:=h.last
  omega
noncomputable def mkE (p:Pln) (k:Nat):En:=⟨pk p.key k,ad p.frm k,[(p.deb,partP p k),(p.cre,- partP p k)]⟩
noncomputable def dueK (p:Pln) (day:Int):Nat→List En
  | 0=>[]
  | k+1=>dueK p day k++if ad p.frm k≤day∧partP p k≠0 then [mkE p k] else []
noncomputable def due1 (p:Pln) (day:Int):List En:=dueK p day p.num.toNat
noncomputable def dueP (ps:List Pln) (day:Int):List En:=ps.flatMap fun p=>due1 p day
theorem dueK_stop {p:Pln} (h:Pok p) {day:Int} {k n:Nat} (hk:k≤n) (hn:n≤p.num.toNat) (hd:k < n→day < ad p.frm k):dueK p day n=dueK p day k:=by
  induction n with
  | zero=>rw [show k=0 by omega]
  | succ n ih =>
    by_cases e:k=n+1
    · rw [e]
    · have h0:=h.num0
      have e1:=pok_k h (k:=(k:Int)) (by omega) (by omega)
      have e2:=pok_k h (k:=(n:Int)) (by omega) (by omega)
      have hm:=ad_mono2 (n:=p.frm) (m:=(k:Int)) (m':=(n:Int)) h.frm0 h.frm9 (by omega) e1.1 e2.2
      have:=hd (by omega)
      show dueK p day n++(if ad p.frm n≤day∧partP p n≠0 then [mkE p n] else [])=_
      rw [if_neg (by omega),List.append_nil]
      exact ih (by omega) (by omega) (fun _=>this)
theorem dueK_le (p:Pln) (day:Int) (n:Nat):(dueK p day n).length≤n:=by
  induction n with
  | zero=>exact Nat.le_refl _
  | succ n ih =>
    show (dueK p day n++(if ad p.frm n≤day∧partP p n≠0 then [mkE p n] else [])).length≤n+1
    rw [List.length_append]
    split <;> simp <;> omega
def SaysP (w:World) (g:Nat) (cb:Array Value) (ps:List Pln) (p:Nat→Bool):Prop :=
  ∀ (i:Nat) (w1:World),i < ps.length→Mor w w1→Calls Tryz.prog g (#[pv (np ps i)]++cb) w1 fun e w'=>e=.returned (.bool (p i))∧Mor w1 w'
set_option maxHeartbeats 1600000 in
theorem index_pl (g:Nat) (cb:Array Value) (X:Option Addr) (n cap:Nat) (ps:List Pln) (p:Nat→Bool) (w:World) (eg:∀ args w,(callFunc g args).run Tryz.prog w=.ok (.enter g args) w) (hr:Ps w X ps) (hn:n≤ps.length) (hl:n≤1000) (hf:SaysP w g cb ps p) :
    Calls Tryz.prog 172 #[.slice X n cap,.func (.func g) #[] cb] w fun e w'=>e=.returned (.int .i64 (fidx p 0 n))∧Mor w w':=by
  have HF:=Lib.hid hf
  have HR:=Lib.hid hr
  have HN:=Lib.hid hn
  clear hf hr hn
  go_enter Tryz.func172,Tryz.ntmps172
  go_wp2
  go_loopw [8] (fun i wr=>∃ k:Nat,k≤n∧i=.int .i64 k∧Hid (∀ j,j < k→p j=false)∧Hid (Mor w wr)) (fun i _=>n - (intOf i).toNat)
  case atStart=>exact ⟨0,Nat.zero_le _,rfl,Lib.hid (fun j hj=>absurd hj (by omega)),Lib.hid (Mor.refl _)⟩
  case round =>
    obtain ⟨k,hk,rfl,HA,HM⟩:=hrel
    by_cases hlt:k < n
    · have hki:(k:Int) < (n:Int):=by omega
      have hk0:(0:Int)≤(k:Int):=by omega
      obtain ⟨x,hX,hxb,_,c0,c1,c2,c3,c4,c5,c6⟩:=(HR.out.mor HM.out).at_ k (by have:=HN.out;omega)
      subst hX
      have hc:=HF.out k wr (by have:=HN.out;omega) HM.out
      generalize np ps k=q at *
      obtain ⟨key,kind,frm,amt,num,deb,cre⟩:=q
      simp only at c0 c1 c2 c3 c4 c5 c6
      cases hp:p k <;> rw [hp] at hc
      · have HG:=Lib.hid (show ∀ j,j < k+1→p j=false from fun j hj=>by
          by_cases e:j=k
          · subst e;exact hp
          · exact HA.out j (by omega))
        clear hp
        go_wp2_with (go_at_fn g;refine hc.mono ?_;rintro e w' ⟨rfl,hmw⟩)
        have HM':=Lib.hid (Mor.trans' HM.out hmw)
        clear hmw
        go_roundw
        case rel=>exact ⟨k+1,by omega,by go_num,HG,HM'⟩
        case measure=>simp [intOf];omega
      · have HP:=Lib.hid (fidx_at HA.out hlt hp)
        clear hp
        go_wp2_with (go_at_fn g;refine hc.mono ?_;rintro e w' ⟨rfl,hmw⟩)
        have HM':=Lib.hid (Mor.trans' HM.out hmw)
        clear hmw
        go_ret
        exact ⟨by rw [HP.out] <;> rfl,HM'.out⟩
    · obtain rfl:k=n:=by omega
      have HP:=Lib.hid (fidx_no HA.out)
      go_wp2
      go_ret
      exact ⟨by rw [HP.out] <;> rfl,HM.out⟩
theorem fidx_any' (p:Nat→Bool) (n:Nat):decide (0≤fidx p 0 n)=(List.range n).any p:=by
  rcases fidx_spec p n 0 with ⟨e,hn⟩ | ⟨k,e,_,h2,h3,_⟩
  · rw [e]
    have:(List.range n).any p=false:=List.any_eq_false.2 fun j hj=>by simp [hn j (by omega) (by have:=List.mem_range.1 hj;omega)]
    rw [this];rfl
  · rw [e]
    have:(List.range n).any p=true:=List.any_eq_true.2 ⟨k,List.mem_range.2 (by omega),h3⟩
    rw [this];simp
set_option maxHeartbeats 800000 in
theorem contains_pl (g:Nat) (cb:Array Value) (X:Option Addr) (n cap:Nat) (ps:List Pln) (p:Nat→Bool) (w:World) (eg:∀ args w,(callFunc g args).run Tryz.prog w=.ok (.enter g args) w) (hr:Ps w X ps) (hn:n≤ps.length) (hl:n≤1000) (hf:SaysP w g cb ps p) :
    Calls Tryz.prog 132 #[.slice X n cap,.func (.func g) #[] cb] w fun e w'=>e=.returned (.bool ((List.range n).any p))∧Mor w w':=by
  have HI:=Lib.hid (index_pl g cb X n cap ps p w eg hr hn hl hf)
  have HA:=Lib.hid (fidx_any' p n)
  clear hr hn hf
  generalize (List.range n).any p=r at *
  generalize fidx p 0 n=f at *
  go_enter Tryz.func132,Tryz.ntmps132
  go_wp2_with fail
  refine HI.out.mono ?_
  rintro e w1 ⟨rfl,hm⟩
  have HM:=Lib.hid hm
  clear hm
  go_wp2_with fail
  go_ret
  exact ⟨by rw [← HA.out];rfl,HM.out⟩
set_option maxHeartbeats 800000 in
theorem clo_pl (g:Nat) (key:ByteArray) (q:Pln) (w:World) (hb:w.cell? ⟨g,0,none⟩=some (.string key)) (hg:g < w.heap.size) :
    Calls Tryz.prog 133 #[pv q,.pointer (some ⟨g,0,none⟩)] w fun e w'=>e=.returned (.bool (decide (q.key=key)))∧Mor w w':=by
  obtain ⟨k2,kind,frm,amt,num,deb,cre⟩:=q
  have hE:=str_eq k2 key
  simp only
  generalize decide (k2=key)=b at *
  go_enter Tryz.func133,Tryz.ntmps133
  go_wp2_with fail
  go_ret
  exact ⟨by simp,by repeat (first | exact Mor.refl _ | apply Mor.alloc | apply Mor.more | apply Mor.drewN | apply Mor.drew)⟩
theorem np_any (ps:List Pln) (k:Nat) (hk:k≤ps.length) (s:ByteArray):(List.range k).any (fun j=>decide ((np ps j).key=s))=pkeyB s (ps.take k):=by
  unfold pkeyB
  rw [Bool.eq_iff_iff,List.any_eq_true,List.any_eq_true]
  constructor
  · rintro ⟨j,hj,h⟩
    have hj:=List.mem_range.1 hj
    exact ⟨np ps j,by rw [np_eq ps j (by omega)];exact List.mem_iff_getElem.2 ⟨j,by rw [List.length_take];omega,by rw [List.getElem_take]⟩,h⟩
  · rintro ⟨q,hq,h⟩
    obtain ⟨j,hj,rfl⟩:=List.mem_iff_getElem.1 hq
    rw [List.length_take] at hj
    refine ⟨j,List.mem_range.2 (by omega),?_⟩
    rw [np_eq ps j (by omega)]
    rw [List.getElem_take] at h
    exact h
set_option maxRecDepth 100000 in
set_option maxHeartbeats 3200000 in
theorem plc_any (A:Option Addr) (n cap:Nat) (ps:List Pln) (w:World) (hr:Ps w A ps) (hn:ps.length=n) (hcap:n≤cap) (hml:cap≤maxLen) (ht:Tab w) :
    Calls Tryz.prog 81 #[.slice A n cap] w fun e w'=>e=.returned (.int .i64 (plc ps))∧Mor w w':=by
  unfold maxLen at hml
  have HR:=Lib.hid hr
  have HN:=Lib.hid hn
  have HT:=Lib.hid ht
  clear hr ht
  by_cases h12:12 < n
  · have HL:=Lib.hid (show plc ps=2 by unfold plc;rw [hn,if_pos h12])
    clear hn
    go_enter Tryz.func81,Tryz.ntmps81
    go_wp2
    go_ret
    exact ⟨by rw [HL.out] <;> rfl,Mor.refl _⟩
  · have HL:=Lib.hid (show plc ps=plUp ps n by unfold plc;rw [hn,if_neg h12])
    have h12':n≤12:=by omega
    clear hn h12
    go_enter Tryz.func81,Tryz.ntmps81
    go_wp2
    go_loopw [11] (fun i wr=>∃ k:Nat,k≤n∧i=.int .i64 k∧Hid (plUp ps k=0)∧Hid (Mor w wr)) (fun i _=>n - (intOf i).toNat)
    case atStart=>exact ⟨0,Nat.zero_le _,rfl,Lib.hid rfl,Lib.hid (Mor.refl _)⟩
    case round =>
      obtain ⟨k,hk,rfl,HU,HM⟩:=hrel
      by_cases hlt:k < n
      · have hki:(k:Int) < (n:Int):=by omega
        have hk0:(0:Int)≤(k:Int):=by omega
        have hkc:(k:Int)≤(cap:Int):=by have:=hcap;omega
        obtain ⟨x,hA,hxb,hw,c0,c1,c2,c3,c4,c5,c6⟩:=(HR.out.mor HM.out).at_ k (by have:=HN.out;omega)
        subst hA
        have HOn:=Lib.hid (fun w' (h:Mor w w')=>one_any (np ps k) w' hw (HT.out.mor h))
        have HBad:=Lib.hid (fun h:plAt ps k≠0=>show plc ps=plAt ps k by rw [HL.out,plUp_bad HU.out h hlt])
        have HOk:=Lib.hid (fun h:plAt ps k=0=>plUp_ok HU.out h)
        have HAt:=Lib.hid (show plAt ps k=if onec (np ps k)≠0 then onec (np ps k) else if pkeyB (np ps k).key (ps.take k)=true then 5 else 0 from rfl)
        have HCf:=Lib.hid (fun g w' (h:Mor w w') (hg:g < w'.heap.size) (hc:w'.cell? ⟨g,0,none⟩=some (.string (np ps k).key))=>show Calls Tryz.prog 132 #[.slice (some x) k cap,.func (.func 133) #[] #[.pointer (some ⟨g,0,none⟩)]] w' fun e w''=>e=.returned (.bool (pkeyB (np ps k).key (ps.take k)))∧Mor w' w'' by
          have h1:=contains_pl 133 #[.pointer (some ⟨g,0,none⟩)] (some x) k cap ps (fun j=>decide ((np ps j).key=(np ps k).key)) w' (fun _ _=>rfl) (HR.out.mor h) (by have:=HN.out;omega) (by omega)
            (fun i w1 hi hm=>clo_pl g (np ps k).key (np ps i) w1 ((hm.below.cell (p:=⟨g,0,none⟩) hg).trans hc) (Nat.lt_of_lt_of_le hg hm.below.size))
          rw [np_any ps k (by have:=HN.out;omega)] at h1
          exact h1)
        generalize pkeyB (np ps k).key (ps.take k)=pb at *
        generalize onec (np ps k)=r at *
        generalize plAt ps k=pa at *
        generalize np ps k=q at *
        obtain ⟨key,kind,frm,amt,num,deb,cre⟩:=q
        simp only at c0 c1 c2 c3 c4 c5 c6 HCf
        clear hw
        by_cases hr0:r=0
        · subst hr0
          go_wp2_with (go_at_call 131;(with_reducible refine (HOn.out _ HM.out.alloc).mono ?_);rintro e w1 ⟨rfl,hm1⟩)
          have hsz:wr.heap.size < (wr.alloc (.cells #[.string key,.int .i64 kind,.int .i64 frm,.int .i64 amt,.int .i64 num,.string deb,.string cre] 120)).heap.size:=by rw [← sz1];exact Nat.lt_succ_self _
          have hg1:wr.heap.size < w1.heap.size:=Nat.lt_of_lt_of_le hsz hm1.below.size
          have hc1:w1.cell? ⟨wr.heap.size,0,none⟩=some (.string key):=(hm1.below.cell (p:=⟨wr.heap.size,0,none⟩) hsz).trans (by simp [go_sem])
          have HM1:=Lib.hid (HM.out.alloc.trans' hm1)
          have HC:=Lib.hid (HCf.out _ _ HM1.out hg1 hc1)
          clear hc1 hg1 hsz hm1 HCf HOn
          cases pb
          · have HG:=Lib.hid (HOk.out (by rw [HAt.out,if_neg (by simp),if_neg (by simp)]))
            go_wp2_with (go_at_call 132;(with_reducible refine HC.out.mono ?_);rintro e w2 ⟨rfl,hm2⟩;have HM2:=Lib.hid (HM1.out.trans' hm2);clear hm2)
            go_roundw
            case rel=>exact ⟨k+1,by omega,by go_num,HG,HM2⟩
            case measure=>simp [intOf];omega
          · have HF:=Lib.hid (show plc ps=5 by
              have e:pa=5:=by rw [HAt.out,if_neg (by simp),if_pos rfl]
              rw [← e];exact HBad.out (by rw [e];decide))
            go_wp2_with (go_at_call 132;(with_reducible refine HC.out.mono ?_);rintro e w2 ⟨rfl,hm2⟩;have HM2:=Lib.hid (HM1.out.trans' hm2);clear hm2)
            go_ret
            exact ⟨by rw [HF.out] <;> rfl,HM2.out⟩
        · have HF:=Lib.hid (show plc ps=r by
            have e:pa=r:=by rw [HAt.out,if_pos hr0]
            rw [← e];exact HBad.out (by rw [e];exact hr0))
          have hrb:(r != 0)=true:=by simpa using hr0
          clear HBad HAt HOk HCf
          go_wp2_with (go_at_call 131;(with_reducible refine (HOn.out _ HM.out.alloc).mono ?_);rintro e w1 ⟨rfl,hm1⟩)
          go_ret
          exact ⟨by rw [HF.out] <;> rfl,HM.out.alloc.trans' hm1⟩
      · obtain rfl:k=n:=by omega
        go_wp2
        go_ret
        exact ⟨by rw [HL.out,HU.out] <;> rfl,HM.out⟩
end Go.Proofs.YtdhbkifpodekcaaGreatDoor
