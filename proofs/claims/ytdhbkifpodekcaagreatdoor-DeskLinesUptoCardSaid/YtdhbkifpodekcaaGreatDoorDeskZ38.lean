/- Texts of this claim. -/
import Derived.Test.YtdhbkifpodekcaaGreatDoorDeskZ7
import Derived.Deep.RegionHeld3
import Derived.Deep.RegionWith
namespace Go.Proofs.YtdhbkifpodekcaaGreatDoor
open Go.ChangeShapes Go.WideShapes Go.ChangeAt Go.RowKit Go.PlainAid
set_option linter.unusedVariables false
set_option maxRecDepth 100000
set_option maxRecDepth 100000 in
set_option maxHeartbeats 3200000 in
theorem bsearch_en (X:Option Addr) (n c:Nat) (es:List En) (x:En) (B:Option Addr) (p q:Nat) (w:World) (hr:Es w X es) (hn:es.length=n) (hl:n≤1000) (hd:∀ i,i < n→0≤(ne es i).day∧(ne es i).day≤292193) (hx0:0≤x.day) (hx9:x.day≤292193) (hs:es.Pairwise elt) :
    Calls Tryz.prog 124 #[.slice X n c,.agg #[.string x.key,.int .i64 x.day,.slice B p q],.func (.func 125) #[] #[]] w fun e w'=>∃ f,e=.returned (.tuple #[.int .i64 (insAt x es:Nat),.bool f])∧Mor w w':=by
  have HR:=Lib.hid hr
  have HN:=Lib.hid hn
  have HSo:=Lib.hid hs
  have HCm:=Lib.hid (fun w' i (hi:i < n) A' n' c'=>cmp_any (ne es i) x A' n' c' B p q w' (hd i hi).1 (hd i hi).2 hx0 hx9)
  have HLt:=Lib.hid (fun i=>cmpE_lt (ne es i) x)
  have HUq:=Lib.hid (fun k (hk:k≤n) (h1:∀ i,i < k→elt (ne es i) x) (h2:∀ i,k≤i→i < n→¬ elt (ne es i) x)=>show k=insAt x es from insAt_uniq (by rw [hn];exact hk) h1 (fun i a b=>h2 i a (by rw [← hn];exact b)))
  have HMo:=Lib.hid (fun i j (hij:i≤j) (hj:j < n) (h:elt (ne es j) x)=>sorted_mono hs hij (by rw [hn];exact hj) h)
  generalize hky:x.key=ky at *
  generalize hdy:x.day=dy at *
  clear hr hn hs hd hx0 hx9 hky hdy
  go_enter Tryz.func124,Tryz.ntmps124
  go_wp2_with fail
  have hT0:=Bk.new w 111 #[.string ky,.int .i64 dy,.slice B p q]
  have hM0:=(Mor.refl w).alloc (o:=.cells #[.string ky,.int .i64 dy,.slice B p q] 111)
  obtain ⟨bT,hbT⟩:∃ b,b=w.heap.size:=⟨_,rfl⟩
  rw [← hbT] at hT0 ⊢
  generalize w.alloc (.cells #[.string ky,.int .i64 dy,.slice B p q] 111)=w0 at *
  have HT0:=Lib.hid hT0
  have HM0:=Lib.hid hM0
  clear hT0 hM0 hbT
  go_loopg [9,10] n (fun kx s9 s10 wr=>∃ (lo hi:Nat),s9=.int .i64 lo∧s10=.int .i64 hi∧lo≤hi∧hi≤n∧hi - lo≤kx∧Hid (Mor w0 wr)∧Hid ((∀ i,i < lo→elt (ne es i) x)∧(∀ i,hi≤i→i < n→¬ elt (ne es i) x)))
  case atStart=>exact ⟨0,n,rfl,rfl,Nat.zero_le _,Nat.le_refl _,by omega,Lib.hid (Mor.refl _),Lib.hid ⟨fun i hi=>absurd hi (Nat.not_lt_zero _),fun i h1 h2=>absurd h1 (by omega)⟩⟩
  case round =>
    obtain ⟨lo,hi,rfl,rfl,hlh,hin,hg,HMr,I⟩:=hrel
    by_cases hlt:lo < hi
    · obtain ⟨h,hh⟩:∃ h:Nat,h=(lo+hi) / 2:=⟨_,rfl⟩
      have hm1:((lo:Int)+(hi:Int)) / 2=(h:Int):=by omega
      have h1:lo≤h:=by omega
      have h2:h < hi:=by omega
      have hhi:(0:Int)≤(h:Int):=by omega
      have hhn:(h:Int) < (n:Int):=by omega
      obtain ⟨x',A',n',c',hX,hxb,-,d0,d1,d2,-⟩:=(HR.out.mor (HM0.out.trans' HMr.out)).at_ h (by rw [HN.out];omega)
      subst hX
      have HCm3:=Lib.hid (fun w'=>HCm.out w' h (by omega) A' n' c')
      have HL3:=Lib.hid (HLt.out h)
      have hT:=HT0.out.mor HMr.out
      have f0:=hT.cell 0
      have f1:=hT.cell 1
      have f2:=hT.cell 2
      have fl:=hT.lt
      simp at f0 f1 f2
      have HKp:=Lib.hid (fun w' (h':Mor wr w')=>show (w'.cell? ⟨bT,0,none⟩=some (.string ky)∧w'.cell? ⟨bT,1,none⟩=some (.int .i64 dy)∧w'.cell? ⟨bT,2,none⟩=some (.slice B p q)∧w'.cell? (x'.add (h*3))=some (.string (ne es h).key)∧w'.cell? ⟨(x'.add (h*3)).block,(x'.add (h*3)).off+1,none⟩=some (.int .i64 (ne es h).day)∧w'.cell? ⟨(x'.add (h*3)).block,(x'.add (h*3)).off+2,none⟩=some (.slice A' n' c')) from by
        have he:=hT.mor h'
        exact ⟨by rw [he.cell];rfl,by rw [he.cell];rfl,by rw [he.cell];rfl,(h'.below.cell (p:=x'.add (h*3)) (by rw [addb];exact hxb)).trans d0,(h'.below.cell (p:=⟨(x'.add (h*3)).block,(x'.add (h*3)).off+1,none⟩) (by rw [addb];exact hxb)).trans d1,(h'.below.cell (p:=⟨(x'.add (h*3)).block,(x'.add (h*3)).off+2,none⟩) (by rw [addb];exact hxb)).trans d2⟩)
      have HLo:=Lib.hid (fun (he:elt (ne es h) x) i (hi':i < h+1)=>HMo.out i h (by omega) (by omega) he)
      have HHi:=Lib.hid (fun (he:¬ elt (ne es h) x) i (hi':h≤i) (hin':i < n)=>fun h'=>he (HMo.out h i hi' hin' h'))
      generalize (ne es h).key=ky' at *
      generalize (ne es h).day=dy' at *
      generalize cmpE (ne es h) x=cm at *
      have HH:=Lib.hid hh
      clear hT hh
      by_cases hc:cm < 0
      · have HA:=Lib.hid (HLo.out (HL3.out.1 hc))
        go_wp2_with fail
        go_region_held3 (fun w'=>w'.cell? ⟨bT,0,none⟩=some (.string ky)∧w'.cell? ⟨bT,1,none⟩=some (.int .i64 dy)∧w'.cell? ⟨bT,2,none⟩=some (.slice B p q)∧w'.cell? (x'.add (h*3))=some (.string ky')∧w'.cell? ⟨(x'.add (h*3)).block,(x'.add (h*3)).off+1,none⟩=some (.int .i64 dy')∧w'.cell? ⟨(x'.add (h*3)).block,(x'.add (h*3)).off+2,none⟩=some (.slice A' n' c')) (exact HKp.out _ (by repeat (first | exact Mor.refl _ | apply Mor.alloc | apply Mor.more | apply Mor.drewN | apply Mor.drew))) (first | (go_at_call 125;(with_reducible refine (HCm3.out _).mono ?_);rintro e w8 ⟨rfl,bs3,dr3,rfl⟩) | (go_at_fn 125;(with_reducible refine (HCm3.out _).mono ?_);rintro e w8 ⟨rfl,bs3,dr3,rfl⟩))
        obtain ⟨wn,hwn⟩:∃ wn,wn=more wr bs3 dr3:=⟨_,rfl⟩
        rw [← hwn]
        have HMn:=Lib.hid (show Mor w0 wn by rw [hwn];exact HMr.out.trans' (Mor.refl _).more)
        clear hwn HKp
        go_wp2_with fail
        go_roundg (hi - (h+1))
        case measure=>have:=HH.out;omega
        case rel=>exact ⟨h+1,hi,by go_num,rfl,by omega,hin,Nat.le_refl _,HMn,Lib.hid ⟨HA.out,I.out.2⟩⟩
      · have HA:=Lib.hid (HHi.out (fun he=>hc (HL3.out.2 he)))
        go_wp2_with fail
        go_region_held3 (fun w'=>w'.cell? ⟨bT,0,none⟩=some (.string ky)∧w'.cell? ⟨bT,1,none⟩=some (.int .i64 dy)∧w'.cell? ⟨bT,2,none⟩=some (.slice B p q)∧w'.cell? (x'.add (h*3))=some (.string ky')∧w'.cell? ⟨(x'.add (h*3)).block,(x'.add (h*3)).off+1,none⟩=some (.int .i64 dy')∧w'.cell? ⟨(x'.add (h*3)).block,(x'.add (h*3)).off+2,none⟩=some (.slice A' n' c')) (exact HKp.out _ (by repeat (first | exact Mor.refl _ | apply Mor.alloc | apply Mor.more | apply Mor.drewN | apply Mor.drew))) (first | (go_at_call 125;(with_reducible refine (HCm3.out _).mono ?_);rintro e w8 ⟨rfl,bs3,dr3,rfl⟩) | (go_at_fn 125;(with_reducible refine (HCm3.out _).mono ?_);rintro e w8 ⟨rfl,bs3,dr3,rfl⟩))
        obtain ⟨wn,hwn⟩:∃ wn,wn=more wr bs3 dr3:=⟨_,rfl⟩
        rw [← hwn]
        have HMn:=Lib.hid (show Mor w0 wn by rw [hwn];exact HMr.out.trans' (Mor.refl _).more)
        clear hwn HKp
        go_wp2_with fail
        go_roundg (h - lo)
        case measure=>have:=HH.out;omega
        case rel=>exact ⟨lo,h,rfl,rfl,by omega,by omega,Nat.le_refl _,HMn,Lib.hid ⟨I.out.1,HA.out⟩⟩
    · obtain rfl:lo=hi:=by omega
      have HF:=Lib.hid (HUq.out lo hin I.out.1 I.out.2)
      by_cases hln:lo < n
      · have hhi:(0:Int)≤(lo:Int):=by omega
        have hhn:(lo:Int) < (n:Int):=by omega
        have hhb:decide ((lo:Int) < (n:Int))=true:=by simpa using hhn
        obtain ⟨x',A',n',c',hX,hxb,-,d0,d1,d2,-⟩:=(HR.out.mor (HM0.out.trans' HMr.out)).at_ lo (by rw [HN.out];omega)
        subst hX
        have HCm3:=Lib.hid (fun w'=>HCm.out w' lo hln A' n' c')
        have hT:=HT0.out.mor HMr.out
        have f0:=hT.cell 0
        have f1:=hT.cell 1
        have f2:=hT.cell 2
        have fl:=hT.lt
        simp at f0 f1 f2
        have HKp:=Lib.hid (fun w' (h':Mor wr w')=>show (w'.cell? ⟨bT,0,none⟩=some (.string ky)∧w'.cell? ⟨bT,1,none⟩=some (.int .i64 dy)∧w'.cell? ⟨bT,2,none⟩=some (.slice B p q)∧w'.cell? (x'.add (lo*3))=some (.string (ne es lo).key)∧w'.cell? ⟨(x'.add (lo*3)).block,(x'.add (lo*3)).off+1,none⟩=some (.int .i64 (ne es lo).day)∧w'.cell? ⟨(x'.add (lo*3)).block,(x'.add (lo*3)).off+2,none⟩=some (.slice A' n' c')) from by
          have he:=hT.mor h'
          exact ⟨by rw [he.cell];rfl,by rw [he.cell];rfl,by rw [he.cell];rfl,(h'.below.cell (p:=x'.add (lo*3)) (by rw [addb];exact hxb)).trans d0,(h'.below.cell (p:=⟨(x'.add (lo*3)).block,(x'.add (lo*3)).off+1,none⟩) (by rw [addb];exact hxb)).trans d1,(h'.below.cell (p:=⟨(x'.add (lo*3)).block,(x'.add (lo*3)).off+2,none⟩) (by rw [addb];exact hxb)).trans d2⟩)
        generalize (ne es lo).key=ky' at *
        generalize (ne es lo).day=dy' at *
        generalize cmpE (ne es lo) x=cm at *
        clear hT
        go_wp2_with fail
        go_region_held3 (fun w'=>w'.cell? ⟨bT,0,none⟩=some (.string ky)∧w'.cell? ⟨bT,1,none⟩=some (.int .i64 dy)∧w'.cell? ⟨bT,2,none⟩=some (.slice B p q)∧w'.cell? (x'.add (lo*3))=some (.string ky')∧w'.cell? ⟨(x'.add (lo*3)).block,(x'.add (lo*3)).off+1,none⟩=some (.int .i64 dy')∧w'.cell? ⟨(x'.add (lo*3)).block,(x'.add (lo*3)).off+2,none⟩=some (.slice A' n' c')) (exact HKp.out _ (by repeat (first | exact Mor.refl _ | apply Mor.alloc | apply Mor.more | apply Mor.drewN | apply Mor.drew))) (first | (go_at_call 125;(with_reducible refine (HCm3.out _).mono ?_);rintro e w8 ⟨rfl,bs3,dr3,rfl⟩) | (go_at_fn 125;(with_reducible refine (HCm3.out _).mono ?_);rintro e w8 ⟨rfl,bs3,dr3,rfl⟩))
        obtain ⟨wn,hwn⟩:∃ wn,wn=more wr bs3 dr3:=⟨_,rfl⟩
        rw [← hwn]
        have HMn:=Lib.hid (show Mor w0 wn by rw [hwn];exact HMr.out.trans' (Mor.refl _).more)
        clear hwn HKp
        go_wp2_with fail
        go_returns
        exact ⟨_,by rw [HF.out] <;> rfl,HM0.out.trans' HMn.out⟩
      · have hhn:¬ (lo:Int) < (n:Int):=by omega
        have hhb:decide ((lo:Int) < (n:Int))=false:=by simpa using hhn
        go_wp2_with fail
        go_quiet (fail)
        go_wp2_with fail
        go_returns
        exact ⟨_,by rw [HF.out] <;> rfl,(HM0.out.trans' HMr.out).drewN⟩
end Go.Proofs.YtdhbkifpodekcaaGreatDoor
