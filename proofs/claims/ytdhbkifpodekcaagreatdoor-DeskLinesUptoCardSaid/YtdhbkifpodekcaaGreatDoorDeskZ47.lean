/- Texts of this claim. -/
import Derived.Test.YtdhbkifpodekcaaGreatDoorDeskZ46
import Derived.Deep.DeepCutAuto
import Derived.Deep.RegionWith
namespace Go.Proofs.YtdhbkifpodekcaaGreatDoor.Ac
open Go.ChangeShapes Go.WideShapes Go.ChangeAt Go.RowKit Stb
set_option linter.unusedVariables false
set_option maxRecDepth 100000
structure SaysC (w:World) (g c:Nat) (cb:Array Value) (pe:Ln→Prop) (key:Ln→Int) (C:Ln→Ln→Int):Prop where
  sign:∀ x y,pe x→pe y→(C x y < 0↔key x < key y)
  says:∀ (w':World),On g w w'→∀ x y,pe x→pe y→Calls Tryz.prog c (#[.agg #[.string x.1,.int .i64 x.2],.agg #[.string y.1,.int .i64 y.2]]++cb) w' fun e w''=>e=.returned (.int .i64 (C x y))∧Mor w' w''
theorem SaysC.on {w w1:World} {g c:Nat} {cb:Array Value} {pe:Ln→Prop} {key:Ln→Int} {C:Ln→Ln→Int} (h:SaysC w g c cb pe key C) (ho:On g w w1):SaysC w1 g c cb pe key C :=
  ⟨h.sign,fun w' h' x y hx hy=>h.says w' (ho.trans h') x y hx hy⟩
def AllP (pe:Ln→Prop) (xs:List Ln):Prop:=∀ i,i < xs.length→pe (ge xs i)
theorem AllP.rot {pe:Ln→Prop} {xs ys:List Ln} {s m e:Nat} (h:AllP pe xs) (hr:Rot xs ys s m e) (he:e≤xs.length) (h1:s≤m) (h2:m≤e):AllP pe ys:=fun i hi=>by
  have hl:=hr.len
  have e1:=hr.at_ i
  have hx:rix s m e i < xs.length:=by unfold rix;split <;> (try split) <;> omega
  rw [ge_some hi,ge_some hx] at e1
  injection e1 with e1
  rw [e1];exact h _ hx
theorem AllP.mg {pe:Ln→Prop} {key:Ln→Int} {xs ys:List Ln} {a b:Nat} (h:AllP pe xs) (hm:Mg key xs ys a b) (hb:b≤xs.length):AllP pe ys:=fun i hi=>by
  have hl:=hm.chg.len
  by_cases c:i < a∨b≤i
  · have e1:=hm.chg.out i c
    rw [ge_some hi,ge_some (by omega)] at e1
    injection e1 with e1
    rw [e1];exact h _ (by omega)
  · have:ge ys i∈seg ys a b:=(mem_seg (by omega)).2 ⟨i,by omega,by omega,rfl⟩
    obtain ⟨j,j1,j2,e⟩:=(mem_seg hb).1 (hm.same.mem this)
    rw [← e];exact h j (by omega)
set_option maxRecDepth 100000 in
set_option maxHeartbeats 3200000 in
theorem ins_any (g N cap a b c:Nat) (cb:Array Value) (pe:Ln→Prop) (key:Ln→Int) (C:Ln→Ln→Int) (xs:List Ln) (w:World) (eg:∀ args w,(callFunc c args).run Tryz.prog w=.ok (.enter c args) w) (hs:SaysC w g c cb pe key C) (hp:AllP pe xs) (hd:Dat w g xs) (hN:xs.length=N) (hl:N≤1000) (h1:a≤b) (h2:b≤N) :
    Calls Tryz.prog 191 #[.slice (some ⟨g,0,none⟩) N cap,.int .i64 a,.int .i64 b,.func (.func c) #[] cb] w (ModPost w g (fun ys=>Mg key xs ys a b)):=by
  have HD:=Lib.hid hd
  have HN:=Lib.hid hN
  have HS:=Lib.hid hs
  have HP:=Lib.hid hp
  clear hd hN hs hp
  go_enter Tryz.func191,Tryz.ntmps191
  go_wp2
  go_loopw [8] (fun vi wr=>∃ (i:Nat) (ys:List Ln),vi=.int .i64 i∧a < i∧i≤b+1∧Hid (ys.length=N)∧Hid (Mg key xs ys a (min i b))∧Hid (AllP pe ys)∧Hid (Dat wr g ys)∧Hid (On g w wr)) (fun vi _=>b+1 - (intOf vi).toNat)
  case atStart =>
    refine ⟨a+1,xs,by go_num,by omega,by omega,HN,Lib.hid ?_,HP,HD,Lib.hid (On.refl _ _)⟩
    by_cases e:a < b
    · rw [Nat.min_eq_left (by omega)];exact Mg.single _ _ (by rw [HN.out];omega)
    · rw [Nat.min_eq_right (by omega),show b=a by omega];exact Mg.one _ _ (by rw [HN.out];omega)
  case round =>
    obtain ⟨i,ys,rfl,i1,i2,HL,HM,HA,HY,HO⟩:=hrel
    by_cases hib:i < b
    · have hibi:(i:Int) < (b:Int):=by omega
      have HM':=Lib.hid (show Mg key xs ys a i by have:=HM.out;rw [Nat.min_eq_left (by omega)] at this;exact this)
      clear HM
      go_wp2
      go_loopw [9] (fun vj wr=>∃ (j:Nat) (zs:List Ln),vj=.int .i64 j∧a≤j∧j≤i∧Hid (Rot ys zs j i (i+1))∧Hid (j < i→key (ge ys i) < key (ge ys j))∧Hid (Dat wr g zs)∧Hid (On g w wr)) (fun vj _=>(intOf vj).toNat)
      case atStart=>exact ⟨i,ys,rfl,by omega,Nat.le_refl _,Lib.hid (Rot.none_l _ _ _ (by omega)),Lib.hid (fun h=>absurd h (Nat.lt_irrefl _)),HY,HO⟩
      case round =>
        obtain ⟨j,zs,rfl,j1,j2,HR,HC,HZ,HOz⟩:=hrel
        have hlz:zs.length=N:=by rw [HR.out.len,HL.out]
        have HOut:=Lib.hid (fun (h:a < j→key (ge ys (j - 1))≤key (ge ys i))=>show Mg key ys zs a (i+1) from
          rot_mg (s:=j) (m:=i) (e:=i+1) j1 j2 (by omega) (Nat.le_refl _) (by rw [HL.out];omega) HM'.out.srt
            ((srt_seg (by rw [HL.out];omega)).2 fun p q h1 h2 h3=>by omega) (fun h1 _=>by have:=HC.out h1;simpa using this) (fun _ h=>by omega) (fun _ h=>by omega) (fun h' _=>h h') HR.out)
        have HAz:=Lib.hid (HA.out.rot HR.out (by rw [HL.out];omega) j2 (by omega))
        have HLz:=Lib.hid hlz
        by_cases hja:a < j
        · have hjai:(a:Int) < (j:Int):=by omega
          obtain ⟨q,hq⟩:∃ q,q=j - 1:=⟨_,rfl⟩
          have e1:(j:Int) - 1=(q:Int):=by omega
          have q0:(0:Int)≤(q:Int):=by omega
          have j0:(0:Int)≤(j:Int):=by omega
          have qN:(q:Int) < (N:Int):=by omega
          have jN:(j:Int) < (N:Int):=by omega
          have HQ:=Lib.hid hq
          have wq:IntKind.i64.wrap (q:Int)=(q:Int):=IntWalk.i64_in _ (by omega)
          have HCel:=Lib.hid (fun w' (h:Dat w' g zs)=>show (w'.cell? ⟨g,j*2,none⟩=some (.string (ge zs j).1)∧w'.cell? ⟨g,j*2+1,none⟩=some (.int .i64 (ge zs j).2)∧w'.cell? ⟨g,q*2,none⟩=some (.string (ge zs q).1)∧w'.cell? ⟨g,q*2+1,none⟩=some (.int .i64 (ge zs q).2))∧w'.frozen? ⟨g,j*2,none⟩=false∧w'.frozen? ⟨g,j*2+1,none⟩=false∧w'.frozen? ⟨g,q*2,none⟩=false∧w'.frozen? ⟨g,q*2+1,none⟩=false from
            ⟨⟨(h.cell j (by omega)).1,(h.cell j (by omega)).2,(h.cell q (by omega)).1,(h.cell q (by omega)).2⟩,(h.frozen j).1,(h.frozen j).2,(h.frozen q).1,(h.frozen q).2⟩)
          have HCmp:=Lib.hid (fun w' (h:On g wr w')=>HS.out.says w' (HOz.out.trans h) (ge zs j) (ge zs q) (HAz.out j (by omega)) (HAz.out q (by omega)))
          have hsg:=HS.out.sign (ge zs j) (ge zs q) (HAz.out j (by omega)) (HAz.out q (by omega))
          have ej:ge zs j=ge ys i:=by
            have:=HR.out.at_ j
            rw [rix,if_neg (by omega),if_pos (by omega),show j+(i - j)=i by omega,ge_some (by omega),ge_some (by rw [HL.out];omega)] at this
            injection this
          have eq:ge zs q=ge ys q:=by
            have:=HR.out.at_ q
            rw [rix,if_pos (by omega),ge_some (by omega),ge_some (by rw [HL.out];omega)] at this
            injection this
          have HE:=Lib.hid (And.intro ej eq)
          have HSw:=Lib.hid (show Rot ys (swp zs j q) q i (i+1) by rw [hq];exact HR.out.down (by omega) j2 (by rw [HL.out];omega))
          have HDs:=Lib.hid (fun w' (h:Dat w' g zs)=>h.swp j q (by omega) (by omega))
          have HO2:=Lib.hid (fun w' (h:On g w w')=>h.swp4 j q (ge zs j) (ge zs q))
          have hjq:j≠q:=by omega
          have HY0:=Lib.hid (fun h:key (ge zs j) < key (ge zs q)=>show q < i→key (ge ys i) < key (ge ys q) from fun _=>by rw [← ej,← eq];exact h)
          have HN0:=Lib.hid (fun h:¬ key (ge zs j) < key (ge zs q)=>show a < j→key (ge ys (j - 1))≤key (ge ys i) from fun _=>by rw [← ej,← hq,← eq];omega)
          clear hq ej eq hlz
          generalize ge zs j=u at *
          generalize ge zs q=v at *
          have HKp:=Lib.hid (fun w' (h:Mor wr w')=>(HCel.out w' (HZ.out.mor h)).1)
          obtain ⟨⟨cj,cj',cq,cq'⟩,fj,fj',fq,fq'⟩:=HCel.out _ HZ.out
          generalize C u v=cv at *
          by_cases hk:key u < key v
          · have HK:=Lib.hid (HY0.out hk)
            have hv:cv < 0:=hsg.2 hk
            clear hk hsg
            go_wp2
            go_region_held3 (fun w'=>w'.cell? ⟨g,j*2,none⟩=some (.string u.1)∧w'.cell? ⟨g,j*2+1,none⟩=some (.int .i64 u.2)∧w'.cell? ⟨g,q*2,none⟩=some (.string v.1)∧w'.cell? ⟨g,q*2+1,none⟩=some (.int .i64 v.2)) (exact HKp.out _ (by repeat (first | exact Mor.refl _ | apply Mor.alloc | apply Mor.more | apply Mor.drewN | apply Mor.drew))) (first | (go_at_fn c;(with_reducible refine (HCmp.out _ (On.of_mor (by repeat (first | exact Mor.refl _ | apply Mor.alloc | apply Mor.more | apply Mor.drewN | apply Mor.drew)))).mono ?_);rintro e w1 ⟨rfl,bs,k,rfl⟩))
            obtain ⟨wn,hwn⟩:∃ wn,wn=more wr bs k:=⟨_,rfl⟩
            rw [← hwn]
            have HZn:=Lib.hid (show Dat wn g zs by rw [hwn];exact HZ.out.mor (Mor.refl _).more)
            have HOn:=Lib.hid (show On g w wn by rw [hwn];exact HOz.out.mor (Mor.refl _).more)
            clear hwn HKp
            obtain ⟨⟨dj,dj',dq,dq'⟩,gj,gj',gq,gq'⟩:=HCel.out _ HZn.out
            go_wp2
            go_region
            all_goals go_wp2
            go_roundw
            case rel=>exact ⟨q,swp zs j q,rfl,by have:=HQ.out;omega,by have:=HQ.out;omega,HSw,HK,Lib.hid (Dat.drew (HDs.out _ HZn.out)),Lib.hid (On.drew (HO2.out _ HOn.out))⟩
            case measure=>simp [intOf];have:=HQ.out;omega
          · have HK:=Lib.hid (HN0.out hk)
            have hv:¬ cv < 0:=fun h=>hk (hsg.1 h)
            clear hk hsg
            go_wp2
            go_region_held3 (fun w'=>w'.cell? ⟨g,j*2,none⟩=some (.string u.1)∧w'.cell? ⟨g,j*2+1,none⟩=some (.int .i64 u.2)∧w'.cell? ⟨g,q*2,none⟩=some (.string v.1)∧w'.cell? ⟨g,q*2+1,none⟩=some (.int .i64 v.2)) (exact HKp.out _ (by repeat (first | exact Mor.refl _ | apply Mor.alloc | apply Mor.more | apply Mor.drewN | apply Mor.drew))) (first | (go_at_fn c;(with_reducible refine (HCmp.out _ (On.of_mor (by repeat (first | exact Mor.refl _ | apply Mor.alloc | apply Mor.more | apply Mor.drewN | apply Mor.drew)))).mono ?_);rintro e w1 ⟨rfl,bs,k,rfl⟩))
            obtain ⟨wn,hwn⟩:∃ wn,wn=more wr bs k:=⟨_,rfl⟩
            rw [← hwn]
            have HZn:=Lib.hid (show Dat wn g zs by rw [hwn];exact HZ.out.mor (Mor.refl _).more)
            have HOn:=Lib.hid (show On g w wn by rw [hwn];exact HOz.out.mor (Mor.refl _).more)
            clear hwn HKp
            go_wp2
            go_roundw
            case rel=>exact ⟨i+1,zs,by go_num,by omega,by omega,HLz,Lib.hid (by rw [Nat.min_eq_left (by omega)];exact HM'.out.step (HOut.out HK.out) (by omega)),HAz,HZn,HOn⟩
            case measure=>simp [intOf];omega
        · have hjai:¬ ((a:Int) < (j:Int)):=by omega
          go_wp2
          go_quiet (fail)
          go_wp2
          go_roundw
          case rel=>exact ⟨i+1,zs,by go_num,by omega,by omega,HLz,Lib.hid (by rw [Nat.min_eq_left (by omega)];exact HM'.out.step (HOut.out (fun h=>absurd h hja)) (by omega)),HAz,Lib.hid (Dat.mor HZ.out (by repeat (first | exact Mor.refl _ | apply Mor.alloc | apply Mor.more | apply Mor.drewN | apply Mor.drew))),Lib.hid (On.mor HOz.out (by repeat (first | exact Mor.refl _ | apply Mor.alloc | apply Mor.more | apply Mor.drewN | apply Mor.drew)))⟩
          case measure=>simp [intOf];omega
    · have hibi:¬ ((i:Int) < (b:Int)):=by omega
      have HM':=Lib.hid (show Mg key xs ys a b by have:=HM.out;rw [Nat.min_eq_right (by omega)] at this;exact this)
      go_wp2
      go_end0
      exact ⟨rfl,ys,HM'.out,HY.out,HO.out⟩
set_option maxRecDepth 100000 in
set_option maxHeartbeats 3200000 in
theorem sym_l (g N cap a b c:Nat) (cb:Array Value) (pe:Ln→Prop) (key:Ln→Int) (C:Ln→Ln→Int) (xs:List Ln) (w:World) (eg:∀ args w,(callFunc c args).run Tryz.prog w=.ok (.enter c args) w) (hs:SaysC w g c cb pe key C) (hp:AllP pe xs) (hd:Dat w g xs) (hN:xs.length=N) (hl:N≤1000)
    (h1:a+1 < b) (h2:b≤N) (s2:Srt key (seg xs (a+1) b)) :
    Calls Tryz.prog 192 #[.slice (some ⟨g,0,none⟩) N cap,.int .i64 a,.int .i64 (a+1:Nat),.int .i64 b,.func (.func c) #[] cb] w (ModPost w g (fun ys=>Mg key xs ys a b)):=by
  have HD:=Lib.hid hd
  have HN:=Lib.hid hN
  have HS:=Lib.hid hs
  have HP:=Lib.hid hp
  have HS2:=Lib.hid s2
  clear hd hN hs hp s2
  obtain ⟨m,hm⟩:∃ m,m=a+1:=⟨_,rfl⟩
  have HMm:=Lib.hid hm
  have e0:(m:Int) - (a:Int)=1:=by omega
  rw [← hm]
  rw [← hm] at h1
  clear hm
  go_enter Tryz.func192,Tryz.ntmps192
  go_wp2
  go_loopw [10,11] (fun vi vj wr=>∃ i j:Nat,vi=.int .i64 i∧vj=.int .i64 j∧m≤i∧i≤j∧j≤b∧Hid (∀ k,m≤k→k < i→key (ge xs k) < key (ge xs a))∧Hid (∀ k,j≤k→k < b→key (ge xs a)≤key (ge xs k))∧Hid (Dat wr g xs)∧Hid (On g w wr)) (fun vi vj _=>(intOf vj - intOf vi).toNat)
  case atStart=>exact ⟨m,b,rfl,rfl,Nat.le_refl _,by omega,Nat.le_refl _,Lib.hid (fun k h1 h2=>by omega),Lib.hid (fun k h1 h2=>by omega),HD,Lib.hid (On.refl _ _)⟩
  case round =>
    obtain ⟨i,j,rfl,rfl,i1,i2,i3,HA,HB,HY,HO⟩:=hrel
    by_cases hlt:i < j
    · have hki:(i:Int) < (j:Int):=by omega
      obtain ⟨h,hh⟩:∃ h:Nat,h=(i+j) / 2:=⟨_,rfl⟩
      have hm1:((i:Int)+(j:Int)) / 2=(h:Int):=by omega
      have b1:i≤h:=by omega
      have b2:h < j:=by omega
      have h0:(0:Int)≤(h:Int):=by omega
      have hN':(h:Int) < (N:Int):=by omega
      have a0:(0:Int)≤(a:Int):=by omega
      have aN:(a:Int) < (N:Int):=by have:=HMm.out;omega
      obtain ⟨ch,ch'⟩:=HY.out.cell h (by rw [HN.out];omega)
      obtain ⟨ca,ca'⟩:=HY.out.cell a (by rw [HN.out];omega)
      have HKp:=Lib.hid (fun w' (o:Mor wr w')=>show w'.cell? ⟨g,h*2,none⟩=some (.string (ge xs h).1)∧w'.cell? ⟨g,h*2+1,none⟩=some (.int .i64 (ge xs h).2)∧w'.cell? ⟨g,a*2,none⟩=some (.string (ge xs a).1)∧w'.cell? ⟨g,a*2+1,none⟩=some (.int .i64 (ge xs a).2) from ⟨((HY.out.mor o).cell h (by rw [HN.out];omega)).1,((HY.out.mor o).cell h (by rw [HN.out];omega)).2,((HY.out.mor o).cell a (by rw [HN.out];omega)).1,((HY.out.mor o).cell a (by rw [HN.out];omega)).2⟩)
      have HCmp:=Lib.hid (fun w' (o:On g wr w')=>HS.out.says w' (HO.out.trans o) (ge xs h) (ge xs a) (HP.out h (by rw [HN.out];omega)) (HP.out a (by rw [HN.out];omega)))
      have hsg:=HS.out.sign (ge xs h) (ge xs a) (HP.out h (by rw [HN.out];omega)) (HP.out a (by rw [HN.out];omega))
      have HI2:=Lib.hid ((srt_seg (key:=key) (by rw [HN.out];exact h2)).1 HS2.out)
      have HLo:=Lib.hid (fun hv:key (ge xs h) < key (ge xs a)=>show ∀ k,m≤k→k < h+1→key (ge xs k) < key (ge xs a) from fun k k1 k2=>by
        by_cases e:k=h
        · subst e;exact hv
        · have:=HI2.out k h (by rw [← HMm.out];exact k1) (by omega) (by omega);omega)
      have HHi:=Lib.hid (fun hv:¬ key (ge xs h) < key (ge xs a)=>show ∀ k,h≤k→k < b→key (ge xs a)≤key (ge xs k) from fun k k1 k2=>by
        by_cases e:k=h
        · subst e;omega
        · have:=HI2.out h k (by rw [← HMm.out];omega) (by omega) (by omega);omega)
      clear hh
      generalize C (ge xs h) (ge xs a)=cv at *
      by_cases hk:key (ge xs h) < key (ge xs a)
      · have HL':=Lib.hid (HLo.out hk)
        have hv:cv < 0:=hsg.2 hk
        clear hk hsg
        generalize ge xs h=u at *
        generalize ge xs a=v at *
        go_wp2
        go_region_held3 (fun w'=>w'.cell? ⟨g,h*2,none⟩=some (.string u.1)∧w'.cell? ⟨g,h*2+1,none⟩=some (.int .i64 u.2)∧w'.cell? ⟨g,a*2,none⟩=some (.string v.1)∧w'.cell? ⟨g,a*2+1,none⟩=some (.int .i64 v.2)) (exact HKp.out _ (by repeat (first | exact Mor.refl _ | apply Mor.alloc | apply Mor.more | apply Mor.drewN | apply Mor.drew))) (first | (go_at_fn c;(with_reducible refine (HCmp.out _ (On.of_mor (by repeat (first | exact Mor.refl _ | apply Mor.alloc | apply Mor.more | apply Mor.drewN | apply Mor.drew)))).mono ?_);rintro e w1 ⟨rfl,bs,dr,rfl⟩))
        go_wp2
        go_roundw
        case rel=>exact ⟨h+1,j,by go_num,rfl,by omega,by omega,i3,HL',HB,Lib.hid (Dat.mor HY.out (by repeat (first | exact Mor.refl _ | apply Mor.alloc | apply Mor.more | apply Mor.drewN | apply Mor.drew))),Lib.hid (On.mor HO.out (by repeat (first | exact Mor.refl _ | apply Mor.alloc | apply Mor.more | apply Mor.drewN | apply Mor.drew)))⟩
        case measure=>simp [intOf];omega
      · have HH':=Lib.hid (HHi.out hk)
        have hv:¬ cv < 0:=fun h=>hk (hsg.1 h)
        clear hk hsg
        generalize ge xs h=u at *
        generalize ge xs a=v at *
        go_wp2
        go_region_held3 (fun w'=>w'.cell? ⟨g,h*2,none⟩=some (.string u.1)∧w'.cell? ⟨g,h*2+1,none⟩=some (.int .i64 u.2)∧w'.cell? ⟨g,a*2,none⟩=some (.string v.1)∧w'.cell? ⟨g,a*2+1,none⟩=some (.int .i64 v.2)) (exact HKp.out _ (by repeat (first | exact Mor.refl _ | apply Mor.alloc | apply Mor.more | apply Mor.drewN | apply Mor.drew))) (first | (go_at_fn c;(with_reducible refine (HCmp.out _ (On.of_mor (by repeat (first | exact Mor.refl _ | apply Mor.alloc | apply Mor.more | apply Mor.drewN | apply Mor.drew)))).mono ?_);rintro e w1 ⟨rfl,bs,dr,rfl⟩))
        go_wp2
        go_roundw
        case rel=>exact ⟨i,h,rfl,rfl,i1,b1,by omega,HA,HH',Lib.hid (Dat.mor HY.out (by repeat (first | exact Mor.refl _ | apply Mor.alloc | apply Mor.more | apply Mor.drewN | apply Mor.drew))),Lib.hid (On.mor HO.out (by repeat (first | exact Mor.refl _ | apply Mor.alloc | apply Mor.more | apply Mor.drewN | apply Mor.drew)))⟩
        case measure=>simp [intOf];omega
    · obtain rfl:j=i:=by omega
      have HR0:=Lib.hid (fun ys (hr:Rot xs ys a (a+1) j)=>show Mg key xs ys a b from
        rot_mg (s:=a) (m:=a+1) (e:=j) (Nat.le_refl _) (by omega) (by have:=HMm.out;omega) i3 (by rw [HN.out];exact h2)
          ((srt_seg (by rw [HN.out];have:=HMm.out;omega)).2 fun p q h1 h2 h3=>by omega) HS2.out
          (fun _ q=>HA.out (j - 1) (by have:=HMm.out;omega) (by omega)) (fun q _=>by omega)
          (fun _ q=>by have:=HB.out j (Nat.le_refl _) q;rw [show a+1 - 1=a by omega];exact this) (fun q _=>by omega) hr)
      obtain ⟨q,hq⟩:∃ q,q=j - 1:=⟨_,rfl⟩
      have e1:(j:Int) - 1=(q:Int):=by omega
      have wq:IntKind.i64.wrap (q:Int)=(q:Int):=IntWalk.i64_in _ (by omega)
      have HQ:=Lib.hid hq
      have hq2:a≤q:=by have:=HMm.out;omega
      have hq3:q+1≤N:=by omega
      clear hq
      go_wp2
      go_loopw [13] (fun vk wr2=>∃ (k:Nat) (ys:List Ln),vk=.int .i64 k∧a≤k∧k≤q∧Hid (Rot xs ys a (a+1) (k+1))∧Hid (Dat wr2 g ys)∧Hid (On g w wr2)) (fun vk _=>q - (intOf vk).toNat)
      case atStart=>exact ⟨a,xs,rfl,Nat.le_refl _,hq2,Lib.hid (Rot.none_r _ _ _ (by omega)),HY,HO⟩
      case round =>
        obtain ⟨k,ys,rfl,k1,k2,HR,HZ,HOz⟩:=hrel
        have hly:ys.length=N:=by rw [HR.out.len,HN.out]
        by_cases hkq:k < q
        · have hkqi:(k:Int) < (q:Int):=by omega
          obtain ⟨p,hp⟩:∃ p,p=k+1:=⟨_,rfl⟩
          have e2:(k:Int)+1=(p:Int):=by omega
          have k0:(0:Int)≤(k:Int):=by omega
          have p0:(0:Int)≤(p:Int):=by omega
          have kN:(k:Int) < (N:Int):=by omega
          have pN:(p:Int) < (N:Int):=by omega
          obtain ⟨ck,ck'⟩:=HZ.out.cell k (by omega)
          obtain ⟨cp,cp'⟩:=HZ.out.cell p (by omega)
          obtain ⟨fk,fk'⟩:=HZ.out.frozen k
          obtain ⟨fp,fp'⟩:=HZ.out.frozen p
          have HR':=Lib.hid (show Rot xs (swp ys k p) a (a+1) (p+1) by rw [hp];exact HR.out.up k1 (by rw [HN.out];omega))
          have HZ':=Lib.hid (HZ.out.swp k p (by omega) (by omega))
          have HO':=Lib.hid (HOz.out.swp4 k p (ge ys k) (ge ys p))
          have hkp:k≠p:=by omega
          have hpq:p≤q:=by omega
          have hap:a≤p:=by omega
          have HPk:=Lib.hid (show k < p by omega)
          generalize ge ys k=u at *
          generalize ge ys p=v at *
          clear hp
          go_wp2
          go_region
          all_goals go_wp2
          go_roundw
          case rel=>exact ⟨p,swp ys k p,rfl,hap,hpq,HR',Lib.hid (Dat.drew HZ'.out),Lib.hid (On.drew HO'.out)⟩
          case measure=>simp [intOf];have:=HPk.out;omega
        · obtain rfl:q=k:=by omega
          go_wp2
          first | go_end0 | go_returns
          exact ⟨rfl,ys,HR0.out ys (by have:=HR.out;rw [HQ.out,show j - 1+1=j by omega] at this;exact this),HZ.out,HOz.out⟩
set_option maxRecDepth 100000 in
set_option maxHeartbeats 3200000 in
theorem sym_r (g N cap a m c:Nat) (cb:Array Value) (pe:Ln→Prop) (key:Ln→Int) (C:Ln→Ln→Int) (xs:List Ln) (w:World) (eg:∀ args w,(callFunc c args).run Tryz.prog w=.ok (.enter c args) w) (hs:SaysC w g c cb pe key C) (hp:AllP pe xs) (hd:Dat w g xs) (hN:xs.length=N) (hl:N≤1000)
    (h1:a+1 < m) (h2:m+1≤N) (s1:Srt key (seg xs a m)) :
    Calls Tryz.prog 192 #[.slice (some ⟨g,0,none⟩) N cap,.int .i64 a,.int .i64 m,.int .i64 (m+1:Nat),.func (.func c) #[] cb] w (ModPost w g (fun ys=>Mg key xs ys a (m+1))):=by
  have HD:=Lib.hid hd
  have HN:=Lib.hid hN
  have HS:=Lib.hid hs
  have HP:=Lib.hid hp
  have HS1:=Lib.hid s1
  clear hd hN hs hp s1
  obtain ⟨b,hb⟩:∃ b,b=m+1:=⟨_,rfl⟩
  have HMb:=Lib.hid hb
  have e0:(b:Int) - (m:Int)=1:=by omega
  obtain ⟨d,hd⟩:∃ d,d=m - a:=⟨_,rfl⟩
  have ed:(m:Int) - (a:Int)=(d:Int):=by omega
  have ed2:((d:Int) == 1)=false:=by simp;omega
  rw [← hb]
  rw [← hb] at h2
  clear hb hd
  go_enter Tryz.func192,Tryz.ntmps192
  go_wp2
  go_loopw [14,15] (fun vi vj wr=>∃ i j:Nat,vi=.int .i64 i∧vj=.int .i64 j∧a≤i∧i≤j∧j≤m∧Hid (∀ k,a≤k→k < i→key (ge xs k)≤key (ge xs m))∧Hid (∀ k,j≤k→k < m→key (ge xs m) < key (ge xs k))∧Hid (Dat wr g xs)∧Hid (On g w wr)) (fun vi vj _=>(intOf vj - intOf vi).toNat)
  case atStart=>exact ⟨a,m,rfl,rfl,Nat.le_refl _,by omega,Nat.le_refl _,Lib.hid (fun k h1 h2=>by omega),Lib.hid (fun k h1 h2=>by omega),HD,Lib.hid (On.refl _ _)⟩
  case round =>
    obtain ⟨i,j,rfl,rfl,i1,i2,i3,HA,HB,HY,HO⟩:=hrel
    by_cases hlt:i < j
    · have hki:(i:Int) < (j:Int):=by omega
      obtain ⟨h,hh⟩:∃ h:Nat,h=(i+j) / 2:=⟨_,rfl⟩
      have hm1:((i:Int)+(j:Int)) / 2=(h:Int):=by omega
      have b1:i≤h:=by omega
      have b2:h < j:=by omega
      have h0:(0:Int)≤(h:Int):=by omega
      have hN':(h:Int) < (N:Int):=by omega
      have a0:(0:Int)≤(m:Int):=by omega
      have aN:(m:Int) < (N:Int):=by have:=HMb.out;omega
      obtain ⟨ch,ch'⟩:=HY.out.cell h (by rw [HN.out];omega)
      obtain ⟨ca,ca'⟩:=HY.out.cell m (by rw [HN.out];omega)
      have HKp:=Lib.hid (fun w' (o:Mor wr w')=>show w'.cell? ⟨g,m*2,none⟩=some (.string (ge xs m).1)∧w'.cell? ⟨g,m*2+1,none⟩=some (.int .i64 (ge xs m).2)∧w'.cell? ⟨g,h*2,none⟩=some (.string (ge xs h).1)∧w'.cell? ⟨g,h*2+1,none⟩=some (.int .i64 (ge xs h).2) from ⟨((HY.out.mor o).cell m (by rw [HN.out];omega)).1,((HY.out.mor o).cell m (by rw [HN.out];omega)).2,((HY.out.mor o).cell h (by rw [HN.out];omega)).1,((HY.out.mor o).cell h (by rw [HN.out];omega)).2⟩)
      have HCmp:=Lib.hid (fun w' (o:On g wr w')=>HS.out.says w' (HO.out.trans o) (ge xs m) (ge xs h) (HP.out m (by rw [HN.out];omega)) (HP.out h (by rw [HN.out];omega)))
      have hsg:=HS.out.sign (ge xs m) (ge xs h) (HP.out m (by rw [HN.out];omega)) (HP.out h (by rw [HN.out];omega))
      have HI2:=Lib.hid ((srt_seg (key:=key) (by rw [HN.out];omega)).1 HS1.out)
      have HHi:=Lib.hid (fun hv:key (ge xs m) < key (ge xs h)=>show ∀ k,h≤k→k < m→key (ge xs m) < key (ge xs k) from fun k k1 k2=>by
        by_cases e:k=h
        · subst e;exact hv
        · have:=HI2.out h k (by omega) (by omega) (by omega);omega)
      have HLo:=Lib.hid (fun hv:¬ key (ge xs m) < key (ge xs h)=>show ∀ k,a≤k→k < h+1→key (ge xs k)≤key (ge xs m) from fun k k1 k2=>by
        by_cases e:k=h
        · subst e;omega
        · have:=HI2.out k h k1 (by omega) (by omega);omega)
      clear hh
      generalize C (ge xs m) (ge xs h)=cv at *
      by_cases hk:key (ge xs m) < key (ge xs h)
      · have HH':=Lib.hid (HHi.out hk)
        have hvb:(!decide (cv < 0))=false:=by simp;exact hsg.2 hk
        clear hk hsg
        generalize ge xs h=u at *
        generalize ge xs m=v at *
        go_wp2
        go_region_held3 (fun w'=>w'.cell? ⟨g,m*2,none⟩=some (.string v.1)∧w'.cell? ⟨g,m*2+1,none⟩=some (.int .i64 v.2)∧w'.cell? ⟨g,h*2,none⟩=some (.string u.1)∧w'.cell? ⟨g,h*2+1,none⟩=some (.int .i64 u.2)) (exact HKp.out _ (by repeat (first | exact Mor.refl _ | apply Mor.alloc | apply Mor.more | apply Mor.drewN | apply Mor.drew))) (first | (go_at_fn c;(with_reducible refine (HCmp.out _ (On.of_mor (by repeat (first | exact Mor.refl _ | apply Mor.alloc | apply Mor.more | apply Mor.drewN | apply Mor.drew)))).mono ?_);rintro e w1 ⟨rfl,bs,dr,rfl⟩))
        go_wp2
        all_goals (go_roundw;(case rel=>exact ⟨i,h,rfl,rfl,i1,b1,by omega,HA,HH',Lib.hid (Dat.mor HY.out (by repeat (first | exact Mor.refl _ | apply Mor.alloc | apply Mor.more | apply Mor.drewN | apply Mor.drew))),Lib.hid (On.mor HO.out (by repeat (first | exact Mor.refl _ | apply Mor.alloc | apply Mor.more | apply Mor.drewN | apply Mor.drew)))⟩);(case measure=>simp [intOf];omega))
      · have HL':=Lib.hid (HLo.out hk)
        have hvb:(!decide (cv < 0))=true:=by simp;exact Int.not_lt.1 (fun h=>hk (hsg.1 h))
        clear hk hsg
        generalize ge xs h=u at *
        generalize ge xs m=v at *
        go_wp2
        go_region_held3 (fun w'=>w'.cell? ⟨g,m*2,none⟩=some (.string v.1)∧w'.cell? ⟨g,m*2+1,none⟩=some (.int .i64 v.2)∧w'.cell? ⟨g,h*2,none⟩=some (.string u.1)∧w'.cell? ⟨g,h*2+1,none⟩=some (.int .i64 u.2)) (exact HKp.out _ (by repeat (first | exact Mor.refl _ | apply Mor.alloc | apply Mor.more | apply Mor.drewN | apply Mor.drew))) (first | (go_at_fn c;(with_reducible refine (HCmp.out _ (On.of_mor (by repeat (first | exact Mor.refl _ | apply Mor.alloc | apply Mor.more | apply Mor.drewN | apply Mor.drew)))).mono ?_);rintro e w1 ⟨rfl,bs,dr,rfl⟩))
        go_wp2
        all_goals (go_roundw;(case rel=>exact ⟨h+1,j,by go_num,rfl,by omega,by omega,i3,HL',HB,Lib.hid (Dat.mor HY.out (by repeat (first | exact Mor.refl _ | apply Mor.alloc | apply Mor.more | apply Mor.drewN | apply Mor.drew))),Lib.hid (On.mor HO.out (by repeat (first | exact Mor.refl _ | apply Mor.alloc | apply Mor.more | apply Mor.drewN | apply Mor.drew)))⟩);(case measure=>simp [intOf];omega))
    · obtain rfl:j=i:=by omega
      have HR0:=Lib.hid (fun ys (hr:Rot xs ys j m (m+1))=>show Mg key xs ys a (m+1) from
        rot_mg (s:=j) (m:=m) (e:=m+1) i1 i3 (by omega) (Nat.le_refl _) (by rw [HN.out];have:=HMb.out;omega)
          HS1.out ((srt_seg (by rw [HN.out];have:=HMb.out;omega)).2 fun p q h1 h2 h3=>by omega)
          (fun q _=>by have:=HB.out j (Nat.le_refl _) q;simpa using this) (fun _ q=>by omega)
          (fun _ q=>by omega) (fun q _=>HA.out (j - 1) (by omega) (by omega)) hr)
      go_wp2
      go_loopw [17] (fun vk wr2=>∃ (k:Nat) (ys:List Ln),vk=.int .i64 k∧j≤k∧k≤m∧Hid (Rot xs ys k m (m+1))∧Hid (Dat wr2 g ys)∧Hid (On g w wr2)) (fun vk _=>(intOf vk).toNat)
      case atStart=>exact ⟨m,xs,rfl,i3,Nat.le_refl _,Lib.hid (Rot.none_l _ _ _ (by omega)),HY,HO⟩
      case round =>
        obtain ⟨k,ys,rfl,k1,k2,HR,HZ,HOz⟩:=hrel
        have hly:ys.length=N:=by rw [HR.out.len,HN.out]
        by_cases hkq:j < k
        · have hkqi:(j:Int) < (k:Int):=by omega
          obtain ⟨p,hp⟩:∃ p,p=k - 1:=⟨_,rfl⟩
          have e2:(k:Int) - 1=(p:Int):=by omega
          have wp':IntKind.i64.wrap (p:Int)=(p:Int):=IntWalk.i64_in _ (by omega)
          have k0:(0:Int)≤(k:Int):=by omega
          have p0:(0:Int)≤(p:Int):=by omega
          have kN:(k:Int) < (N:Int):=by have:=HMb.out;omega
          have pN:(p:Int) < (N:Int):=by omega
          obtain ⟨ck,ck'⟩:=HZ.out.cell k (by omega)
          obtain ⟨cp,cp'⟩:=HZ.out.cell p (by omega)
          obtain ⟨fk,fk'⟩:=HZ.out.frozen k
          obtain ⟨fp,fp'⟩:=HZ.out.frozen p
          have HR':=Lib.hid (show Rot xs (swp ys k p) p m (m+1) by rw [hp];exact HR.out.down (by omega) k2 (by rw [HN.out];have:=HMb.out;omega))
          have HZ':=Lib.hid (HZ.out.swp k p (by omega) (by omega))
          have HO':=Lib.hid (HOz.out.swp4 k p (ge ys k) (ge ys p))
          have hkp:k≠p:=by omega
          have hpq:j≤p:=by omega
          have hap:p≤m:=by omega
          have HPk:=Lib.hid (show p < k by omega)
          generalize ge ys k=u at *
          generalize ge ys p=v at *
          clear hp
          go_wp2
          go_region
          all_goals go_wp2
          go_roundw
          case rel=>exact ⟨p,swp ys k p,rfl,hpq,hap,HR',Lib.hid (Dat.drew HZ'.out),Lib.hid (On.drew HO'.out)⟩
          case measure=>simp [intOf];have:=HPk.out;omega
        · obtain rfl:k=j:=by omega
          go_wp2
          first | go_end0 | go_returns
          exact ⟨rfl,ys,(by have:=HR0.out ys HR.out;rw [← HMb.out] at this;exact this),HZ.out,HOz.out⟩
end Go.Proofs.YtdhbkifpodekcaaGreatDoor.Ac
namespace Go.Proofs.YtdhbkifpodekcaaGreatDoor.Ac
open Go.ChangeShapes Go.WideShapes Go.ChangeAt Go.RowKit Stb
set_option linter.unusedVariables false
set_option maxRecDepth 100000
set_option linter.unusedSectionVars false
section
variable (key : Ln → Int) (xs : List Ln) (g a m b s e mid : Nat) (w w' : World)
def SymA:Prop:=∃ zs,Rot xs zs s m e∧Dat w' g zs∧On g w w'
def SymB:Prop:=∃ zs us,Rot xs zs s m e∧Mg key zs us a mid∧Dat w' g us∧On g w w'
def SymC:Prop:=∃ zs us vs,Rot xs zs s m e∧Mg key zs us a mid∧Mg key us vs mid b∧Dat w' g vs∧On g w w'
end
def SymIH (g N cap c:Nat) (cb:Array Value) (pe:Ln→Prop) (key:Ln→Int) (C:Ln→Ln→Int) (K:Nat):Prop :=
  ∀ (a m b:Nat) (xs:List Ln) (w:World),b - a < K→a < m→m < b→b≤N→SaysC w g c cb pe key C→AllP pe xs→Dat w g xs→xs.length=N→Srt key (seg xs a m)→Srt key (seg xs m b) →
    Calls Tryz.prog 192 #[.slice (some ⟨g,0,none⟩) N cap,.int .i64 a,.int .i64 m,.int .i64 b,.func (.func c) #[] cb] w (ModPost w g (fun ys=>Mg key xs ys a b))
theorem symA_none {xs:List Ln} {g m s e:Nat} {w w':World} (hs:s≤m) (he:m≤e) (h:¬ (s < m∧m < e)) (hd:Dat w' g xs) (ho:On g w w'):SymA xs g m s e w w':=by
  by_cases h1:s < m
  · obtain rfl:m=e:=by omega
    exact ⟨xs,Rot.none_r _ _ _ hs,hd,ho⟩
  · obtain rfl:s=m:=by omega
    exact ⟨xs,Rot.none_l _ _ _ he,hd,ho⟩
section
variable {key : Ln → Int} {xs : List Ln} {g a m b s e mid : Nat} {w w' : World}
variable (hab : a ≤ s) (hsm : s ≤ m) (hsd : s ≤ mid) (hme : m ≤ e) (hde : mid ≤ e) (heb : e ≤ b) (hb : b ≤ xs.length) (hmid : mid + m = s + e) (h1 : Srt key (seg xs a m)) (h2 : Srt key (seg xs m b))
include hab hsm hsd hme hde heb hb hmid h1 h2
theorem pieces {zs:List Ln} (hr:Rot xs zs s m e):seg zs a s=seg xs a s∧seg zs s mid=seg xs m e∧seg zs mid e=seg xs s m∧seg zs e b=seg xs e b ∧
    Srt key (seg zs a s)∧Srt key (seg zs s mid)∧Srt key (seg zs mid e)∧Srt key (seg zs e b):=by
  have I1:=(srt_seg (key:=key) (show m≤xs.length by omega)).1 h1
  have I2:=(srt_seg (key:=key) hb).1 h2
  have hd:s+(e - m)=mid:=by omega
  have r1:=hr.lo hsm hme
  have r2:=hr.hi hsm hme
  rw [hd] at r1 r2
  have r0:=hr.chg.seg (c:=a) (d:=s) (.inl (Nat.le_refl _))
  have r3:=hr.chg.seg (c:=e) (d:=b) (.inr (Nat.le_refl _))
  refine ⟨r0,r1,r2,r3,?_,?_,?_,?_⟩
  · rw [r0];exact (srt_seg (by omega)).2 fun i j a1 a2 a3=>I1 i j a1 a2 (by omega)
  · rw [r1];exact (srt_seg (by omega)).2 fun i j a1 a2 a3=>I2 i j a1 a2 (by omega)
  · rw [r2];exact (srt_seg (by omega)).2 fun i j a1 a2 a3=>I1 i j (by omega) a2 (by omega)
  · rw [r3];exact (srt_seg (by omega)).2 fun i j a1 a2 a3=>I2 i j (by omega) a2 (by omega)
theorem symB_none (h:¬ (a < s∧s < mid)) (hA:SymA xs g m s e w w'):SymB key xs g a m s e mid w w':=by
  obtain ⟨zs,hr,hd,ho⟩:=hA
  obtain ⟨p1,p2,p3,p4,q1,q2,q3,q4⟩:=pieces hab hsm hsd hme hde heb hb hmid h1 h2 hr
  refine ⟨zs,zs,hr,Mg.id ?_,hd,ho⟩
  by_cases c:a < s
  · obtain rfl:s=mid:=by omega
    exact q1
  · obtain rfl:a=s:=by omega
    exact q2
theorem symC_none (h:¬ (mid < e∧e < b)) (hB:SymB key xs g a m s e mid w w'):SymC key xs g a m b s e mid w w':=by
  obtain ⟨zs,us,hr,hu,hd,ho⟩:=hB
  obtain ⟨p1,p2,p3,p4,q1,q2,q3,q4⟩:=pieces hab hsm hsd hme hde heb hb hmid h1 h2 hr
  refine ⟨zs,us,us,hr,hu,Mg.id ?_,hd,ho⟩
  rw [hu.chg.seg (.inr (Nat.le_refl _))]
  by_cases c:mid < e
  · obtain rfl:e=b:=by omega
    exact q3
  · obtain rfl:mid=e:=by omega
    exact q4
variable {N cap c : Nat} {cb : Array Value} {pe : Ln → Prop} {C : Ln → Ln → Int} (hs : SaysC w g c cb pe key C) (hp : AllP pe xs) (hN : xs.length = N)
include hs hp hN
theorem symB_call (IH:SymIH g N cap c cb pe key C (b - a)) (l1:a < s) (l2:s < mid) (hmb:mid < b) (hA:SymA xs g m s e w w') :
    Calls Tryz.prog 192 #[.slice (some ⟨g,0,none⟩) N cap,.int .i64 a,.int .i64 s,.int .i64 mid,.func (.func c) #[] cb] w' (fun r w''=>r=.returned (.tuple #[])∧SymB key xs g a m s e mid w w''):=by
  obtain ⟨zs,hr,hd,ho⟩:=hA
  obtain ⟨p1,p2,p3,p4,q1,q2,q3,q4⟩:=pieces hab hsm hsd hme hde heb hb hmid h1 h2 hr
  refine (IH a s mid zs w' (by omega) l1 l2 (by omega) (hs.on ho) (hp.rot hr (by omega) hsm hme) hd (by rw [hr.len,hN]) q1 q2).mono ?_
  rintro r w'' ⟨rfl,us,hu,hd',ho'⟩
  exact ⟨rfl,zs,us,hr,hu,hd',ho.trans ho'⟩
theorem symC_call (IH:SymIH g N cap c cb pe key C (b - a)) (l1:mid < e) (l2:e < b) (ham:a < mid) (hB:SymB key xs g a m s e mid w w') :
    Calls Tryz.prog 192 #[.slice (some ⟨g,0,none⟩) N cap,.int .i64 mid,.int .i64 e,.int .i64 b,.func (.func c) #[] cb] w' (fun r w''=>r=.returned (.tuple #[])∧SymC key xs g a m b s e mid w w''):=by
  obtain ⟨zs,us,hr,hu,hd,ho⟩:=hB
  obtain ⟨p1,p2,p3,p4,q1,q2,q3,q4⟩:=pieces hab hsm hsd hme hde heb hb hmid h1 h2 hr
  have hz:=hp.rot hr (by omega) hsm hme
  refine (IH mid e b us w' (by omega) l1 l2 (by omega) (hs.on ho) (hz.mg hu (by rw [hr.len];omega)) hd (by rw [hu.chg.len,hr.len,hN]) ?_ ?_).mono ?_
  · rw [hu.chg.seg (.inr (Nat.le_refl _))];exact q3
  · rw [hu.chg.seg (.inr (by omega))];exact q4
  rintro r w'' ⟨rfl,vs,hv,hd',ho'⟩
  exact ⟨rfl,zs,us,vs,hr,hu,hv,hd',ho.trans ho'⟩
end
end Go.Proofs.YtdhbkifpodekcaaGreatDoor.Ac
namespace Go.Proofs.YtdhbkifpodekcaaGreatDoor.Ac
open Go.ChangeShapes Go.WideShapes Go.ChangeAt Go.RowKit Stb
set_option linter.unusedVariables false
set_option maxRecDepth 100000
set_option maxRecDepth 100000 in
set_option maxHeartbeats 6400000 in
theorem sym_gA (g N cap a m b mid lo r0 c:Nat) (cb:Array Value) (pe:Ln→Prop) (key:Ln→Int) (C:Ln→Ln→Int) (xs:List Ln) (w:World) (eg:∀ args w,(callFunc c args).run Tryz.prog w=.ok (.enter c args) w) (hs:SaysC w g c cb pe key C) (hp:AllP pe xs) (hd:Dat w g xs) (hN:xs.length=N) (hl:N≤1000)
    (h1:a+1 < m) (h2:m+1 < b) (h3:b≤N) (s1:Srt key (seg xs a m)) (s2:Srt key (seg xs m b)) (IH:SymIH g N cap c cb pe key C (b - a)) (hmid:mid=(a+b) / 2) (hlo:mid < m∧lo=mid+m - b∧r0=mid) :
    Calls Tryz.prog 192 #[.slice (some ⟨g,0,none⟩) N cap,.int .i64 a,.int .i64 m,.int .i64 b,.func (.func c) #[] cb] w (ModPost w g (fun ys=>Mg key xs ys a b)):=by
  have HD:=Lib.hid hd
  have HN:=Lib.hid hN
  have HS:=Lib.hid hs
  have HP:=Lib.hid hp
  have HS1:=Lib.hid s1
  have HS2:=Lib.hid s2
  have HIH:=Lib.hid IH
  have hI1:=Lib.hid ((srt_seg (key:=key) (show m≤xs.length by omega)).1 s1)
  have hI2:=Lib.hid ((srt_seg (key:=key) (show b≤xs.length by omega)).1 s2)
  have hbx:=Lib.hid (show b≤xs.length by omega)
  clear hd hN hs hp s1 s2 IH
  obtain ⟨hlo1,hlo2,hlo3⟩:=hlo
  obtain ⟨d1,hd1⟩:∃ d,d=m - a:=⟨_,rfl⟩
  obtain ⟨d2,hd2⟩:∃ d,d=b - m:=⟨_,rfl⟩
  obtain ⟨nn,hnn⟩:∃ nn,nn=mid+m:=⟨_,rfl⟩
  obtain ⟨p,hp⟩:∃ p,p=nn - 1:=⟨_,rfl⟩
  have ed1:(m:Int) - (a:Int)=(d1:Int):=by omega
  have ed2:(b:Int) - (m:Int)=(d2:Int):=by omega
  have ed3:((d1:Int) == 1)=false:=by simp;omega
  have ed4:((d2:Int) == 1)=false:=by simp;omega
  have em:((a:Int)+(b:Int)) / 2=(mid:Int):=by omega
  have en:(mid:Int)+(m:Int)=(nn:Int):=by omega
  have ep:(nn:Int) - 1=(p:Int):=by omega
  have wp':IntKind.i64.wrap (p:Int)=(p:Int):=IntWalk.i64_in _ (by omega)
  have wn':IntKind.i64.wrap (nn:Int)=(nn:Int):=IntWalk.i64_in _ (by omega)
  have hmm:(mid:Int) < (m:Int):=by omega
  have elo:(nn:Int) - (b:Int)=(lo:Int):=by omega
  have er0:mid=r0:=by omega
  have HEr:=Lib.hid er0
  clear er0
  have wl':IntKind.i64.wrap (lo:Int)=(lo:Int):=IntWalk.i64_in _ (by omega)
  have F1:a≤lo:=by omega
  have F2:lo≤r0:=by omega
  have F3:r0≤mid:=by omega
  have F4:r0≤m:=by omega
  have F5:nn≤b+lo:=by omega
  have F6:mid < b:=by omega
  have F7:a < mid:=by omega
  have F8:r0=mid∨r0=m:=by omega
  have F9:lo+b=nn∨lo=a:=by omega
  have F10:1≤nn:=by omega
  have HNN:=Lib.hid hnn
  have HPP:=Lib.hid hp
  clear hd1 hd2 hnn hmid hp hlo1 hlo2 hlo3
  go_enter Tryz.func192,Tryz.ntmps192
  go_wp2
  go_loopw [20,21] (fun vi vj wr=>∃ i j:Nat,vi=.int .i64 i∧vj=.int .i64 j∧lo≤i∧i≤j∧j≤r0∧Hid (∀ k,lo≤k→k < i→key (ge xs k)≤key (ge xs (p - k)))∧Hid (∀ k,j≤k→k < r0→key (ge xs (p - k)) < key (ge xs k))∧Hid (Dat wr g xs)∧Hid (On g w wr)) (fun vi vj _=>(intOf vj - intOf vi).toNat)
  case atStart=>exact ⟨lo,r0,rfl,(by rw [HEr.out]),Nat.le_refl _,F2,Nat.le_refl _,Lib.hid (fun k h1 h2=>by omega),Lib.hid (fun k h1 h2=>by omega),HD,Lib.hid (On.refl _ _)⟩
  case round =>
    obtain ⟨i,j,rfl,rfl,i1,i2,i3,HA,HB,HY,HO⟩:=hrel
    by_cases hlt:i < j
    · have hki:(i:Int) < (j:Int):=by omega
      obtain ⟨h,hh⟩:∃ h:Nat,h=(i+j) / 2:=⟨_,rfl⟩
      have hm1:((i:Int)+(j:Int)) / 2=(h:Int):=by omega
      have b1:i≤h:=by omega
      have b2:h < j:=by omega
      obtain ⟨q,hq⟩:∃ q:Nat,q=p - h:=⟨_,rfl⟩
      have hpn:p+1=mid+m:=by have:=HNN.out;have:=HPP.out;omega
      have eq':(p:Int) - (h:Int)=(q:Int):=by omega
      have wq:IntKind.i64.wrap (q:Int)=(q:Int):=IntWalk.i64_in _ (by omega)
      have h0:(0:Int)≤(h:Int):=by omega
      have hN':(h:Int) < (N:Int):=by omega
      have q0:(0:Int)≤(q:Int):=by omega
      have qN:(q:Int) < (N:Int):=by omega
      obtain ⟨ch,ch'⟩:=HY.out.cell h (by rw [HN.out];omega)
      obtain ⟨cq,cq'⟩:=HY.out.cell q (by rw [HN.out];omega)
      have HKp:=Lib.hid (fun w' (o:Mor wr w')=>show w'.cell? ⟨g,q*2,none⟩=some (.string (ge xs q).1)∧w'.cell? ⟨g,q*2+1,none⟩=some (.int .i64 (ge xs q).2)∧w'.cell? ⟨g,h*2,none⟩=some (.string (ge xs h).1)∧w'.cell? ⟨g,h*2+1,none⟩=some (.int .i64 (ge xs h).2) from ⟨((HY.out.mor o).cell q (by rw [HN.out];omega)).1,((HY.out.mor o).cell q (by rw [HN.out];omega)).2,((HY.out.mor o).cell h (by rw [HN.out];omega)).1,((HY.out.mor o).cell h (by rw [HN.out];omega)).2⟩)
      have HCmp:=Lib.hid (fun w' (o:On g wr w')=>HS.out.says w' (HO.out.trans o) (ge xs q) (ge xs h) (HP.out q (by rw [HN.out];omega)) (HP.out h (by rw [HN.out];omega)))
      have hsg:=HS.out.sign (ge xs q) (ge xs h) (HP.out q (by rw [HN.out];omega)) (HP.out h (by rw [HN.out];omega))
      have HHi:=Lib.hid (fun hv:key (ge xs q) < key (ge xs h)=>show ∀ k,h≤k→k < r0→key (ge xs (p - k)) < key (ge xs k) from fun k k1 k2=>by
        by_cases e:k=h
        · subst e;rw [← hq];exact hv
        · have e1:=hI1.out h k (by omega) (by omega) (by omega)
          have e2:=hI2.out (p - k) q (by omega) (by omega) (by omega)
          omega)
      have HLo:=Lib.hid (fun hv:¬ key (ge xs q) < key (ge xs h)=>show ∀ k,lo≤k→k < h+1→key (ge xs k)≤key (ge xs (p - k)) from fun k k1 k2=>by
        by_cases e:k=h
        · subst e;rw [← hq];omega
        · have e1:=hI1.out k h (by omega) (by omega) (by omega)
          have e2:=hI2.out q (p - k) (by omega) (by omega) (by omega)
          omega)
      clear hh hq hpn
      generalize C (ge xs q) (ge xs h)=cv at *
      by_cases hk:key (ge xs q) < key (ge xs h)
      · have HH':=Lib.hid (HHi.out hk)
        have hvb:(!decide (cv < 0))=false:=by simp;exact hsg.2 hk
        clear hk hsg HHi HLo
        generalize ge xs h=u at *
        generalize ge xs q=v at *
        go_wp2
        go_region_held3 (fun w'=>w'.cell? ⟨g,q*2,none⟩=some (.string v.1)∧w'.cell? ⟨g,q*2+1,none⟩=some (.int .i64 v.2)∧w'.cell? ⟨g,h*2,none⟩=some (.string u.1)∧w'.cell? ⟨g,h*2+1,none⟩=some (.int .i64 u.2)) (exact HKp.out _ (by repeat (first | exact Mor.refl _ | apply Mor.alloc | apply Mor.more | apply Mor.drewN | apply Mor.drew))) (first | (go_at_fn c;(with_reducible refine (HCmp.out _ (On.of_mor (by repeat (first | exact Mor.refl _ | apply Mor.alloc | apply Mor.more | apply Mor.drewN | apply Mor.drew)))).mono ?_);rintro e w1 ⟨rfl,bs,dr,rfl⟩))
        go_wp2
        go_roundw
        case rel=>exact ⟨i,h,rfl,rfl,i1,b1,by omega,HA,HH',Lib.hid (Dat.mor HY.out (by repeat (first | exact Mor.refl _ | apply Mor.alloc | apply Mor.more | apply Mor.drewN | apply Mor.drew))),Lib.hid (On.mor HO.out (by repeat (first | exact Mor.refl _ | apply Mor.alloc | apply Mor.more | apply Mor.drewN | apply Mor.drew)))⟩
        case measure=>simp [intOf];omega
      · have HL':=Lib.hid (HLo.out hk)
        have hvb:(!decide (cv < 0))=true:=by simp;exact Int.not_lt.1 (fun h=>hk (hsg.1 h))
        clear hk hsg HHi HLo
        generalize ge xs h=u at *
        generalize ge xs q=v at *
        go_wp2
        go_region_held3 (fun w'=>w'.cell? ⟨g,q*2,none⟩=some (.string v.1)∧w'.cell? ⟨g,q*2+1,none⟩=some (.int .i64 v.2)∧w'.cell? ⟨g,h*2,none⟩=some (.string u.1)∧w'.cell? ⟨g,h*2+1,none⟩=some (.int .i64 u.2)) (exact HKp.out _ (by repeat (first | exact Mor.refl _ | apply Mor.alloc | apply Mor.more | apply Mor.drewN | apply Mor.drew))) (first | (go_at_fn c;(with_reducible refine (HCmp.out _ (On.of_mor (by repeat (first | exact Mor.refl _ | apply Mor.alloc | apply Mor.more | apply Mor.drewN | apply Mor.drew)))).mono ?_);rintro e w1 ⟨rfl,bs,dr,rfl⟩))
        go_wp2
        go_roundw
        case rel=>exact ⟨h+1,j,by go_num,rfl,by omega,by omega,i3,HL',HB,Lib.hid (Dat.mor HY.out (by repeat (first | exact Mor.refl _ | apply Mor.alloc | apply Mor.more | apply Mor.drewN | apply Mor.drew))),Lib.hid (On.mor HO.out (by repeat (first | exact Mor.refl _ | apply Mor.alloc | apply Mor.more | apply Mor.drewN | apply Mor.drew)))⟩
        case measure=>simp [intOf];omega
    · obtain rfl:j=i:=by omega
      obtain ⟨s,hs⟩:∃ s,s=j:=⟨_,rfl⟩
      rw [← hs] at HA HB i1 i3 ⊢
      clear hs hlt i2
      obtain ⟨e,he⟩:∃ e,e=nn - s:=⟨_,rfl⟩
      have hpn:p+1=nn∧nn=mid+m:=by have:=HNN.out;have:=HPP.out;omega
      have ee:(nn:Int) - (s:Int)=(e:Int):=by omega
      have we:IntKind.i64.wrap (e:Int)=(e:Int):=IntWalk.i64_in _ (by omega)
      have X1:a≤s:=by omega
      have X2:s≤m:=by omega
      have X3:s≤mid:=by omega
      have X4:m≤e:=by omega
      have X5:mid≤e:=by omega
      have X6:e≤b:=by omega
      have X7:mid+m=s+e:=by omega
      have C1:=Lib.hid (fun (q1:s < m) (q2:m < e)=>show key (ge xs (e - 1)) < key (ge xs s) by
        have:=HB.out s (Nat.le_refl _) (by omega)
        rw [show p - s=e - 1 by omega] at this;exact this)
      have C2:=Lib.hid (fun (q1:a < s) (q2:e < b)=>show key (ge xs (s - 1))≤key (ge xs e) by
        have:=HA.out (s - 1) (by omega) (by omega)
        rw [show p - (s - 1)=e by omega] at this;exact this)
      have HFin:=Lib.hid (fun w' (h:SymC key xs g a m b s e mid w w')=>show ∃ ys,Mg key xs ys a b∧Dat w' g ys∧On g w w' by
        obtain ⟨zs,us,vs,hr,hu,hv,hd,ho⟩:=h
        exact ⟨vs,sym_plain X1 X2 X3 X4 X5 X6 hbx.out X7 HS1.out HS2.out C1.out C2.out hr hu hv,hd,ho⟩)
      have HNo:=Lib.hid (fun (h:¬ (s < m∧m < e))=>show SymA xs g m s e w wr from symA_none X2 X4 h HY.out HO.out)
      have HRot:=Lib.hid (fun (q1:s < m) (q2:m < e)=>show Calls Tryz.prog 205 #[.slice (some ⟨g,0,none⟩) N cap,.int .i64 s,.int .i64 m,.int .i64 e,.func (.func c) #[] cb] wr (fun r w''=>r=.returned (.tuple #[])∧SymA xs g m s e w w'') by
        refine (rot_any g N cap s m e _ xs wr HY.out HN.out hl q1 q2 (by omega)).mono ?_
        rintro r w'' ⟨rfl,ys,hr,hd,ho⟩
        exact ⟨rfl,ys,hr,hd,HO.out.trans ho⟩)
      have HB0:=Lib.hid (fun w' (h:¬ (a < s∧s < mid)) (hA:SymA xs g m s e w w')=>symB_none X1 X2 X3 X4 X5 X6 hbx.out X7 HS1.out HS2.out h hA)
      have HC0:=Lib.hid (fun w' (h:¬ (mid < e∧e < b)) (hB:SymB key xs g a m s e mid w w')=>symC_none X1 X2 X3 X4 X5 X6 hbx.out X7 HS1.out HS2.out h hB)
      have HB1:=Lib.hid (fun w' (l1:a < s) (l2:s < mid) (hA:SymA xs g m s e w w')=>symB_call X1 X2 X3 X4 X5 X6 hbx.out X7 HS1.out HS2.out HS.out HP.out HN.out HIH.out l1 l2 F6 hA)
      have HC1:=Lib.hid (fun w' (l1:mid < e) (l2:e < b) (hB:SymB key xs g a m s e mid w w')=>symC_call X1 X2 X3 X4 X5 X6 hbx.out X7 HS1.out HS2.out HS.out HP.out HN.out HIH.out l1 l2 F7 hB)
      clear he hpn HA HB C1 C2 HS1 HS2 HIH hI1 hI2
      by_cases t1:(s:Int) < (m:Int) <;> by_cases t2:(m:Int) < (e:Int) <;> by_cases t3:(a:Int) < (s:Int) <;> by_cases t6:(e:Int) < (b:Int) <;> (
        (first | have t4:(s:Int) < (mid:Int):=by omega | have t4:¬ ((s:Int) < (mid:Int)):=by omega)
        (first | have t5:(mid:Int) < (e:Int):=by omega | have t5:¬ ((mid:Int) < (e:Int)):=by omega)
        have HSa:=Lib.hid trivial
        have HSb:=Lib.hid trivial
        have HSc:=Lib.hid trivial
        go_wp2_with (first
          | (go_at_call 205;(with_reducible refine (HRot.out (by omega) (by omega)).mono ?_);rintro r w2 ⟨rfl,hA⟩;have HSa:=Lib.hid hA;clear hA)
          | (go_at_call 192;(with_reducible refine (HB1.out _ (by omega) (by omega) (by first | exact HSa.out | exact HNo.out (by omega))).mono ?_);rintro r w3 ⟨rfl,hB⟩;have HSb:=Lib.hid hB;clear hB)
          | (go_at_call 192;(with_reducible refine (HC1.out _ (by omega) (by omega) (by first | exact HSb.out | exact HB0.out _ (by omega) HSa.out | exact HB0.out _ (by omega) (HNo.out (by omega)))).mono ?_);rintro r w4 ⟨rfl,hC⟩;have HSc:=Lib.hid hC;clear hC))
        all_goals (first | go_end0 | go_returns)
        all_goals refine ⟨rfl,HFin.out _ ?_⟩
        all_goals first
          | exact HSc.out
          | exact HC0.out _ (by omega) HSb.out
          | exact HC0.out _ (by omega) (HB0.out _ (by omega) HSa.out)
          | exact HC0.out _ (by omega) (HB0.out _ (by omega) (HNo.out (by omega))))
set_option maxRecDepth 100000 in
set_option maxHeartbeats 6400000 in
theorem sym_gB (g N cap a m b mid lo r0 c:Nat) (cb:Array Value) (pe:Ln→Prop) (key:Ln→Int) (C:Ln→Ln→Int) (xs:List Ln) (w:World) (eg:∀ args w,(callFunc c args).run Tryz.prog w=.ok (.enter c args) w) (hs:SaysC w g c cb pe key C) (hp:AllP pe xs) (hd:Dat w g xs) (hN:xs.length=N) (hl:N≤1000)
    (h1:a+1 < m) (h2:m+1 < b) (h3:b≤N) (s1:Srt key (seg xs a m)) (s2:Srt key (seg xs m b)) (IH:SymIH g N cap c cb pe key C (b - a)) (hmid:mid=(a+b) / 2) (hlo:m≤mid∧lo=a∧r0=m) :
    Calls Tryz.prog 192 #[.slice (some ⟨g,0,none⟩) N cap,.int .i64 a,.int .i64 m,.int .i64 b,.func (.func c) #[] cb] w (ModPost w g (fun ys=>Mg key xs ys a b)):=by
  have HD:=Lib.hid hd
  have HN:=Lib.hid hN
  have HS:=Lib.hid hs
  have HP:=Lib.hid hp
  have HS1:=Lib.hid s1
  have HS2:=Lib.hid s2
  have HIH:=Lib.hid IH
  have hI1:=Lib.hid ((srt_seg (key:=key) (show m≤xs.length by omega)).1 s1)
  have hI2:=Lib.hid ((srt_seg (key:=key) (show b≤xs.length by omega)).1 s2)
  have hbx:=Lib.hid (show b≤xs.length by omega)
  clear hd hN hs hp s1 s2 IH
  obtain ⟨hlo1,hlo2,hlo3⟩:=hlo
  obtain ⟨d1,hd1⟩:∃ d,d=m - a:=⟨_,rfl⟩
  obtain ⟨d2,hd2⟩:∃ d,d=b - m:=⟨_,rfl⟩
  obtain ⟨nn,hnn⟩:∃ nn,nn=mid+m:=⟨_,rfl⟩
  obtain ⟨p,hp⟩:∃ p,p=nn - 1:=⟨_,rfl⟩
  have ed1:(m:Int) - (a:Int)=(d1:Int):=by omega
  have ed2:(b:Int) - (m:Int)=(d2:Int):=by omega
  have ed3:((d1:Int) == 1)=false:=by simp;omega
  have ed4:((d2:Int) == 1)=false:=by simp;omega
  have em:((a:Int)+(b:Int)) / 2=(mid:Int):=by omega
  have en:(mid:Int)+(m:Int)=(nn:Int):=by omega
  have ep:(nn:Int) - 1=(p:Int):=by omega
  have wp':IntKind.i64.wrap (p:Int)=(p:Int):=IntWalk.i64_in _ (by omega)
  have wn':IntKind.i64.wrap (nn:Int)=(nn:Int):=IntWalk.i64_in _ (by omega)
  have hmm:¬ ((mid:Int) < (m:Int)):=by omega
  have HEl:=Lib.hid (show a=lo by omega)
  have HEr:=Lib.hid (show m=r0 by omega)
  have F1:a≤lo:=by omega
  have F2:lo≤r0:=by omega
  have F3:r0≤mid:=by omega
  have F4:r0≤m:=by omega
  have F5:nn≤b+lo:=by omega
  have F6:mid < b:=by omega
  have F7:a < mid:=by omega
  have F8:r0=mid∨r0=m:=by omega
  have F9:lo+b=nn∨lo=a:=by omega
  have F10:1≤nn:=by omega
  have HNN:=Lib.hid hnn
  have HPP:=Lib.hid hp
  clear hd1 hd2 hnn hmid hp hlo1 hlo2 hlo3
  go_enter Tryz.func192,Tryz.ntmps192
  go_wp2
  go_loopw [20,21] (fun vi vj wr=>∃ i j:Nat,vi=.int .i64 i∧vj=.int .i64 j∧lo≤i∧i≤j∧j≤r0∧Hid (∀ k,lo≤k→k < i→key (ge xs k)≤key (ge xs (p - k)))∧Hid (∀ k,j≤k→k < r0→key (ge xs (p - k)) < key (ge xs k))∧Hid (Dat wr g xs)∧Hid (On g w wr)) (fun vi vj _=>(intOf vj - intOf vi).toNat)
  case atStart=>exact ⟨lo,r0,(by rw [HEl.out]),(by rw [HEr.out]),Nat.le_refl _,F2,Nat.le_refl _,Lib.hid (fun k h1 h2=>by omega),Lib.hid (fun k h1 h2=>by omega),HD,Lib.hid (On.refl _ _)⟩
  case round =>
    obtain ⟨i,j,rfl,rfl,i1,i2,i3,HA,HB,HY,HO⟩:=hrel
    by_cases hlt:i < j
    · have hki:(i:Int) < (j:Int):=by omega
      obtain ⟨h,hh⟩:∃ h:Nat,h=(i+j) / 2:=⟨_,rfl⟩
      have hm1:((i:Int)+(j:Int)) / 2=(h:Int):=by omega
      have b1:i≤h:=by omega
      have b2:h < j:=by omega
      obtain ⟨q,hq⟩:∃ q:Nat,q=p - h:=⟨_,rfl⟩
      have hpn:p+1=mid+m:=by have:=HNN.out;have:=HPP.out;omega
      have eq':(p:Int) - (h:Int)=(q:Int):=by omega
      have wq:IntKind.i64.wrap (q:Int)=(q:Int):=IntWalk.i64_in _ (by omega)
      have h0:(0:Int)≤(h:Int):=by omega
      have hN':(h:Int) < (N:Int):=by omega
      have q0:(0:Int)≤(q:Int):=by omega
      have qN:(q:Int) < (N:Int):=by omega
      obtain ⟨ch,ch'⟩:=HY.out.cell h (by rw [HN.out];omega)
      obtain ⟨cq,cq'⟩:=HY.out.cell q (by rw [HN.out];omega)
      have HKp:=Lib.hid (fun w' (o:Mor wr w')=>show w'.cell? ⟨g,q*2,none⟩=some (.string (ge xs q).1)∧w'.cell? ⟨g,q*2+1,none⟩=some (.int .i64 (ge xs q).2)∧w'.cell? ⟨g,h*2,none⟩=some (.string (ge xs h).1)∧w'.cell? ⟨g,h*2+1,none⟩=some (.int .i64 (ge xs h).2) from ⟨((HY.out.mor o).cell q (by rw [HN.out];omega)).1,((HY.out.mor o).cell q (by rw [HN.out];omega)).2,((HY.out.mor o).cell h (by rw [HN.out];omega)).1,((HY.out.mor o).cell h (by rw [HN.out];omega)).2⟩)
      have HCmp:=Lib.hid (fun w' (o:On g wr w')=>HS.out.says w' (HO.out.trans o) (ge xs q) (ge xs h) (HP.out q (by rw [HN.out];omega)) (HP.out h (by rw [HN.out];omega)))
      have hsg:=HS.out.sign (ge xs q) (ge xs h) (HP.out q (by rw [HN.out];omega)) (HP.out h (by rw [HN.out];omega))
      have HHi:=Lib.hid (fun hv:key (ge xs q) < key (ge xs h)=>show ∀ k,h≤k→k < r0→key (ge xs (p - k)) < key (ge xs k) from fun k k1 k2=>by
        by_cases e:k=h
        · subst e;rw [← hq];exact hv
        · have e1:=hI1.out h k (by omega) (by omega) (by omega)
          have e2:=hI2.out (p - k) q (by omega) (by omega) (by omega)
          omega)
      have HLo:=Lib.hid (fun hv:¬ key (ge xs q) < key (ge xs h)=>show ∀ k,lo≤k→k < h+1→key (ge xs k)≤key (ge xs (p - k)) from fun k k1 k2=>by
        by_cases e:k=h
        · subst e;rw [← hq];omega
        · have e1:=hI1.out k h (by omega) (by omega) (by omega)
          have e2:=hI2.out q (p - k) (by omega) (by omega) (by omega)
          omega)
      clear hh hq hpn
      generalize C (ge xs q) (ge xs h)=cv at *
      by_cases hk:key (ge xs q) < key (ge xs h)
      · have HH':=Lib.hid (HHi.out hk)
        have hvb:(!decide (cv < 0))=false:=by simp;exact hsg.2 hk
        clear hk hsg HHi HLo
        generalize ge xs h=u at *
        generalize ge xs q=v at *
        go_wp2
        go_region_held3 (fun w'=>w'.cell? ⟨g,q*2,none⟩=some (.string v.1)∧w'.cell? ⟨g,q*2+1,none⟩=some (.int .i64 v.2)∧w'.cell? ⟨g,h*2,none⟩=some (.string u.1)∧w'.cell? ⟨g,h*2+1,none⟩=some (.int .i64 u.2)) (exact HKp.out _ (by repeat (first | exact Mor.refl _ | apply Mor.alloc | apply Mor.more | apply Mor.drewN | apply Mor.drew))) (first | (go_at_fn c;(with_reducible refine (HCmp.out _ (On.of_mor (by repeat (first | exact Mor.refl _ | apply Mor.alloc | apply Mor.more | apply Mor.drewN | apply Mor.drew)))).mono ?_);rintro e w1 ⟨rfl,bs,dr,rfl⟩))
        go_wp2
        go_roundw
        case rel=>exact ⟨i,h,rfl,rfl,i1,b1,by omega,HA,HH',Lib.hid (Dat.mor HY.out (by repeat (first | exact Mor.refl _ | apply Mor.alloc | apply Mor.more | apply Mor.drewN | apply Mor.drew))),Lib.hid (On.mor HO.out (by repeat (first | exact Mor.refl _ | apply Mor.alloc | apply Mor.more | apply Mor.drewN | apply Mor.drew)))⟩
        case measure=>simp [intOf];omega
      · have HL':=Lib.hid (HLo.out hk)
        have hvb:(!decide (cv < 0))=true:=by simp;exact Int.not_lt.1 (fun h=>hk (hsg.1 h))
        clear hk hsg HHi HLo
        generalize ge xs h=u at *
        generalize ge xs q=v at *
        go_wp2
        go_region_held3 (fun w'=>w'.cell? ⟨g,q*2,none⟩=some (.string v.1)∧w'.cell? ⟨g,q*2+1,none⟩=some (.int .i64 v.2)∧w'.cell? ⟨g,h*2,none⟩=some (.string u.1)∧w'.cell? ⟨g,h*2+1,none⟩=some (.int .i64 u.2)) (exact HKp.out _ (by repeat (first | exact Mor.refl _ | apply Mor.alloc | apply Mor.more | apply Mor.drewN | apply Mor.drew))) (first | (go_at_fn c;(with_reducible refine (HCmp.out _ (On.of_mor (by repeat (first | exact Mor.refl _ | apply Mor.alloc | apply Mor.more | apply Mor.drewN | apply Mor.drew)))).mono ?_);rintro e w1 ⟨rfl,bs,dr,rfl⟩))
        go_wp2
        go_roundw
        case rel=>exact ⟨h+1,j,by go_num,rfl,by omega,by omega,i3,HL',HB,Lib.hid (Dat.mor HY.out (by repeat (first | exact Mor.refl _ | apply Mor.alloc | apply Mor.more | apply Mor.drewN | apply Mor.drew))),Lib.hid (On.mor HO.out (by repeat (first | exact Mor.refl _ | apply Mor.alloc | apply Mor.more | apply Mor.drewN | apply Mor.drew)))⟩
        case measure=>simp [intOf];omega
    · obtain rfl:j=i:=by omega
      obtain ⟨s,hs⟩:∃ s,s=j:=⟨_,rfl⟩
      rw [← hs] at HA HB i1 i3 ⊢
      clear hs hlt i2
      obtain ⟨e,he⟩:∃ e,e=nn - s:=⟨_,rfl⟩
      have hpn:p+1=nn∧nn=mid+m:=by have:=HNN.out;have:=HPP.out;omega
      have ee:(nn:Int) - (s:Int)=(e:Int):=by omega
      have we:IntKind.i64.wrap (e:Int)=(e:Int):=IntWalk.i64_in _ (by omega)
      have X1:a≤s:=by omega
      have X2:s≤m:=by omega
      have X3:s≤mid:=by omega
      have X4:m≤e:=by omega
      have X5:mid≤e:=by omega
      have X6:e≤b:=by omega
      have X7:mid+m=s+e:=by omega
      have C1:=Lib.hid (fun (q1:s < m) (q2:m < e)=>show key (ge xs (e - 1)) < key (ge xs s) by
        have:=HB.out s (Nat.le_refl _) (by omega)
        rw [show p - s=e - 1 by omega] at this;exact this)
      have C2:=Lib.hid (fun (q1:a < s) (q2:e < b)=>show key (ge xs (s - 1))≤key (ge xs e) by
        have:=HA.out (s - 1) (by omega) (by omega)
        rw [show p - (s - 1)=e by omega] at this;exact this)
      have HFin:=Lib.hid (fun w' (h:SymC key xs g a m b s e mid w w')=>show ∃ ys,Mg key xs ys a b∧Dat w' g ys∧On g w w' by
        obtain ⟨zs,us,vs,hr,hu,hv,hd,ho⟩:=h
        exact ⟨vs,sym_plain X1 X2 X3 X4 X5 X6 hbx.out X7 HS1.out HS2.out C1.out C2.out hr hu hv,hd,ho⟩)
      have HNo:=Lib.hid (fun (h:¬ (s < m∧m < e))=>show SymA xs g m s e w wr from symA_none X2 X4 h HY.out HO.out)
      have HRot:=Lib.hid (fun (q1:s < m) (q2:m < e)=>show Calls Tryz.prog 205 #[.slice (some ⟨g,0,none⟩) N cap,.int .i64 s,.int .i64 m,.int .i64 e,.func (.func c) #[] cb] wr (fun r w''=>r=.returned (.tuple #[])∧SymA xs g m s e w w'') by
        refine (rot_any g N cap s m e _ xs wr HY.out HN.out hl q1 q2 (by omega)).mono ?_
        rintro r w'' ⟨rfl,ys,hr,hd,ho⟩
        exact ⟨rfl,ys,hr,hd,HO.out.trans ho⟩)
      have HB0:=Lib.hid (fun w' (h:¬ (a < s∧s < mid)) (hA:SymA xs g m s e w w')=>symB_none X1 X2 X3 X4 X5 X6 hbx.out X7 HS1.out HS2.out h hA)
      have HC0:=Lib.hid (fun w' (h:¬ (mid < e∧e < b)) (hB:SymB key xs g a m s e mid w w')=>symC_none X1 X2 X3 X4 X5 X6 hbx.out X7 HS1.out HS2.out h hB)
      have HB1:=Lib.hid (fun w' (l1:a < s) (l2:s < mid) (hA:SymA xs g m s e w w')=>symB_call X1 X2 X3 X4 X5 X6 hbx.out X7 HS1.out HS2.out HS.out HP.out HN.out HIH.out l1 l2 F6 hA)
      have HC1:=Lib.hid (fun w' (l1:mid < e) (l2:e < b) (hB:SymB key xs g a m s e mid w w')=>symC_call X1 X2 X3 X4 X5 X6 hbx.out X7 HS1.out HS2.out HS.out HP.out HN.out HIH.out l1 l2 F7 hB)
      clear he hpn HA HB C1 C2 HS1 HS2 HIH hI1 hI2
      by_cases t1:(s:Int) < (m:Int) <;> by_cases t2:(m:Int) < (e:Int) <;> by_cases t3:(a:Int) < (s:Int) <;> by_cases t6:(e:Int) < (b:Int) <;> (
        (first | have t4:(s:Int) < (mid:Int):=by omega | have t4:¬ ((s:Int) < (mid:Int)):=by omega)
        (first | have t5:(mid:Int) < (e:Int):=by omega | have t5:¬ ((mid:Int) < (e:Int)):=by omega)
        have HSa:=Lib.hid trivial
        have HSb:=Lib.hid trivial
        have HSc:=Lib.hid trivial
        go_wp2_with (first
          | (go_at_call 205;(with_reducible refine (HRot.out (by omega) (by omega)).mono ?_);rintro r w2 ⟨rfl,hA⟩;have HSa:=Lib.hid hA;clear hA)
          | (go_at_call 192;(with_reducible refine (HB1.out _ (by omega) (by omega) (by first | exact HSa.out | exact HNo.out (by omega))).mono ?_);rintro r w3 ⟨rfl,hB⟩;have HSb:=Lib.hid hB;clear hB)
          | (go_at_call 192;(with_reducible refine (HC1.out _ (by omega) (by omega) (by first | exact HSb.out | exact HB0.out _ (by omega) HSa.out | exact HB0.out _ (by omega) (HNo.out (by omega)))).mono ?_);rintro r w4 ⟨rfl,hC⟩;have HSc:=Lib.hid hC;clear hC))
        all_goals (first | go_end0 | go_returns)
        all_goals refine ⟨rfl,HFin.out _ ?_⟩
        all_goals first
          | exact HSc.out
          | exact HC0.out _ (by omega) HSb.out
          | exact HC0.out _ (by omega) (HB0.out _ (by omega) HSa.out)
          | exact HC0.out _ (by omega) (HB0.out _ (by omega) (HNo.out (by omega))))
end Go.Proofs.YtdhbkifpodekcaaGreatDoor.Ac
namespace Go.Proofs.YtdhbkifpodekcaaGreatDoor.Ac
open Go.ChangeShapes Go.WideShapes Go.ChangeAt Go.RowKit Stb
set_option linter.unusedVariables false
set_option maxRecDepth 100000
theorem sym_any (g N cap c:Nat) (cb:Array Value) (pe:Ln→Prop) (key:Ln→Int) (C:Ln→Ln→Int) (eg:∀ args w,(callFunc c args).run Tryz.prog w=.ok (.enter c args) w) (hl:N≤1000) (K:Nat):SymIH g N cap c cb pe key C K:=by
  induction K with
  | zero=>intro a m b xs w h;omega
  | succ K ih =>
    intro a m b xs w hK h1 h2 h3 hs hp hd hN s1 s2
    have ih':SymIH g N cap c cb pe key C (b - a):=fun a' m' b' xs' w' hK'=>ih a' m' b' xs' w' (by omega)
    by_cases c1:m=a+1
    · subst c1;exact sym_l g N cap a b c cb pe key C xs w eg hs hp hd hN hl (by omega) h3 s2
    · by_cases c2:b=m+1
      · subst c2;exact sym_r g N cap a m c cb pe key C xs w eg hs hp hd hN hl (by omega) h3 s1
      · by_cases c3:(a+b) / 2 < m
        · exact sym_gA g N cap a m b ((a+b) / 2) ((a+b) / 2+m - b) ((a+b) / 2) c cb pe key C xs w eg hs hp hd hN hl (by omega) (by omega) h3 s1 s2 ih' rfl ⟨c3,rfl,rfl⟩
        · exact sym_gB g N cap a m b ((a+b) / 2) a m c cb pe key C xs w eg hs hp hd hN hl (by omega) (by omega) h3 s1 s2 ih' rfl ⟨by omega,rfl,rfl⟩
theorem two_mg {key:Ln→Int} {xs y1 y2 y3:List Ln} {k n:Nat} (hk:k≤n) (h1:Mg key xs y1 0 k) (h2:Mg key y1 y2 k n) (h3:Mg key y2 y3 0 n):Mg key xs y3 0 n:=by
  refine ⟨((h1.chg.wide (Nat.le_refl _) hk).trans (h2.chg.wide (Nat.zero_le _) (Nat.le_refl _))).trans h3.chg,h3.srt,h3.same.trans ?_⟩
  rw [seg_split y2 (Nat.zero_le k) hk,seg_split xs (Nat.zero_le k) hk]
  refine Same.append ?_ ?_
  · rw [h2.chg.seg (.inl (Nat.le_refl _))];exact h1.same
  · refine h2.same.trans ?_
    rw [h1.chg.seg (.inr (Nat.le_refl _))];exact Same.refl _
def StPost (w:World) (g:Nat) (key:Ln→Int) (xs:List Ln) (e:Ending) (w':World):Prop :=
  e=.returned (.tuple #[])∧∃ ys,ys.length=xs.length∧Srt key ys∧Same key ys xs∧Dat w' g ys∧On g w w'
theorem StPost.of {w w':World} {g:Nat} {key:Ln→Int} {xs ys:List Ln} (h:Mg key xs ys 0 xs.length) (hd:Dat w' g ys) (ho:On g w w'):StPost w g key xs (.returned (.tuple #[])) w':=by
  have h1:=h.srt
  have h2:=h.same
  rw [seg_all ys h.chg.len] at h1 h2
  rw [seg_all xs rfl] at h2
  exact ⟨rfl,ys,h.chg.len,h1,h2,hd,ho⟩
section
variable (g n cap c : Nat) (cb : Array Value) (pe : Ln → Prop) (key : Ln → Int) (C : Ln → Ln → Int) (xs : List Ln) (w : World) (eg : ∀ args w, (callFunc c args).run Tryz.prog w = .ok (.enter c args) w) (hs : SaysC w g c cb pe key C) (hp : AllP pe xs) (hd : Dat w g xs) (hN : xs.length = n)
include eg hs hp hd hN
set_option maxRecDepth 100000 in
set_option maxHeartbeats 3200000 in
theorem stable_lo (hl:n < 20):Calls Tryz.prog 158 #[.slice (some ⟨g,0,none⟩) n cap,.int .i64 n,.func (.func c) #[] cb] w (StPost w g key xs):=by
  have HI:Calls Tryz.prog 191 #[.slice (some ⟨g,0,none⟩) n cap,.int .i64 0,.int .i64 n,.func (.func c) #[] cb] w (ModPost w g (fun ys=>Mg key xs ys 0 n)) :=
    ins_any g n cap 0 n c cb pe key C xs w eg hs hp hd hN (by omega) (Nat.zero_le _) (Nat.le_refl _)
  have HI':=Lib.hid HI
  have HN:=Lib.hid hN
  have t1:¬ ((20:Int)≤(n:Int)):=by omega
  have t2:¬ ((20:Int) < (n:Int)):=by omega
  clear hs hp hd hN HI hl
  go_enter Tryz.func158,Tryz.ntmps158
  go_wp2_with fail
  refine wp_loop_rounds 1 ?_
  repeat (
    rw [rounds_succ]
    go_wp2_with (go_at_call 191;(with_reducible refine HI'.out.mono ?_);rintro r w1 ⟨rfl,ys,hm,hd,ho⟩))
  refine wp_loop_rounds 1 ?_
  repeat (
    rw [rounds_succ]
    go_wp2_with fail)
  go_end0
  exact StPost.of (by rw [HN.out];exact hm) hd ho
set_option maxRecDepth 100000 in
set_option maxHeartbeats 3200000 in
theorem stable_20 (hl:n=20):Calls Tryz.prog 158 #[.slice (some ⟨g,0,none⟩) n cap,.int .i64 n,.func (.func c) #[] cb] w (StPost w g key xs):=by
  subst hl
  have HI:Calls Tryz.prog 191 #[.slice (some ⟨g,0,none⟩) 20 cap,.int .i64 0,.int .i64 20,.func (.func c) #[] cb] w (ModPost w g (fun ys=>Mg key xs ys 0 20)) :=
    ins_any g 20 cap 0 20 c cb pe key C xs w eg hs hp hd hN (by omega) (Nat.zero_le _) (Nat.le_refl _)
  have HI':=Lib.hid HI
  have HN:=Lib.hid hN
  have HE:=Lib.hid (fun ys w' (hm:Mg key xs ys 0 20) (h:Dat w' g ys) (ho:On g w w')=>show Calls Tryz.prog 191 #[.slice (some ⟨g,0,none⟩) 20 cap,.int .i64 20,.int .i64 20,.func (.func c) #[] cb] w' (ModPost w' g (fun zs=>Mg key ys zs 20 20)) from
    ins_any g 20 cap 20 20 c cb pe key C ys w' eg (hs.on ho) (hp.mg hm (by omega)) h (by rw [hm.chg.len,hN]) (by omega) (by omega) (Nat.le_refl _))
  clear hs hp hd hN HI
  go_enter Tryz.func158,Tryz.ntmps158
  go_wp2_with fail
  refine wp_loop_rounds 2 ?_
  repeat (
    rw [rounds_succ]
    go_wp2_with (first
      | (go_at_call 191;(with_reducible refine HI'.out.mono ?_);rintro r w1 ⟨rfl,ys,hm,hd,ho⟩;have HM:=Lib.hid hm;have HD:=Lib.hid hd;have HO:=Lib.hid ho;clear hm hd ho)
      | (go_at_call 191;(with_reducible refine (HE.out _ _ HM.out HD.out HO.out).mono ?_);rintro r w2 ⟨rfl,zs,hm2,hd2,ho2⟩)))
  refine wp_loop_rounds 1 ?_
  repeat (
    rw [rounds_succ]
    go_wp2_with fail)
  go_end0
  refine StPost.of ?_ hd2 (HO.out.trans ho2)
  rw [HN.out]
  refine ⟨HM.out.chg.trans (hm2.chg.wide (Nat.zero_le _) (Nat.le_refl _)),?_,?_⟩
  · rw [hm2.chg.seg (.inl (Nat.le_refl _))];exact HM.out.srt
  · rw [hm2.chg.seg (.inl (Nat.le_refl _))];exact HM.out.same
set_option maxRecDepth 100000 in
set_option maxHeartbeats 3200000 in
theorem stable_mid (h1:20 < n) (h2:n < 40):Calls Tryz.prog 158 #[.slice (some ⟨g,0,none⟩) n cap,.int .i64 n,.func (.func c) #[] cb] w (StPost w g key xs):=by
  have HI:Calls Tryz.prog 191 #[.slice (some ⟨g,0,none⟩) n cap,.int .i64 0,.int .i64 20,.func (.func c) #[] cb] w (ModPost w g (fun ys=>Mg key xs ys 0 20)) :=
    ins_any g n cap 0 20 c cb pe key C xs w eg hs hp hd hN (by omega) (Nat.zero_le _) (by omega)
  have HI':=Lib.hid HI
  have HN:=Lib.hid hN
  have HE:=Lib.hid (fun ys w' (hm:Mg key xs ys 0 20) (h:Dat w' g ys) (ho:On g w w')=>show Calls Tryz.prog 191 #[.slice (some ⟨g,0,none⟩) n cap,.int .i64 20,.int .i64 n,.func (.func c) #[] cb] w' (ModPost w' g (fun zs=>Mg key ys zs 20 n)) from
    ins_any g n cap 20 n c cb pe key C ys w' eg (hs.on ho) (hp.mg hm (by omega)) h (by rw [hm.chg.len,hN]) (by omega) (by omega) (Nat.le_refl _))
  have HF:=Lib.hid (fun ys zs w' (hm:Mg key xs ys 0 20) (hm2:Mg key ys zs 20 n) (h:Dat w' g zs) (ho:On g w w')=>show Calls Tryz.prog 192 #[.slice (some ⟨g,0,none⟩) n cap,.int .i64 0,.int .i64 20,.int .i64 n,.func (.func c) #[] cb] w' (ModPost w' g (fun vs=>Mg key zs vs 0 n)) from
    sym_any g n cap c cb pe key C eg (by omega) (n+1) 0 20 n zs w' (by omega) (by omega) h1 (Nat.le_refl _) (hs.on ho) ((hp.mg hm (by omega)).mg hm2 (by rw [hm.chg.len];omega)) h (by rw [hm2.chg.len,hm.chg.len,hN]) (by rw [hm2.chg.seg (.inl (Nat.le_refl _))];exact hm.srt) hm2.srt)
  have t1:(20:Int)≤(n:Int):=by omega
  have t2:¬ ((40:Int)≤(n:Int)):=by omega
  have t3:(20:Int) < (n:Int):=by omega
  have t4:¬ ((40:Int) < (n:Int)):=by omega
  clear hs hp hd hN HI
  go_enter Tryz.func158,Tryz.ntmps158
  go_wp2_with fail
  refine wp_loop_rounds 2 ?_
  repeat (
    rw [rounds_succ]
    go_wp2_with (first
      | (go_at_call 191;(with_reducible refine HI'.out.mono ?_);rintro r w1 ⟨rfl,ys,hm,hd,ho⟩;have HM:=Lib.hid hm;have HD:=Lib.hid hd;have HO:=Lib.hid ho;clear hm hd ho)
      | (go_at_call 191;(with_reducible refine (HE.out _ _ HM.out HD.out HO.out).mono ?_);rintro r w2 ⟨rfl,zs,hm2,hd2,ho2⟩;have HM2:=Lib.hid hm2;have HD2:=Lib.hid hd2;have HO2:=Lib.hid (HO.out.trans ho2);clear hm2 hd2 ho2)))
  refine wp_loop_rounds 2 ?_
  repeat (
    rw [rounds_succ]
    go_wp2_with fail)
  refine wp_loop_rounds 1 ?_
  repeat (
    rw [rounds_succ]
    go_wp2_with (first
      | (go_at_call 192;(with_reducible refine (HF.out _ _ _ HM.out HM2.out HD2.out HO2.out).mono ?_);rintro r w3 ⟨rfl,vs,hm3,hd3,ho3⟩;have HM3:=Lib.hid hm3;have HD3:=Lib.hid hd3;have HO3:=Lib.hid (HO2.out.trans ho3);clear hm3 hd3 ho3)))
  go_end0
  refine StPost.of ?_ HD3.out HO3.out
  rw [HN.out]
  exact two_mg (by omega) HM.out HM2.out HM3.out
set_option maxRecDepth 100000 in
set_option maxHeartbeats 3200000 in
theorem stable_40 (h1:n=40):Calls Tryz.prog 158 #[.slice (some ⟨g,0,none⟩) n cap,.int .i64 n,.func (.func c) #[] cb] w (StPost w g key xs):=by
  subst h1
  have HI:Calls Tryz.prog 191 #[.slice (some ⟨g,0,none⟩) 40 cap,.int .i64 0,.int .i64 20,.func (.func c) #[] cb] w (ModPost w g (fun ys=>Mg key xs ys 0 20)) :=
    ins_any g 40 cap 0 20 c cb pe key C xs w eg hs hp hd hN (by omega) (Nat.zero_le _) (by omega)
  have HI':=Lib.hid HI
  have HN:=Lib.hid hN
  have HE:=Lib.hid (fun ys w' (hm:Mg key xs ys 0 20) (h:Dat w' g ys) (ho:On g w w')=>show Calls Tryz.prog 191 #[.slice (some ⟨g,0,none⟩) 40 cap,.int .i64 20,.int .i64 40,.func (.func c) #[] cb] w' (ModPost w' g (fun zs=>Mg key ys zs 20 40)) from
    ins_any g 40 cap 20 40 c cb pe key C ys w' eg (hs.on ho) (hp.mg hm (by omega)) h (by rw [hm.chg.len,hN]) (by omega) (by omega) (Nat.le_refl _))
  have HG:=Lib.hid (fun ys zs w' (hm:Mg key xs ys 0 20) (hm2:Mg key ys zs 20 40) (h:Dat w' g zs) (ho:On g w w')=>show Calls Tryz.prog 191 #[.slice (some ⟨g,0,none⟩) 40 cap,.int .i64 40,.int .i64 40,.func (.func c) #[] cb] w' (ModPost w' g (fun vs=>Mg key zs vs 40 40)) from
    ins_any g 40 cap 40 40 c cb pe key C zs w' eg (hs.on ho) ((hp.mg hm (by omega)).mg hm2 (by rw [hm.chg.len];omega)) h (by rw [hm2.chg.len,hm.chg.len,hN]) (by omega) (by omega) (Nat.le_refl _))
  have HF:=Lib.hid (fun ys zs w' (hm:Mg key xs ys 0 20) (hm2:Mg key ys zs 20 40) (h:Dat w' g zs) (ho:On g w w')=>show Calls Tryz.prog 192 #[.slice (some ⟨g,0,none⟩) 40 cap,.int .i64 0,.int .i64 20,.int .i64 40,.func (.func c) #[] cb] w' (ModPost w' g (fun vs=>Mg key zs vs 0 40)) from
    sym_any g 40 cap c cb pe key C eg (by omega) (40+1) 0 20 40 zs w' (by omega) (by omega) (by omega) (Nat.le_refl _) (hs.on ho) ((hp.mg hm (by omega)).mg hm2 (by rw [hm.chg.len];omega)) h (by rw [hm2.chg.len,hm.chg.len,hN]) (by rw [hm2.chg.seg (.inl (Nat.le_refl _))];exact hm.srt) hm2.srt)
  have HX:=Lib.hid (fun (y z v:List Ln) (h:Mg key y z 20 40) (h':Mg key z v 40 40)=>show Mg key y v 20 40 from by
    refine ⟨h.chg.trans (h'.chg.wide (by omega) (Nat.le_refl _)),?_,?_⟩
    · rw [h'.chg.seg (.inl (Nat.le_refl _))];exact h.srt
    · rw [h'.chg.seg (.inl (Nat.le_refl _))];exact h.same)
  clear hs hp hd hN HI
  go_enter Tryz.func158,Tryz.ntmps158
  go_wp2_with fail
  refine wp_loop_rounds 3 ?_
  repeat (
    rw [rounds_succ]
    go_wp2_with (first
      | (go_at_call 191;(with_reducible refine HI'.out.mono ?_);rintro r w1 ⟨rfl,ys,hm,hd,ho⟩;have HM:=Lib.hid hm;have HD:=Lib.hid hd;have HO:=Lib.hid ho;clear hm hd ho)
      | (go_at_call 191;(with_reducible refine (HE.out _ _ HM.out HD.out HO.out).mono ?_);rintro r w2 ⟨rfl,zs,hm2,hd2,ho2⟩;have HM2:=Lib.hid hm2;have HD2:=Lib.hid hd2;have HO2:=Lib.hid (HO.out.trans ho2);clear hm2 hd2 ho2)
      | (go_at_call 191;(with_reducible refine (HG.out _ _ _ HM.out HM2.out HD2.out HO2.out).mono ?_);rintro r w3 ⟨rfl,vs,hm3,hd3,ho3⟩;have HM3:=Lib.hid (HX.out _ _ _ HM2.out hm3);have HD3:=Lib.hid hd3;have HO3:=Lib.hid (HO2.out.trans ho3);clear hm3 hd3 ho3)))
  refine wp_loop_rounds 2 ?_
  repeat (
    rw [rounds_succ]
    go_wp2_with fail)
  refine wp_loop_rounds 2 ?_
  repeat (
    rw [rounds_succ]
    go_wp2_with (first
      | (go_at_call 192;(with_reducible refine (HF.out _ _ _ HM.out HM3.out HD3.out HO3.out).mono ?_);rintro r w4 ⟨rfl,us,hm4,hd4,ho4⟩;have HM4:=Lib.hid hm4;have HD4:=Lib.hid hd4;have HO4:=Lib.hid (HO3.out.trans ho4);clear hm4 hd4 ho4)))
  go_end0
  refine StPost.of ?_ HD4.out HO4.out
  rw [HN.out]
  exact two_mg (by omega) HM.out HM3.out HM4.out
theorem stable_any (hl:n≤40):Calls Tryz.prog 158 #[.slice (some ⟨g,0,none⟩) n cap,.int .i64 n,.func (.func c) #[] cb] w (StPost w g key xs):=by
  by_cases c1:n < 20
  · exact stable_lo g n cap c cb pe key C xs w eg hs hp hd hN c1
  · by_cases c2:n=20
    · exact stable_20 g n cap c cb pe key C xs w eg hs hp hd hN c2
    · by_cases c3:n < 40
      · exact stable_mid g n cap c cb pe key C xs w eg hs hp hd hN (by omega) c3
      · exact stable_40 g n cap c cb pe key C xs w eg hs hp hd hN (by omega)
set_option maxHeartbeats 1600000 in
theorem sortStable_int (hl:n≤40):Calls Tryz.prog 113 #[.slice (some ⟨g,0,none⟩) n cap,.func (.func c) #[] cb] w (StPost w g key xs):=by
  have HS:=Lib.hid (stable_any g n cap c cb pe key C xs w eg hs hp hd hN hl)
  clear hs hp hd hN
  go_enter Tryz.func113,Tryz.ntmps113
  go_wp2_with (first
    | (go_at_call 158;(with_reducible refine HS.out.mono ?_);rintro r w1 ⟨rfl,hh⟩))
  go_end0
  exact ⟨rfl,hh⟩
end
end Go.Proofs.YtdhbkifpodekcaaGreatDoor.Ac
