/- Texts of this claim. -/
import Derived.Test.YtdhbkifpodekcaaGreatDoorDeskZ10
import Derived.Test.YtdhbkifpodekcaaGreatDoorDeskZ14
import Derived.Deep.RegionHeld3
namespace Go.Proofs.YtdhbkifpodekcaaGreatDoor.Ac
open Go.ChangeShapes Go.WideShapes Go.ChangeAt Go.RowKit Stb
set_option linter.unusedVariables false
set_option maxRecDepth 100000
structure On (g:Nat) (w w':World):Prop where
  os:w'.os=w.os
  tape:w'.tape=w.tape
  output:w'.output=w.output
  size:w.heap.size≤w'.heap.size
  block:∀ k,k≠g→k < w.heap.size→w'.heap[k]?=w.heap[k]?
  kind:∀ T cs,Blk w g T cs→∃ cs',Blk w' g T cs'∧cs'.size=cs.size
theorem On.refl (g:Nat) (w:World):On g w w:=⟨rfl,rfl,rfl,Nat.le_refl _,fun _ _ _=>rfl,fun T cs h=>⟨cs,h,rfl⟩⟩
theorem On.trans {g:Nat} {a b c:World} (h:On g a b) (k:On g b c):On g a c :=
  ⟨k.os.trans h.os,k.tape.trans h.tape,k.output.trans h.output,Nat.le_trans h.size k.size,fun i hi hl=>(k.block i hi (Nat.lt_of_lt_of_le hl h.size)).trans (h.block i hi hl),fun T cs hb=>by
    obtain ⟨c1,h1,e1⟩:=h.kind T cs hb
    obtain ⟨c2,h2,e2⟩:=k.kind T c1 h1
    exact ⟨c2,h2,e2.trans e1⟩⟩
theorem On.of_mor {g:Nat} {w w':World} (h:Mor w w'):On g w w':=by
  have hb:=h.below
  exact ⟨hb.os,hb.tape,hb.output,hb.size,fun k _ hk=>hb.block k hk,fun T cs hc=>⟨cs,hc.below hb hc.lt,rfl⟩⟩
theorem On.mor {g:Nat} {w w1 w2:World} (h:On g w w1) (hm:Mor w1 w2):On g w w2:=h.trans (On.of_mor hm)
theorem On.setCell {g i:Nat} {w w':World} (h:On g w w') (u:Value):On g w (w'.setCell ⟨g,i,none⟩ u) :=
  ⟨h.os,h.tape,h.output,by rw [show (w'.setCell ⟨g,i,none⟩ u).heap.size=w'.heap.size by simp [World.setCell]];exact h.size,fun k hk hl=>(Below.heap_setCell _ _ _ _ hk).trans (h.block k hk hl),fun T cs hc=>by
    obtain ⟨c1,h1,e1⟩:=h.kind T cs hc
    exact ⟨_,h1.set_ i u,by rw [Array.size_setIfInBounds];exact e1⟩⟩
theorem On.drew {g:Nat} {w w':World} (h:On g w w'):On g w w'.drew:=⟨h.os,h.tape,h.output,h.size,h.block,h.kind⟩
def CurP (cur:Array Value) (xs:List Ln):Prop:=∀ i,i < xs.length→cur[i*2]?=some (.string (ge xs i).1)∧cur[i*2+1]?=some (.int .i64 (ge xs i).2)
theorem CurP.set {cur:Array Value} {xs:List Ln} (h:CurP cur xs) (i:Nat) (p:Ln) (hi:i < xs.length):CurP ((cur.setIfInBounds (i*2) (.string p.1)).setIfInBounds (i*2+1) (.int .i64 p.2)) (xs.set i p):=by
  intro k hk
  rw [List.length_set] at hk
  obtain ⟨h1,h2⟩:=h k hk
  have s1:i*2+1 < cur.size:=by
    rcases Nat.lt_or_ge (i*2+1) cur.size with c | c
    · exact c
    · have:=(h i hi).2;rw [Array.getElem?_eq_none c] at this;cases this
  have e:ge (xs.set i p) k=if i=k then p else ge xs k:=by
    unfold ge
    rw [List.getD_eq_getElem?_getD,List.getElem?_set]
    by_cases c:i=k
    · subst c;rw [if_pos rfl,if_pos hi,if_pos rfl];rfl
    · rw [if_neg c,if_neg c,List.getD_eq_getElem?_getD]
  rw [e,Array.getElem?_setIfInBounds,Array.getElem?_setIfInBounds,Array.getElem?_setIfInBounds,Array.getElem?_setIfInBounds]
  by_cases c:i=k
  · subst c
    rw [if_neg (by omega),if_pos rfl,if_pos (by omega),if_pos rfl,if_pos rfl,if_pos (by rw [Array.size_setIfInBounds];omega)]
    exact ⟨rfl,rfl⟩
  · rw [if_neg c,if_neg (show ¬ i*2+1=k*2 by omega),if_neg (show ¬ i*2=k*2 by omega),if_neg (show ¬ i*2+1=k*2+1 by omega),if_neg (show ¬ i*2=k*2+1 by omega)]
    exact ⟨h1,h2⟩
def Dat (w:World) (g:Nat) (xs:List Ln):Prop:=∃ T cur,Blk w g T cur∧CurP cur xs
theorem Dat.cell {w:World} {g:Nat} {xs:List Ln} (h:Dat w g xs) (i:Nat) (hi:i < xs.length):w.cell? ⟨g,i*2,none⟩=some (.string (ge xs i).1)∧w.cell? ⟨g,i*2+1,none⟩=some (.int .i64 (ge xs i).2):=by
  obtain ⟨T,cur,hb,hc⟩:=h
  rw [hb.cell,hb.cell];exact hc i hi
theorem Dat.frozen {w:World} {g:Nat} {xs:List Ln} (h:Dat w g xs) (i:Nat):w.frozen? ⟨g,i*2,none⟩=false∧w.frozen? ⟨g,i*2+1,none⟩=false:=by
  obtain ⟨T,cur,hb,hc⟩:=h
  exact ⟨hb.frozen _,hb.frozen _⟩
abbrev put2 (w:World) (g i:Nat) (p:Ln):World:=(w.setCell ⟨g,i*2,none⟩ (.string p.1)).setCell ⟨g,i*2+1,none⟩ (.int .i64 p.2)
theorem Dat.put {w:World} {g:Nat} {xs:List Ln} (h:Dat w g xs) (i:Nat) (p:Ln) (hi:i < xs.length):Dat (put2 w g i p) g (xs.set i p):=by
  obtain ⟨T,cur,hb,hc⟩:=h
  exact ⟨T,_,(hb.set_ _ _).set_ _ _,hc.set i p hi⟩
theorem Dat.swp {w:World} {g:Nat} {xs:List Ln} (h:Dat w g xs) (i j:Nat) (hi:i < xs.length) (hj:j < xs.length):Dat (put2 (put2 w g i (ge xs j)) g j (ge xs i)) g (swp xs i j) :=
  (h.put i (ge xs j) hi).put j (ge xs i) (by rw [List.length_set];exact hj)
theorem On.put {g:Nat} {w w':World} (h:On g w w') (i:Nat) (p:Ln):On g w (put2 w' g i p):=(h.setCell _).setCell _
theorem On.swp4 {g:Nat} {w w':World} (h:On g w w') (i j:Nat) (u v:Ln):On g w (put2 (put2 w' g i v) g j u):=(h.put i v).put j u
theorem Dat.drew {w:World} {g:Nat} {xs:List Ln} (h:Dat w g xs):Dat w.drew g xs:=h
theorem Dat.mor {w w':World} {g:Nat} {xs:List Ln} (h:Dat w g xs) (hm:Mor w w'):Dat w' g xs:=by
  obtain ⟨T,cur,hb,hc⟩:=h
  exact ⟨T,cur,hb.below hm.below hb.lt,hc⟩
def ModPost (w:World) (g:Nat) (R:List Ln→Prop) (e:Ending) (w':World):Prop :=
  e=.returned (.tuple #[])∧∃ ys,R ys∧Dat w' g ys∧On g w w'
set_option maxRecDepth 100000 in
set_option maxHeartbeats 3200000 in
theorem swr_any (g N cap a b n:Nat) (cv:Value) (xs:List Ln) (w:World) (hd:Dat w g xs) (hN:xs.length=N) (hl:N≤1000) (h1:a+n≤b) (h2:b+n≤N) :
    Calls Tryz.prog 210 #[.slice (some ⟨g,0,none⟩) N cap,.int .i64 a,.int .i64 b,.int .i64 n,cv] w (ModPost w g (fun ys=>Swr xs ys a b n)):=by
  have HD:=Lib.hid hd
  have HN:=Lib.hid hN
  clear hd hN
  go_enter Tryz.func210,Tryz.ntmps210
  go_wp2
  go_loopw [10] (fun i wr=>∃ (k:Nat) (ys:List Ln),k≤n∧i=.int .i64 k∧Hid (Swr xs ys a b k)∧Hid (Dat wr g ys)∧Hid (On g w wr)) (fun i _=>n - (intOf i).toNat)
  case atStart=>exact ⟨0,xs,Nat.zero_le _,rfl,Lib.hid (Swr.zero _ _ _),HD,Lib.hid (On.refl _ _)⟩
  case round =>
    obtain ⟨k,ys,hk,rfl,HS,HY,HO⟩:=hrel
    by_cases hlt:k < n
    · have hki:(k:Int) < (n:Int):=by omega
      obtain ⟨p,hp⟩:∃ p,p=a+k:=⟨_,rfl⟩
      obtain ⟨q,hq⟩:∃ q,q=b+k:=⟨_,rfl⟩
      have e1:(a:Int)+(k:Int)=(p:Int):=by omega
      have e2:(b:Int)+(k:Int)=(q:Int):=by omega
      have p0:(0:Int)≤(p:Int):=by omega
      have q0:(0:Int)≤(q:Int):=by omega
      have pN:(p:Int) < (N:Int):=by omega
      have qN:(q:Int) < (N:Int):=by omega
      have hyl:ys.length=N:=by rw [HS.out.len,HN.out]
      obtain ⟨cp,cp'⟩:=HY.out.cell p (by omega)
      obtain ⟨cq,cq'⟩:=HY.out.cell q (by omega)
      obtain ⟨fp,fp'⟩:=HY.out.frozen p
      obtain ⟨fq,fq'⟩:=HY.out.frozen q
      have HS':=Lib.hid (show Swr xs (swp ys p q) a b (k+1) by rw [hp,hq];exact HS.out.step (by omega) (by rw [HN.out];omega))
      have HY':=Lib.hid (HY.out.swp p q (by omega) (by omega))
      have HO':=Lib.hid (HO.out.swp4 p q (ge ys p) (ge ys q))
      have hpq:p≠q:=by omega
      generalize ge ys p=u at *
      generalize ge ys q=v at *
      clear hp hq hyl
      go_wp2
      go_region
      all_goals go_wp2
      go_roundw
      case rel=>exact ⟨k+1,swp ys p q,by omega,by go_num,HS',Lib.hid (Dat.drew HY'.out),Lib.hid (On.drew HO'.out)⟩
      case measure=>simp [intOf];omega
    · obtain rfl:k=n:=by omega
      go_wp2
      go_end0
      exact ⟨rfl,ys,HS.out,HY.out,HO.out⟩
theorem rotl_ex {xs:List Ln} {a m b:Nat} (h1:a≤m) (h2:m≤b) (h3:b≤xs.length):∃ ts,Todo xs ts a m b:=by
  refine ⟨(List.range xs.length).map fun i=>ge xs (rix a m b i),by simp,fun i=>?_⟩
  rw [List.getElem?_map]
  by_cases h:i < xs.length
  · rw [List.getElem?_range h,ge_some (by unfold rix;split <;> (try split) <;> omega)];rfl
  · rw [List.getElem?_eq_none (by simpa using h),rix,if_pos (by omega),List.getElem?_eq_none (by omega)];rfl
set_option maxRecDepth 100000 in
set_option maxHeartbeats 3200000 in
theorem rot_any (g N cap a m b:Nat) (cv:Value) (xs:List Ln) (w:World) (hd:Dat w g xs) (hN:xs.length=N) (hl:N≤1000) (h1:a < m) (h2:m < b) (h3:b≤N) :
    Calls Tryz.prog 205 #[.slice (some ⟨g,0,none⟩) N cap,.int .i64 a,.int .i64 m,.int .i64 b,cv] w (ModPost w g (fun ys=>Rot xs ys a m b)):=by
  have HD:=Lib.hid hd
  have HN:=Lib.hid hN
  obtain ⟨ts,hts⟩:=rotl_ex (xs:=xs) (a:=a) (m:=m) (b:=b) (by omega) (by omega) (by omega)
  have HT:=Lib.hid hts
  have HSw:=Lib.hid (fun a b n ys w (h:Dat w g ys) (h2:ys.length=N)=>swr_any g N cap a b n cv ys w h h2 hl)
  clear hts
  clear hd hN
  go_enter Tryz.func205,Tryz.ntmps205
  go_wp2
  go_loopw [10,11] (fun vi vj wr=>∃ (i j:Nat) (ys:List Ln),1≤i∧a+i≤m∧1≤j∧m+j≤b∧vi=.int .i64 i∧vj=.int .i64 j∧Hid (ys.length=N)∧Hid (Todo ys ts (m - i) m (m+j))∧Hid (Dat wr g ys)∧Hid (On g w wr)) (fun vi vj _=>(intOf vi).toNat+(intOf vj).toNat)
  case atStart=>exact ⟨m - a,b - m,xs,by omega,by omega,by omega,by omega,by congr 1;omega,by congr 1;omega,HN,Lib.hid (by have:=HT.out;rw [show m - (m - a)=a by omega,show m+(b - m)=b by omega];exact this),HD,Lib.hid (On.refl _ _)⟩
  case round =>
    obtain ⟨i,j,ys,i1,i2,j1,j2,rfl,rfl,HL,HTo,HY,HO⟩:=hrel
    obtain ⟨p,hp⟩:∃ p,p=m - i:=⟨_,rfl⟩
    have e1:(m:Int) - (i:Int)=(p:Int):=by omega
    have HP:=Lib.hid hp
    clear hp
    by_cases hij:i=j
    · subst hij
      have HC:=Lib.hid (HSw.out p m i ys wr HY.out HL.out (by rw [HP.out];omega) (by omega))
      go_wp2_with (first | (go_at_call 210;(with_reducible refine HC.out.mono ?_);rintro e w1 ⟨rfl,zs,hz,hdz,hon⟩))
      go_end0
      rw [HP.out] at hz
      obtain rfl:=HTo.out.last hz (by omega)
      exact ⟨rfl,ts,⟨by rw [hz.len,HL.out,HN.out],HT.out.at_⟩,hdz,HO.out.trans hon⟩
    · by_cases hlt:j < i
      · have hji:(j:Int) < (i:Int):=by omega
        have hne:((i:Int) == (j:Int))=false:=by simp;omega
        have HC:=Lib.hid (HSw.out p m j ys wr HY.out HL.out (by rw [HP.out];omega) (by omega))
        clear hij
        go_wp2_with (first | (go_at_call 210;(with_reducible refine HC.out.mono ?_);rintro e w1 ⟨rfl,zs,hz,hdz,hon⟩))
        have HZ:=Lib.hid hz
        have HDz:=Lib.hid hdz
        have HOn:=Lib.hid (HO.out.trans hon)
        clear hz hdz hon
        go_roundw
        case rel=>exact ⟨i - j,j,zs,by omega,by omega,j1,j2,by congr 1;omega,rfl,Lib.hid (by rw [HZ.out.len,HL.out]),Lib.hid (by have h:=HZ.out;rw [HP.out] at h;exact HTo.out.left h (by omega) hlt),HDz,HOn⟩
        case measure=>simp [intOf];omega
      · have hji:¬ ((j:Int) < (i:Int)):=by omega
        have hne:((i:Int) == (j:Int))=false:=by simp;omega
        obtain ⟨q,hq⟩:∃ q,q=m+j:=⟨_,rfl⟩
        obtain ⟨r,hr⟩:∃ r,r=q - i:=⟨_,rfl⟩
        have e2:(m:Int)+(j:Int)=(q:Int):=by omega
        have e3:(q:Int) - (i:Int)=(r:Int):=by omega
        have HC:=Lib.hid (HSw.out p r i ys wr HY.out HL.out (by rw [HP.out];omega) (by omega))
        have HQ:=Lib.hid (show r=m+j - i by omega)
        have hil:i < j:=by omega
        clear hij hq hr
        go_wp2_with (first | (go_at_call 210;(with_reducible refine HC.out.mono ?_);rintro e w1 ⟨rfl,zs,hz,hdz,hon⟩))
        have HZ:=Lib.hid hz
        have HDz:=Lib.hid hdz
        have HOn:=Lib.hid (HO.out.trans hon)
        clear hz hdz hon
        go_roundw
        case rel=>exact ⟨i,j - i,zs,i1,i2,by omega,by omega,rfl,by congr 1;omega,Lib.hid (by rw [HZ.out.len,HL.out]),Lib.hid (by have h:=HZ.out;rw [HP.out,HQ.out] at h;exact HTo.out.right h (by omega) hil),HDz,HOn⟩
        case measure=>simp [intOf];omega
end Go.Proofs.YtdhbkifpodekcaaGreatDoor.Ac
