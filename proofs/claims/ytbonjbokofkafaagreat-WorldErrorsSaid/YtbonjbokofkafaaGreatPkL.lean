/- Lemmas of the proof: PkL. -/
import Derived.Test.YtbonjbokofkafaaGreatPkE
import Derived.Test.YtbonjbokofkafaaGreatPkD
import Derived.Deep.DeepCutAuto
import Derived.Test.YtbonjbokofkafaaGreatPkB
import Derived.Test.YtbonjbokofkafaaGreatPkH
namespace Go.Proofs.YtbonjbokofkafaaGreat
set_option linter.unusedVariables false
set_option maxRecDepth 100000
set_option maxHeartbeats 64000000
section
open Go.RowKit
theorem Ze8 (n:Int):(Z11 n).length≤10:=(Z2e _).1
theorem Z14:∀ l:List Int,(l.flatMap Z11).length≤10*l.length
 | []=>by simp
 | x :: l=>by have:=Z14 l;have:=Ze8 x;rw [List.flatMap_cons,List.length_append,List.length_cons];omega
theorem encE_len (e:Ent) (h:e.data.size≤16):(Z9p e).length≤100:=by
 unfold Z9p
 have:=Z14 (Z93 e)
 have:=Ze8 e.data.size
 have h6:(Z93 e).length=6:=rfl
 simp only [List.length_append,Z17]
 omega
theorem Z2v:∀ l:List Ent,(∀ e ∈ l,e.data.size≤16)→(Z1g l).length≤100*l.length
 | [],_=>by simp [Z1g]
 | x :: l,h=>by
   have h1:=Z2v l fun e he=>h e (List.mem_cons_of_mem _ he)
   have h2:=encE_len x (h x (List.mem_cons_self ..))
   unfold Z1g at h1 ⊢
   rw [List.flatMap_cons,List.length_append,List.length_cons];omega
theorem Zim (m:Ms):(Z95 m).length=13:=rfl
theorem Z9a {m:Ms} (h:MayM m):∀ x ∈ Z95 m,0≤x∧x≤1099511627776:=by
 obtain⟨k1,k2,f1,f2,t1,t2,ft,b1,b2,v1,v2,l1,l2,n1,n2,c1,c2,m1,m2,p1,p2,o1,o2,e1,e2⟩:=h
 intro x hx
 simp only [Z95,List.mem_cons,List.not_mem_nil,or_false] at hx
 have hy:(0:Int)≤(if m.yes then 1 else 0)∧(if m.yes then 1 else 0:Int)≤1:=by split<;>omega
 rcases hx with rfl | rfl | rfl | rfl | rfl | rfl | rfl | rfl | rfl | rfl | rfl | rfl | rfl<;>omega
theorem Z59 {m:Ms} (h:MayM m):∀ e ∈ m.ents,e.data.size≤16:=fun e he=>Z1l (h.e2 e he)
theorem Zch (m:Ms) (s:Value) (w:World) (h:MayM m) (hs:rdE w s m.ents)
  (HE:∀ w1,Below w.heap.size w w1→Calls Tryz.prog 122 #[s] w1 fun r w'=>∃ v',r=.returned v'∧rdB w' v' (Z1g m.ents)∧Below w1.heap.size w1 w') :
  Calls Tryz.prog 69 #[Z0w m s] w fun r w'=>∃ v',r=.returned v'∧ownB w' w.heap.size v' (Z4w m)∧Below w.heap.size w w':=by
 obtain⟨i0,hi,hz0,hz1,hz2⟩:=info_parts Z1p
 replace hi:=hd_ hi
 have hel:=Z2v m.ents (Z59 h)
 have hel2:=h.e1
 have hnin:=hd_ (Z9a h)
 obtain⟨ns,hns⟩:∃ ns,Z95 m=ns:=⟨_,rfl⟩
 have hnl:ns.length=13:=by rw [← hns];rfl
 rw [hns] at hnin
 obtain⟨eb,heb⟩:∃ eb,Z1g m.ents=eb:=⟨_,rfl⟩
 have hT:Hid (Z4w m=Z3t (ns.flatMap Z11++eb)):=hd_ (by unfold Z4w;rw [hns,heb])
 rw [hT.out]
 rw [heb] at HE hel
 have HM:=hd_ (fun z (hz:Below w.heap.size w z)=>Zad m s z h (hs.grow hz))
 replace HE:=hd_ HE
 obtain⟨k,f,t,b,v,l,me,po,es,co,nu,cl,y⟩:=m
 clear hT h
 dsimp only at *
 obtain⟨a,cap,rfl,hm,hM,ha⟩:=hs
 clear ha hm hM heb
 have hns2:#[Value.int .i64 k, .int .i64 f, .int .i64 t, .int .i64 b, .int .i64 v, .int .i64 l, .int .i64 me, .int .i64 po, .int .i64 co, .int .i64 nu, .int .i64 cl, .int .i64 (if y then 1 else 0), .int .i64 es.length]=(ns.map (Value.int .i64)).toArray:=by rw [← hns];rfl
 clear hns
 obtain⟨yi,hyi⟩:∃ yi:Int,(if y=true then (1:Int) else 0)=yi:=⟨_,rfl⟩
 rw [hyi] at hns2
 replace hns2:=hd_ hns2
 have hes:=hel2
 have HB:=hd_ ((Below.refl w.heap.size w).alloc (Nat.le_refl _) (.cells #[.int .i64 k, .int .i64 f, .int .i64 t, .int .i64 b, .int .i64 v, .int .i64 l, .int .i64 me, .int .i64 po, .slice a es.length cap, .int .i64 co, .int .i64 nu, .int .i64 cl, .bool y] 37))
 have hx:=hd_ (Z0a w (.cells #[.int .i64 k, .int .i64 f, .int .i64 t, .int .i64 b, .int .i64 v, .int .i64 l, .int .i64 me, .int .i64 po, .slice a es.length cap, .int .i64 co, .int .i64 nu, .int .i64 cl, .bool y] 37))
 replace hyi:=hd_ hyi
 go_enter Tryz.func69,Tryz.ntmps69
 go_wp2_with fail
 refine (HM.out _ HB.out).mono ?_
 rintro r w1 ⟨rfl,hb1⟩
 have hx1:=Z02 hx.out hb1
 have hB1:=HB.out.trans (hb1.mono HB.out.size)
 have u0:=Z00 hx1 0
 have u1:=Z00 hx1 1
 have u2:=Z00 hx1 2
 have u3:=Z00 hx1 3
 have u4:=Z00 hx1 4
 have u5:=Z00 hx1 5
 have u6:=Z00 hx1 6
 have u7:=Z00 hx1 7
 have u8:=Z00 hx1 8
 have u9:=Z00 hx1 9
 have u10:=Z00 hx1 10
 have u11:=Z00 hx1 11
 have u12:=Z00 hx1 12
 simp only [List.getElem?_toArray,List.getElem?_cons_zero,List.getElem?_cons_succ] at u0 u1 u2 u3 u4 u5 u6 u7 u8 u9 u10 u11 u12
 have hsz1:=hB1.size
 have hnl1:=Z04 hx1
 clear hb1 HB hx HM
 replace hx1:=hd_ hx1
 replace hB1:=hd_ hB1
 go_upto_if 11 with (fail)
 go_cut [3] (fun z wx=>z=.int .i64 yi∧w1=wx)
 case first=>
  cases y
  ·go_wp2_with fail
   go_meet
   exact⟨by rw [← hyi.out];rfl,rfl⟩
  ·go_wp2_with fail
   go_meet
   exact⟨by rw [← hyi.out];rfl,rfl⟩
 case rest=>
  obtain⟨rfl,rfl⟩:=hcut
  obtain⟨W3,hW3⟩:∃ W3,W3=w1.alloc (.cells #[Value.int .i64 k, .int .i64 f, .int .i64 t, .int .i64 b, .int .i64 v, .int .i64 l, .int .i64 me, .int .i64 po, .int .i64 co, .int .i64 nu, .int .i64 cl, .int .i64 yi, .int .i64 es.length] 2):=⟨_,rfl⟩
  have hB3:Below w.heap.size w W3:=hW3 ▸ hB1.out.alloc hsz1 _
  have hx3:W3.heap[w.heap.size]?=_:=Z02 hx1.out (hW3 ▸ (Below.refl _ _).alloc (Nat.le_refl _) _)
  have hn3:W3.heap[w1.heap.size]?=some (.cells #[Value.int .i64 k, .int .i64 f, .int .i64 t, .int .i64 b, .int .i64 v, .int .i64 l, .int .i64 me, .int .i64 po, .int .i64 co, .int .i64 nu, .int .i64 cl, .int .i64 yi, .int .i64 es.length] 2 (0,0)):=hW3 ▸ Z0a _ _
  rw [hns2.out] at hn3
  obtain⟨nb,hnb⟩:∃ nb,nb=w1.heap.size:=⟨_,rfl⟩
  rw [← hnb] at hn3
  have hs3:=hB3.size
  replace hB3:=hd_ hB3
  replace hx3:=hd_ hx3
  replace hn3:=hd_ hn3
  replace hW3:=hd_ hW3
  go_wp2
  go_loopw [5,6] (fun s i wr=>∃ j:Nat,j≤13∧i=.int .i64 j∧ownB wr W3.heap.size s ((ns.take j).flatMap Z11)∧Below W3.heap.size W3 wr) (fun _ i _=>13-(intOf i).toNat)
  case atStart=>exact⟨0,Nat.zero_le _,rfl,World.ownsRow_nil _ _ _ _,by rw [hW3.out];exact Below.refl _ _⟩
  case round=>
   obtain⟨j,hj,rfl,hown,hbel⟩:=hrel
   have hsz:=hbel.size
   have hi':=hi.out
   have hn4:=Z02 hn3.out hbel
   have hx4:=Z02 hx3.out hbel
   have hlA:=Z14 (ns.take j)
   rw [List.length_take] at hlA
   by_cases hlt:j<13
   ·have hx13:j<ns.length:=by omega
    have c1:=Z00 hn4 j
    simp only [List.getElem?_toArray,List.getElem?_map,List.getElem?_eq_getElem hx13,Option.map_some] at c1
    have hst:Hid ((ns.take (j+1)).flatMap Z11=(ns.take j).flatMap Z11++Z11 ns[j]):=hd_ (by rw [List.take_succ_eq_append_getElem hx13,List.flatMap_append];simp)
    have hin:=hnin.out _ (List.getElem_mem hx13)
    generalize ns[j]=x at c1 hst hin
    obtain⟨y,rfl⟩:=Int.eq_ofNat_of_zero_le hin.1
    have hy:=hin.2
    have hvl:=(Z2e (2*y)).1
    have hne:Z11 (y:Int)=Z4c (2*y):=rfl
    rw [hne] at hst
    clear hne hin
    generalize (ns.take j).flatMap Z11=A at hown hst hlA
    generalize hV:Z4c (2*y)=V at hst hvl
    have hlt4:=Z04 hn4
    rw [hnb] at c1 hlt4
    replace hV:=hd_ hV
    replace hown:=hd_ hown
    replace hbel:=hd_ hbel
    replace hn4:=hd_ hn4
    replace hx4:=hd_ hx4
    go_wp2_with fail
    refine (Z8f y _ (by omega)).mono ?_
    rintro r w5 ⟨v5,rfl,ho5,hb5⟩
    rw [hV.out] at ho5
    have hown5:=hown.out.grow hb5
    unfold ownB at hown5
    have hsrc:=ho5.rd.src
    have hB5:=hbel.out.trans (hb5.mono hsz)
    have hs5:=hB5.size
    clear ho5 hb5 hown c1
    replace hown5:=hd_ hown5
    replace hsrc:=hd_ hsrc
    replace hB5:=hd_ hB5
    go_wp2_with (first
     | (at_builtin;refine Z15 rfl _ _ 103 rfl W3.heap.size 5 i0 (.int .u8 0) 1 1 Tryz.underlying103 hi' hz0 hz1 hz2 rfl (by decide) _ A.length (Z0q A) rfl hown5.out v5 V.length (Z0q V) rfl hsrc.out (Z26 _) (by unfold maxLen;omega) (by omega) hs5 ?_))
    intro v6 w6 hown6 hg6 _
    have ho6:ownB w6 W3.heap.size v6 (A++V):=by
     unfold ownB
     rw [List.length_append,Z0t];exact hown6
    rw [← hst.out] at ho6
    have hB6:Below W3.heap.size W3 w6:=hB5.out.trans ((Below.refl W3.heap.size w5).grown hg6 hs5 (fun k hk=>(hown5.out.lt k hk).1))
    clear hg6 hown6
    replace ho6:=hd_ ho6
    replace hB6:=hd_ hB6
    go_wp2
    go_roundw
    case rel=>exact⟨j+1,by omega,by go_num,ho6.out,hB6.out⟩
    case measure=>simp [intOf];omega
   ·obtain rfl:j=13:=by omega
    rw [List.take_of_length_le (by omega)] at hown
    have hlA:(ns.flatMap Z11).length≤130:=by have:=Z14 ns;omega
    obtain⟨A,hA⟩:∃ A,ns.flatMap Z11=A:=⟨_,rfl⟩
    rw [hA] at hown hlA
    replace hA:=hd_ hA
    have u8:=Z00 hx4 8
    simp only [List.getElem?_toArray,List.getElem?_cons_zero,List.getElem?_cons_succ] at u8
    have hxl:=Z04 hx4
    replace hown:=hd_ hown
    replace hbel:=hd_ hbel
    replace hn4:=hd_ hn4
    replace hx4:=hd_ hx4
    go_wp2_with fail
    refine (HE.out _ (hB3.out.trans (hbel.out.mono hs3))).mono ?_
    rintro r w5 ⟨v5,rfl,ho5,hb5⟩
    have hown5:=hown.out.grow hb5
    unfold ownB at hown5
    have hsrc:=ho5.src
    have hB5:=hbel.out.trans (hb5.mono hsz)
    have hs5:=hB5.size
    clear ho5 hb5 hown
    replace hown5:=hd_ hown5
    replace hsrc:=hd_ hsrc
    replace hB5:=hd_ hB5
    go_wp2_with (first
     | (at_builtin;refine Z15 rfl _ _ 103 rfl W3.heap.size 5 i0 (.int .u8 0) 1 1 Tryz.underlying103 hi' hz0 hz1 hz2 rfl (by decide) _ A.length (Z0q A) rfl hown5.out v5 eb.length (Z0q eb) rfl hsrc.out (Z26 _) (by unfold maxLen;omega) (by omega) hs5 ?_))
    intro v6 w6 hown6 hg6 _
    have ho6:ownB w6 W3.heap.size v6 (A++eb):=by
     unfold ownB
     rw [List.length_append,Z0t];exact hown6
    have hB6:Below W3.heap.size W3 w6:=hB5.out.trans ((Below.refl W3.heap.size w5).grown hg6 hs5 (fun k hk=>(hown5.out.lt k hk).1))
    have hrd6:=hd_ ho6.rd
    have hs6:=hB6.size
    clear hg6 hown6 ho6
    replace hB6:=hd_ hB6
    go_wp2_with fail
    refine (Zfj v6 (A++eb) w6 hrd6.out (by simp;omega)).mono ?_
    rintro r w7 ⟨v7,rfl,ho7,hb7⟩
    have ho8:ownB w7 w.heap.size v7 (Z3t (A++eb)):=Z3y ho7 (by omega)
    have hB8:=hB3.out.trans ((hB6.out.trans (hb7.mono hs6)).mono hs3)
    replace ho8:=hd_ ho8
    replace hB8:=hd_ hB8
    clear ho7 hb7
    go_wp2
    go_ret
    exact⟨v7,rfl,by rw [hA.out];exact ho8.out,hB8.out⟩
end
section
open Go.RowKit
theorem Z5z (lo hi:Int) (v:Value) (l:List Int) (w:World) (hr:rdI w v l) :
  Calls Tryz.prog 221 #[.int .i64 lo, .int .i64 hi,v] w fun e w'=>e=.returned (.bool (inB lo hi l))∧w=w':=by
 obtain⟨a,cap,rfl,hm,hM,ha⟩:=hr
 unfold maxLen at hM
 go_enter Tryz.func221,Tryz.ntmps221
 go_wp2
 go_loop [11] (fun i=>∃ k:Nat,k≤l.length∧i=.int .i64 k∧inB lo hi (l.take k)=true) (fun i=>l.length-(intOf i).toNat)
 case atStart=>exact⟨0,Nat.zero_le _,rfl,rfl⟩
 case round=>
  obtain⟨k,hk,rfl,hI⟩:=hrel
  replace hI:=hd_ hI
  by_cases hlt:k<l.length
  ·obtain⟨b,off,rfl,hc⟩:=ha (by omega)
   have hck:=hc k hlt
   have hs:=Zdx lo hi l k hlt
   rw [hI.out,Bool.true_and] at hs
   clear hc ha
   generalize l[k]=x at hck hs
   replace hs:=hd_ hs
   by_cases h1:lo≤x
   ·by_cases h2:x≤hi
    ·go_wp2
     go_round
     case rel=>exact⟨k+1,by omega,by go_num,by rw [hs.out];simp [h1,h2]⟩
     case measure=>simp [intOf];omega
    ·go_wp2
     go_ret
     exact⟨Z0b (by rw [Z4z lo hi l (k+1) (by rw [hs.out];simp;omega)]),rfl⟩
   ·go_wp2
    go_ret
    exact⟨Z0b (by rw [Z4z lo hi l (k+1) (by rw [hs.out];simp;omega)]),rfl⟩
  ·obtain rfl:k=l.length:=by omega
   rw [List.take_length] at hI
   go_wp2
   go_ret
   exact⟨Z0b hI.out.symm,rfl⟩
theorem rdI_four {n:Nat} (w:World) (a b c d:Int) (E:TypeId) (hn:n=w.heap.size):rdI (w.alloc (.cells #[.int .i64 a, .int .i64 b, .int .i64 c, .int .i64 d] E)) (.slice (some ⟨n,0,none⟩) 4 4) [a,b,c,d]:=by
 subst hn
 exact⟨_,_,rfl,by simp,by decide,fun _=>⟨w.heap.size,0,rfl,fun j hj=>by match j,hj with | 0,_=>simp | 1,_=>simp | 2,_=>simp | 3,_=>simp⟩⟩
theorem Zin (e:Ent) (w:World) (h:Z2l e=true):Calls Tryz.prog 222 #[e.val] w fun r w'=>r=.returned (.bool false)∧Below w.heap.size w w':=by
 have h':=hd_ h
 simp only [Ent.val]
 go_enter Tryz.func222,Tryz.ntmps222
 go_wp2_with fail
 refine (Z4b e _).mono ?_
 rintro r w1 ⟨rfl,hb⟩
 rw [h'.out]
 replace hb:=hd_ (Z1z _ hb)
 go_wp2
 go_ret
 exact⟨rfl,hb.out⟩
theorem Zci (v:Value) (l:List Ent) (w:World) (hr:rdE w v l) (hl:∀ e ∈ l,Z2l e=true) :
  Calls Tryz.prog 228 #[v, .func (.func 222) #[] #[]] w fun r w'=>r=.returned (.int .i64 (-1))∧Below w.heap.size w w':=by
 obtain⟨a,cap,rfl,hm,hM,ha⟩:=hr
 unfold maxLen at hM
 replace ha:=hd_ ha
 replace hl:=hd_ hl
 go_enter Tryz.func228,Tryz.ntmps228
 go_wp2
 go_loopw [8] (fun i wr=>∃ k:Nat,k≤l.length∧i=.int .i64 k∧Below w.heap.size w wr) (fun i _=>l.length-(intOf i).toNat)
 case atStart=>exact⟨0,Nat.zero_le _,rfl,Below.refl _ _⟩
 case round=>
  obtain⟨k,hk,rfl,hbel⟩:=hrel
  by_cases hlt:k<l.length
  ·obtain⟨bl,off,rfl,hc⟩:=ha.out (by omega)
   have hck:=Z1o (hc k hlt) hbel
   have hs:=hd_ (hl.out _ (List.getElem_mem hlt))
   clear hc
   generalize l[k]=x at hck hs
   obtain⟨c0,c1,c2,c3,c4,c5,c6⟩:=hck
   go_wp2_with fail
   refine (Zin x _ hs.out).mono ?_
   rintro r w1 ⟨rfl,hb1⟩
   have hbel1:=hbel.trans (hb1.mono hbel.size)
   clear hb1 hbel c0 c1 c2 c3 c4 c5 c6
   go_wp2
   go_roundw
   case rel=>exact⟨k+1,by omega,by go_num,hbel1⟩
   case measure=>simp [intOf];omega
  ·obtain rfl:k=l.length:=by omega
   go_wp2
   go_ret
   exact⟨rfl,hbel⟩
theorem Z7x (v:Value) (l:List Ent) (w:World) (hr:rdE w v l) (hl:∀ e ∈ l,Z2l e=true) :
  Calls Tryz.prog 211 #[v, .func (.func 222) #[] #[]] w fun r w'=>r=.returned (.bool false)∧Below w.heap.size w w':=by
 go_enter Tryz.func211,Tryz.ntmps211
 go_wp2_with fail
 refine (Zci v l w hr hl).mono ?_
 rintro r w1 ⟨rfl,hb1⟩
 go_wp2
 go_ret
 exact⟨rfl,hb1⟩
theorem wMay_ok (m:Ms) (s:Value) (w:World) (h:MayM m) (hs:rdE w s m.ents) :
  Calls Tryz.prog 196 #[Z0w m s] w fun r w'=>r=.returned (.bool true)∧Below w.heap.size w w':=by
 obtain⟨k,f,t,b,v,l,me,po,es,co,nu,cl,y⟩:=m
 obtain⟨k1,k2,f1,f2,t1,t2,ft,b1,b2,v1,v2,l1,l2,n1,n2,c1,c2,m1,m2,p1,p2,o1,o2,e1,e2⟩:=h
 dsimp only at *
 have hsH:=hd_ hs
 obtain⟨a,cap,rfl,hm,hM,ha⟩:=hs
 clear ha
 unfold maxLen at hM
 replace e2:=hd_ e2
 have i1:Hid (inB 1 13 [k]=true):=hd_ (by simp [inB];omega)
 have i2:Hid (inB 1 7 [f,t]=true):=hd_ (by simp [inB];omega)
 have i3:Hid (inB 1 1099511627776 [b]=true):=hd_ (by simp [inB];omega)
 have i4:Hid (inB 0 1099511627776 [v,l,nu,cl]=true):=hd_ (by simp [inB];omega)
 have i5:Hid (inB 0 127 [me]=true):=hd_ (by simp [inB];omega)
 have i6:Hid (inB 0 60 [po,co]=true):=hd_ (by simp [inB];omega)
 have ft':(f != t)=true:=by simpa using ft
 have ft2:(f==t)=false:=by simpa using ft
 have e1':(es.length:Int)≤60:=by omega
 clear k1 k2 f1 f2 t1 t2 ft b1 b2 v1 v2 l1 l2 n1 n2 c1 c2 m1 m2 p1 p2 o1 o2
 go_enter Tryz.func196,Tryz.ntmps196
 go_wp2_with fail
 refine (Z5z _ _ _ [k] _ (Z6y _ _ _ (by simp))).mono ?_
 rintro r w1 ⟨rfl,rfl⟩
 rw [i1.out]
 go_wp2_with fail
 refine (Z5z _ _ _ [f,t] _ (Z8s _ _ _ _ (by simp))).mono ?_
 rintro r w1 ⟨rfl,rfl⟩
 rw [i2.out]
 go_wp2_with fail
 refine (Z5z _ _ _ [b] _ (Z6y _ _ _ (by simp))).mono ?_
 rintro r w1 ⟨rfl,rfl⟩
 rw [i3.out]
 go_wp2_with fail
 refine (Z5z _ _ _ [v,l,nu,cl] _ (rdI_four _ _ _ _ _ _ (by simp))).mono ?_
 rintro r w1 ⟨rfl,rfl⟩
 rw [i4.out]
 go_wp2_with fail
 refine (Z5z _ _ _ [me] _ (Z6y _ _ _ (by simp))).mono ?_
 rintro r w1 ⟨rfl,rfl⟩
 rw [i5.out]
 go_wp2_with fail
 refine (Z5z _ _ _ [po,co] _ (Z8s _ _ _ _ (by simp))).mono ?_
 rintro r w1 ⟨rfl,rfl⟩
 rw [i6.out]
 go_wp2_with fail
 refine (Z7x _ es _ (hsH.out.grow (((((((((Below.refl w.heap.size w).alloc (Nat.le_refl _) _).alloc (by simp) _).alloc (by simp<;>omega) _).alloc (by simp<;>omega) _).alloc (by simp<;>omega) _).alloc (by simp<;>omega) _).alloc (by simp<;>omega) _))) e2.out).mono ?_
 rintro r w1 ⟨rfl,hb1⟩
 have hB:Below w.heap.size w w1:=(((((((((Below.refl w.heap.size w).alloc (Nat.le_refl _) _).alloc (by simp) _).alloc (by simp<;>omega) _).alloc (by simp<;>omega) _).alloc (by simp<;>omega) _).alloc (by simp<;>omega) _).alloc (by simp<;>omega) _)).trans (hb1.mono (by simp<;>omega))
 replace hB:=hd_ hB
 clear hb1
 go_wp2
 go_ret
 exact⟨rfl,hB.out⟩
end
section
open Go.RowKit
theorem Z9b {w:World} {g n:Nat} {cs:Array Value} {T:TypeId} {fr:Nat × Nat} {size m:Nat} (h:w.heap[g]?=some (.cells cs T fr)) (hc:cs.size=m*size):srcRow w size (.slice (some ⟨g,0,none⟩) m n) m cs.toList:=by
 refine⟨by simpa using hc, .inr ⟨_,_,rfl,fun j u hu=>?_⟩⟩
 have e:(⟨g,0,none⟩:Addr).add j=⟨g,j,none⟩:=by
  unfold Addr.add;split
  ·next h=>subst h;rfl
  ·simp
 rw [e,Z00 h]
 simpa using hu
theorem Zio (v:Value) (l:List UInt8) (n:Nat) (w:World) (h:ownB w 0 v l) (hl:l.length≤100000) (hn:n≤1099511627776) :
  Calls Tryz.prog 198 #[v, .int .i64 (n:Int)] w fun r w'=>∃ v',r=.returned v'∧ownB w' 0 v' (l++Z4c (2*n))∧Chg (fun k=>v.ownBlock=some k) w w'∧∀ k,v'.ownBlock=some k→v.ownBlock=some k∨w.heap.size≤k:=by
 obtain⟨i0,hi,hz0,hz1,hz2⟩:=info_parts Z1p
 replace hi:=hd_ hi
 obtain⟨T,hT⟩:∃ T,l++Z4c (2*n)=T:=⟨_,rfl⟩
 rw [hT]
 replace hT:=hd_ hT
 replace h:=hd_ h
 obtain⟨F,hF⟩:∃ F:Nat→Prop,F=fun k=>v.ownBlock=some k:=⟨_,rfl⟩
 have hFv:Hid (∀ k,v.ownBlock=some k→F k):=hd_ (by rw [hF];exact fun k hk=>hk)
 rw [← hF]
 have hF2:Hid (∀ k,F k→v.ownBlock=some k):=hd_ (by rw [hF];exact fun k hk=>hk)
 replace hF:=hd_ hF
 go_enter Tryz.func198,Tryz.ntmps198
 go_wp2
 go_loopw [0,5] (fun s x wr=>∃ (A:List UInt8) (f u:Nat),f≤9∧A.length+f=l.length+9∧x=.int .u64 (u:Int)∧u<128 ^ (f+1)∧u≤2199023255552∧A++Z36 f u=T∧ownB wr 0 s A∧Chg F w wr∧∀ k,s.ownBlock=some k→F k∨w.heap.size≤k) (fun _ x _=>(intOf x).toNat)
 case atStart=>exact⟨l,9,2*n,Nat.le_refl _,rfl,by congr 1;omega,by omega,by omega,hT.out,h.out,Chg.refl _ _,fun k hk=>.inl (hFv.out k hk)⟩
 case round=>
  obtain⟨A,f,u,hf,hAl,rfl,hu,hu2,hA,hown,hbel,hat⟩:=hrel
  have hsz:=hbel.size
  have hi':=hi.out
  unfold ownB at hown
  replace hown:=hd_ hown
  replace hbel:=hd_ hbel
  replace hA:=hd_ hA
  replace hat:=hd_ hat
  replace hu:=hd_ hu
  by_cases hbig:u<128
  ·have hn2:¬ (u:Int) > 127:=by omega
   go_wp2_with (first
    | (at_builtin;refine Z15 rfl _ _ 103 rfl 0 5 i0 (.int .u8 0) 1 1 Tryz.underlying103 hi' hz0 hz1 hz2 rfl (by decide) _ _ _ rfl (World.ownsRow.alloc hown.out _) (.slice (some ⟨wr.heap.size,0,none⟩) 1 1) 1 [.int .u8 (u:Int)] rfl ?c1 ?c2 ?c3 ?c4 (Nat.zero_le _) ?_))
   case c1=>exact Z9b (Z0a wr _) rfl
   case c2=>rfl
   case c3=>unfold maxLen;omega
   case c4=>omega
   intro v7 w7 hown7 hg7 hat7
   have hT7:T=A++[UInt8.ofNat u]:=by rw [← hA.out,Z25 hbig]
   have ho7:ownB w7 0 v7 T:=by
    rw [hT7]
    unfold ownB
    rw [List.length_append,Z0t]
    have:Z0q [UInt8.ofNat u]=[.int .u8 (u:Int)]:=by unfold Z0q;simp;omega
    rw [this];exact hown7
   have hB7:Chg F w w7:=Z10 (Z1a hbel.out) hg7 hat.out
   have ha7:∀ k,v7.ownBlock=some k→F k∨w.heap.size≤k:=fun k hk=>by
    rcases hat7 with e | e
    ·exact hat.out k (e ▸ hk)
    ·rw [e] at hk;injection hk with hk;right;omega
   clear hg7 hat7 hown7 hT7
   replace ho7:=hd_ ho7
   replace hB7:=hd_ hB7
   replace ha7:=hd_ ha7
   go_wp2
   go_ret
   exact⟨v7,rfl,ho7.out,hB7.out,fun k hk=>(ha7.out k hk).imp (hF2.out k) id⟩
  ·have hn2:(u:Int) > 127:=by omega
   go_wp2_with (first
    | (at_builtin;refine Z15 rfl _ _ 103 rfl 0 5 i0 (.int .u8 0) 1 1 Tryz.underlying103 hi' hz0 hz1 hz2 rfl (by decide) _ _ _ rfl (World.ownsRow.alloc hown.out _) (.slice (some ⟨wr.heap.size,0,none⟩) 1 1) 1 [.int .u8 (bits .or .u8 ((u:Int) % 256) 128)] rfl ?d1 ?d2 ?d3 ?d4 (Nat.zero_le _) ?_))
   case d1=>exact Z9b (Z0a wr _) rfl
   case d2=>intro x hx;simp at hx;subst hx;rfl
   case d3=>unfold maxLen;omega
   case d4=>omega
   intro v7 w7 hown7 hg7 hat7
   obtain⟨f',rfl⟩:∃ f',f=f'+1:=by
    cases f with
    | zero=>exact absurd (by simpa using hu.out) hbig
    | succ f'=>exact⟨f',rfl⟩
   have hby:bits .or .u8 ((u:Int) % 256) 128=((UInt8.ofNat (u % 128+128)).toNat:Int):=by
    rw [show (u:Int) % 256=((u % 256:Nat):Int) by omega,show (128:Int)=((128:Nat):Int) from rfl,u8_or_nat _ _ (by omega) (by omega),or_128 _ (by omega),UInt8.toNat_ofNat']
    omega
   have hT7:(A++[UInt8.ofNat (u % 128+128)])++Z36 f' (u / 128)=T:=by rw [← hA.out,Z3w hbig];simp
   have hu7:u / 128<128 ^ (f'+1):=Nat.div_lt_of_lt_mul (by rw [Nat.mul_comm,← Nat.pow_succ];exact hu.out)
   have ho7:ownB w7 0 v7 (A++[UInt8.ofNat (u % 128+128)]):=by
    unfold ownB
    rw [List.length_append,Z0t]
    have:Z0q [UInt8.ofNat (u % 128+128)]=[.int .u8 (bits .or .u8 ((u:Int) % 256) 128)]:=by rw [hby];rfl
    rw [this];exact hown7
   have hB7:Chg F w w7:=Z10 (Z1a hbel.out) hg7 hat.out
   have ha7:∀ k,v7.ownBlock=some k→F k∨w.heap.size≤k:=fun k hk=>by
    rcases hat7 with e | e
    ·exact hat.out k (e ▸ hk)
    ·rw [e] at hk;injection hk with hk;right;omega
   clear hg7 hat7 hown7 hby
   replace ho7:=hd_ ho7
   replace hB7:=hd_ hB7
   replace ha7:=hd_ ha7
   replace hT7:=hd_ hT7
   replace hu7:=hd_ hu7
   go_wp2
   go_roundw
   case rel=>exact⟨A++[UInt8.ofNat (u % 128+128)],f',u / 128,by omega,by simp;omega,by congr 1,hu7.out,by omega,hT7.out,ho7.out,hB7.out,ha7.out⟩
   case measure=>simp [intOf];omega
end
section
open Go.RowKit
theorem Z3l (n:Nat):Z11 (n:Int)=Z4c (2*n):=rfl
theorem Ze9 (e:Ent) (h:e.data.size≤60):Z9p e=(Z93 e).flatMap Z11++Zfg e.data:=by
 unfold Z9p Zfg
 congr 1
 rw [Z3l]
 unfold Z4c
 rw [Z25 (by omega)]
 rfl
theorem Z60 (l:List Ent) (k:Nat) (h:k<l.length):Z1g (l.take (k+1))=Z1g (l.take k)++Z9p l[k]:=by
 unfold Z1g
 rw [List.take_succ_eq_append_getElem h,List.flatMap_append]
 simp
theorem Z4n (l:List Ent) (k:Nat) (h:∀ e ∈ l,e.data.size≤16):(Z1g (l.take k)).length≤100*k:=by
 have:=Z2v (l.take k) fun e he=>h e (List.mem_of_mem_take he)
 rw [List.length_take] at this
 have:min k l.length≤k:=Nat.min_le_left _ _
 omega
theorem Z9c {e:Ent} (h:Z2l e=true):∀ x ∈ Z93 e,0≤x∧x≤1099511627776:=by
 have:=Zc4 e
 rw [h] at this
 simp [inB] at this
 intro x hx
 simp only [Z93,List.mem_cons,List.not_mem_nil,or_false] at hx
 rcases hx with rfl | rfl | rfl | rfl | rfl | rfl<;>omega
theorem Z5a {P:Program} {t e:TypeId} {len:Nat} {i:TypeInfo} {k:IntKind} (ht:P.underlying t=some (.array len e)) (he:P.underlying e=some (.int k)) (hi:P.info? e=some i) (hs:i.size=1) (cs:Array Value) (j:Nat) (hj:j<len) (v:Value) (hc:cs[j]?=some v) (w:World) :
  (Instr.index t (.agg cs) (.int .i64 (j:Int))).run P w=.ok v w:=by
 simp [Instr.index,hj,run_underlying ht,sizeOf,typeInfo,hi,hs,part,isAgg,run_underlying he,hc,asIntOf]
theorem Zfr (cs:Array Value) (j:Nat) (hj:j<6) (v:Value) (hc:cs[j]?=some v) (w:World):(Instr.index 260 (.agg cs) (.int .i64 (j:Int))).run Tryz.prog w=.ok v w:=by
 obtain⟨i0,hi,hz0,hz1,hz2⟩:=info_parts Zc9
 exact Z5a (k:=.i64) (show Tryz.prog.underlying 260=some (.array 6 2) from by kernel_rfl) (by kernel_rfl) hi hz1 cs j hj v hc w
theorem Zcj (cs:Array Value) (j:Nat) (hj:j<13) (v:Value) (hc:cs[j]?=some v) (w:World):(Instr.index 213 (.agg cs) (.int .i64 (j:Int))).run Tryz.prog w=.ok v w:=by
 obtain⟨i0,hi,hz0,hz1,hz2⟩:=info_parts Zc9
 exact Z5a (k:=.i64) (show Tryz.prog.underlying 213=some (.array 13 2) from by kernel_rfl) (by kernel_rfl) hi hz1 cs j hj v hc w
theorem Z7d (v:Value) (l:List Ent) (w:World) (hr:rdE w v l) (hl:∀ e ∈ l,Z2l e=true) (h60:l.length≤60) :
  Calls Tryz.prog 195 #[v] w fun r w'=>∃ v',r=.returned v'∧ownB w' w.heap.size v' (Z1g l)∧Below w.heap.size w w':=by
 have hdat:∀ e ∈ l,e.data.size≤16:=fun e he=>Z1l (hl e he)
 obtain⟨a,cap,rfl,hm,hM,ha⟩:=hr
 unfold maxLen at hM
 replace ha:=hd_ ha
 replace hl:=hd_ hl
 replace hdat:=hd_ hdat
 go_enter Tryz.func195,Tryz.ntmps195
 go_wp2
 go_loopw [3,10] (fun s i wr=>∃ k:Nat,k≤l.length∧i=.int .i64 k∧ownB wr w.heap.size s (Z1g (l.take k))∧Below w.heap.size w wr) (fun _ i _=>l.length-(intOf i).toNat)
 case atStart=>exact⟨0,Nat.zero_le _,rfl,World.ownsRow_nil _ _ _ _,Below.refl _ _⟩
 case round=>
  obtain⟨k,hk,rfl,hown,hbel⟩:=hrel
  have hsz:=hbel.size
  have hAl:=Z4n l k hdat.out
  by_cases hlt:k<l.length
  ·obtain⟨bl,off,rfl,hc⟩:=ha.out (by omega)
   have hck:=Z1o (hc k hlt) hbel
   have hme:=hd_ (hl.out _ (List.getElem_mem hlt))
   have hst:=hd_ (Z60 l k hlt)
   clear hc
   generalize l[k]=x at hck hme hst
   generalize Z1g (l.take k)=A at hown hst hAl
   obtain⟨c0,c1,c2,c3,c4,c5,c6⟩:=hck
   replace hown:=hd_ hown
   replace hbel:=hd_ hbel
   go_wp2_with fail
   refine (Z4b x _).mono ?_
   rintro r w1 ⟨rfl,hb1⟩
   rw [hme.out]
   have hx1:=Z02 (Z0a wr (boxE x)) hb1
   have hsz1:wr.heap.size≤w1.heap.size:=Nat.le_trans (by simp) hb1.size
   have hown1:=hd_ (ownB.grow hown.out (Z1z _ hb1))
   have hbel1:=hd_ (hbel.out.trans ((Z1z _ hb1).mono hsz))
   have x0:=Z00 hx1 0
   have x1:=Z00 hx1 1
   have x2:=Z00 hx1 2
   have x3:=Z00 hx1 3
   have x4:=Z00 hx1 4
   have x5:=Z00 hx1 5
   simp only [List.getElem?_toArray,List.getElem?_cons_zero,List.getElem?_cons_succ] at x0 x1 x2 x3 x4 x5
   have hnl1:=Z04 hx1
   obtain⟨nb,hnb⟩:∃ nb,nb=wr.heap.size:=⟨_,rfl⟩
   rw [← hnb] at hx1
   replace hx1:=hd_ hx1
   replace hnb:=hd_ hnb
   have hat:Hid (∀ k,u3.ownBlock=some k→w.heap.size≤k∧k≠nb):=hd_ fun k hk=>⟨(hown.out.lt k hk).1,by have:=(hown.out.lt k hk).2;have:=hnb.out;omega⟩
   have hsz1w:w.heap.size≤w1.heap.size:=by omega
   clear hb1 hown hbel c0 c1 c2 c3 c4 c5 c6
   obtain⟨ns,hns⟩:∃ ns,Z93 x=ns:=⟨_,rfl⟩
   have hn6:ns.length=6:=by rw [← hns];rfl
   have hns2:#[Value.int .i64 x.frm, .int .i64 x.boot, .int .i64 x.seq, .int .i64 x.ord, .int .i64 x.lev, .int .i64 x.stamp]=(ns.map (Value.int .i64)).toArray:=by rw [← hns];rfl
   have hnin:=hd_ (Z9c hme.out)
   rw [hns] at hnin
   have hd16:x.data.size≤16:=Z1l hme.out
   have hxe:=hd_ (Ze9 x (by omega))
   rw [hns] at hxe
   replace hns:=hd_ hns
   replace hns2:=hd_ hns2
   go_upto_region 8 with (fail)
   rw [hns2.out]
   go_loopw [3,30] (fun s i wr=>∃ j:Nat,j≤6∧i=.int .i64 j∧ownB wr 0 s (A++(ns.take j).flatMap Z11)∧Chg (fun k=>w.heap.size≤k∧k≠nb) w1 wr∧∀ k,s.ownBlock=some k→w.heap.size≤k∧k≠nb) (fun _ i _=>6-(intOf i).toNat)
   case atStart=>exact⟨0,Nat.zero_le _,rfl,by simpa using Z3y hown1.out (Nat.zero_le _),Chg.refl _ _,hat.out⟩
   case round=>
    obtain⟨j,hj,rfl,hown2,hbel2,hat2⟩:=hrel
    have hlB:=Z14 (ns.take j)
    rw [List.length_take] at hlB
    have hsz2:=hbel2.size
    by_cases hlt6:j<6
    ·have hx6:j<ns.length:=by omega
     have hst6:Hid ((ns.take (j+1)).flatMap Z11=(ns.take j).flatMap Z11++Z11 ns[j]):=hd_ (by rw [List.take_succ_eq_append_getElem hx6,List.flatMap_append];simp)
     have hin:=hnin.out _ (List.getElem_mem hx6)
     have c1:(ns.map (Value.int .i64)).toArray[j]?=some (.int .i64 ns[j]):=by simp [hx6]
     have hix:=Zfr _ j hlt6 _ c1
     generalize ns[j]=y at c1 hst6 hin hix
     obtain⟨z,rfl⟩:=Int.eq_ofNat_of_zero_le hin.1
     have hz:=hin.2
     have hne:Z11 (z:Int)=Z4c (2*z):=rfl
     rw [hne] at hst6
     clear hin c1 hne
     generalize (ns.take j).flatMap Z11=B at hown2 hst6 hlB
     have hlA2:(A++B).length≤100000:=by rw [List.length_append];omega
     replace hown2:=hd_ hown2
     replace hbel2:=hd_ hbel2
     replace hat2:=hd_ hat2
     go_wp2_with fail
     refine (Zio _ (A++B) z _ hown2.out hlA2 (by omega)).mono ?_
     rintro r w5 ⟨v5,rfl,ho5,hb5,ha5⟩
     rw [List.append_assoc,← hst6.out] at ho5
     have hB5:=hbel2.out.more hb5 fun i hi=>.inl (hat2.out i hi)
     have ha6:∀ k,v5.ownBlock=some k→w.heap.size≤k∧k≠nb:=fun k hk=>(ha5 k hk).elim (hat2.out k) fun h=>⟨by omega,by have:=hnb.out;omega⟩
     clear hb5 ha5 hix
     replace ho5:=hd_ ho5
     replace hB5:=hd_ hB5
     replace ha6:=hd_ ha6
     go_wp2
     go_roundw
     case rel=>exact⟨j+1,by omega,by go_num,ho5.out,hB5.out,ha6.out⟩
     case measure=>simp [intOf];omega
    ·obtain rfl:j=6:=by omega
     rw [List.take_of_length_le (by omega)] at hown2
     have hx2:=Z0g hx1.out hbel2 (fun h=>h.2 rfl)
     have u6:=Z00 hx2 6
     simp only [List.getElem?_toArray,List.getElem?_cons_zero,List.getElem?_cons_succ] at u6
     have hnl2:=Z04 hx2
     rw [hnb.out] at u6 hnl2
     have hB2:Below w.heap.size w wr:=hbel1.out.trans (hbel2.below hsz1w fun k h=>h.1)
     have hown3:ownB wr w.heap.size u3 (A++ns.flatMap Z11):=⟨hown2.1,hown2.2.imp id (by
      rintro⟨g,cap,cur,rfl,e1,e2⟩
      exact⟨g,cap,cur,rfl,(hat2 g rfl).1,e2⟩)⟩
     have hlA2:(A++ns.flatMap Z11).length≤90000:=by have:=Z14 ns;rw [List.length_append];omega
     clear hx2 hx1 hown2 hbel2 hat2
     replace hB2:=hd_ hB2
     replace hown3:=hd_ hown3
     go_wp2_with fail
     refine (Zaa _ (A++ns.flatMap Z11) w.heap.size x.data _ hown3.out (by omega) hlA2 (by omega)).mono ?_
     rintro r w5 ⟨v5,rfl,ho5,hb5⟩
     rw [List.append_assoc,← hxe.out,← hst.out] at ho5
     have hB5:=hB2.out.trans hb5
     clear hb5
     replace ho5:=hd_ ho5
     replace hB5:=hd_ hB5
     go_wp2
     go_roundw
     case rel=>exact⟨k+1,by omega,by go_num,ho5.out,hB5.out⟩
     case measure=>simp [intOf];omega
  ·obtain rfl:k=l.length:=by omega
   rw [List.take_length] at hown
   replace hown:=hd_ hown
   replace hbel:=hd_ hbel
   go_wp2
   go_ret
   exact⟨_,rfl,hown.out,hbel.out⟩
end
section
open Go.RowKit
theorem Z7y (v:Value) (l:List Ent) (w:World) (hr:rdE w v l) (hl:∀ e ∈ l,Z2l e=true) (h60:l.length≤60) :
  Calls Tryz.prog 122 #[v] w fun r w'=>∃ v',r=.returned v'∧ownB w' w.heap.size v' (Z1g l)∧Below w.heap.size w w':=by
 have hdat:∀ e ∈ l,e.data.size≤16:=fun e he=>Z1l (hl e he)
 obtain⟨i0,hi,hz0,hz1,hz2⟩:=info_parts Z1p
 replace hi:=hd_ hi
 obtain⟨a,cap,rfl,hm,hM,ha⟩:=hr
 unfold maxLen at hM
 replace ha:=hd_ ha
 replace hl:=hd_ hl
 replace hdat:=hd_ hdat
 go_enter Tryz.func122,Tryz.ntmps122
 go_wp2
 go_loopw [3,4] (fun s i wr=>∃ k:Nat,k≤l.length∧i=.int .i64 k∧ownB wr w.heap.size s (Z1g (l.take k))∧Below w.heap.size w wr) (fun _ i _=>l.length-(intOf i).toNat)
 case atStart=>exact⟨0,Nat.zero_le _,rfl,World.ownsRow_nil _ _ _ _,Below.refl _ _⟩
 case round=>
  obtain⟨k,hk,rfl,hown,hbel⟩:=hrel
  have hsz:=hbel.size
  have hAl:=Z4n l k hdat.out
  by_cases hlt:k<l.length
  ·obtain⟨bl,off,rfl,hc⟩:=ha.out (by omega)
   have hck:=Z1o (hc k hlt) hbel
   have hme:=hd_ (hl.out _ (List.getElem_mem hlt))
   have hst:=hd_ (Z60 l k hlt)
   clear hc
   generalize l[k]=x at hck hme hst
   generalize Z1g (l.take k)=A at hown hst hAl
   obtain⟨c0,c1,c2,c3,c4,c5,c6⟩:=hck
   replace hown:=hd_ hown
   replace hbel:=hd_ hbel
   go_wp2_with fail
   refine (Z86 x _).mono ?_
   rintro r w1 ⟨rfl,hb1⟩
   rw [hme.out]
   have hx1:=Z02 (Z0a wr (boxE x)) hb1
   have hsz1:wr.heap.size≤w1.heap.size:=Nat.le_trans (by simp) hb1.size
   have hown1:=hd_ (ownB.grow hown.out (Z1z _ hb1))
   have hbel1:=hd_ (hbel.out.trans ((Z1z _ hb1).mono hsz))
   have x0:=Z00 hx1 0
   have x1:=Z00 hx1 1
   have x2:=Z00 hx1 2
   have x3:=Z00 hx1 3
   have x4:=Z00 hx1 4
   have x5:=Z00 hx1 5
   simp only [List.getElem?_toArray,List.getElem?_cons_zero,List.getElem?_cons_succ] at x0 x1 x2 x3 x4 x5
   have hnl1:=Z04 hx1
   obtain⟨nb,hnb⟩:∃ nb,nb=wr.heap.size:=⟨_,rfl⟩
   rw [← hnb] at hx1
   replace hx1:=hd_ hx1
   replace hnb:=hd_ hnb
   have hat:Hid (∀ k,u3.ownBlock=some k→w.heap.size≤k∧k≠nb):=hd_ fun k hk=>⟨(hown.out.lt k hk).1,by have:=(hown.out.lt k hk).2;have:=hnb.out;omega⟩
   have hsz1w:w.heap.size≤w1.heap.size:=by omega
   clear hb1 hown hbel c0 c1 c2 c3 c4 c5 c6
   obtain⟨ns,hns⟩:∃ ns,Z93 x=ns:=⟨_,rfl⟩
   have hn6:ns.length=6:=by rw [← hns];rfl
   have hns2:#[Value.int .i64 x.frm, .int .i64 x.boot, .int .i64 x.seq, .int .i64 x.ord, .int .i64 x.lev, .int .i64 x.stamp]=(ns.map (Value.int .i64)).toArray:=by rw [← hns];rfl
   have hnin:=hd_ (Z9c hme.out)
   rw [hns] at hnin
   have hd16:x.data.size≤16:=Z1l hme.out
   have hxe:=hd_ (Ze9 x (by omega))
   rw [hns] at hxe
   replace hns:=hd_ hns
   replace hns2:=hd_ hns2
   obtain⟨W3,hW3⟩:∃ W3,W3=w1.alloc (.cells #[.int .i64 x.frm, .int .i64 x.boot, .int .i64 x.seq, .int .i64 x.ord, .int .i64 x.lev, .int .i64 x.stamp] 2):=⟨_,rfl⟩
   have hB3:Below w1.heap.size w1 W3:=hW3 ▸ (Below.refl _ _).alloc (Nat.le_refl _) _
   have hn3:W3.heap[w1.heap.size]?=some (.cells #[.int .i64 x.frm, .int .i64 x.boot, .int .i64 x.seq, .int .i64 x.ord, .int .i64 x.lev, .int .i64 x.stamp] 2 (0,0)):=hW3 ▸ Z0a _ _
   rw [hns2.out] at hn3
   have hx3:=hd_ (Z02 hx1.out hB3)
   have hown3:=hd_ (ownB.grow hown1.out hB3)
   have hbel3:=hd_ (hbel1.out.trans (hB3.mono hsz1w))
   have hs3:=hB3.size
   obtain⟨mb,hmb⟩:∃ mb,mb=w1.heap.size:=⟨_,rfl⟩
   rw [← hmb] at hn3
   replace hn3:=hd_ hn3
   replace hW3:=hd_ hW3
   replace hmb:=hd_ hmb
   have hm3:mb<W3.heap.size:=Z04 hn3.out
   have hat3:Hid (∀ k,u3.ownBlock=some k→(w.heap.size≤k∧k≠nb)∧k≠mb):=hd_ fun k hk=>⟨hat.out k hk,by have:=(hown1.out.lt k hk).2;have:=hmb.out;omega⟩
   clear hB3 hown1 hbel1
   go_upto_region 10 with (fail)
   rw [← hW3.out]
   go_loopw [3,7] (fun s i wr=>∃ j:Nat,j≤6∧i=.int .i64 j∧ownB wr 0 s (A++(ns.take j).flatMap Z11)∧Chg (fun k=>(w.heap.size≤k∧k≠nb)∧k≠mb) W3 wr∧∀ k,s.ownBlock=some k→(w.heap.size≤k∧k≠nb)∧k≠mb) (fun _ i _=>6-(intOf i).toNat)
   case atStart=>exact⟨0,Nat.zero_le _,rfl,by simpa using Z3y hown3.out (Nat.zero_le _),Chg.refl _ _,hat3.out⟩
   case round=>
    obtain⟨j,hj,rfl,hown2,hbel2,hat2⟩:=hrel
    have hlB:=Z14 (ns.take j)
    rw [List.length_take] at hlB
    have hsz2:=hbel2.size
    by_cases hlt6:j<6
    ·have hx6:j<ns.length:=by omega
     have hst6:Hid ((ns.take (j+1)).flatMap Z11=(ns.take j).flatMap Z11++Z11 ns[j]):=hd_ (by rw [List.take_succ_eq_append_getElem hx6,List.flatMap_append];simp)
     have hin:=hnin.out _ (List.getElem_mem hx6)
     have hn4:=Z0g hn3.out hbel2 (fun h=>h.2 rfl)
     have c1:=Z00 hn4 j
     simp only [List.getElem?_toArray,List.getElem?_map,List.getElem?_eq_getElem hx6,Option.map_some] at c1
     generalize ns[j]=y at c1 hst6 hin
     obtain⟨z,rfl⟩:=Int.eq_ofNat_of_zero_le hin.1
     have hz:=hin.2
     have hne:Z11 (z:Int)=Z4c (2*z):=rfl
     have hvl:=(Z2e (2*z)).1
     rw [hne] at hst6
     clear hin hne
     generalize (ns.take j).flatMap Z11=B at hown2 hst6 hlB
     generalize hV:Z4c (2*z)=V at hst6 hvl
     have hlA2:(A++B).length≤100000:=by rw [List.length_append];omega
     have hst7:Hid (A++(ns.take (j+1)).flatMap Z11=(A++B)++V):=hd_ (by rw [hst6.out,List.append_assoc])
     generalize A++B=C at hown2 hlA2 hst7
     clear hst6
     have hnl4:=Z04 hn4
     rw [hmb.out] at c1 hnl4
     replace hV:=hd_ hV
     replace hown2:=hd_ hown2
     replace hbel2:=hd_ hbel2
     replace hat2:=hd_ hat2
     clear hn4
     go_wp2_with fail
     refine (Z8f z _ (by omega)).mono ?_
     rintro r w5 ⟨v5,rfl,ho5,hb5⟩
     rw [hV.out] at ho5
     have hown5:=hown2.out.grow hb5
     unfold ownB at hown5
     have hsrc:=ho5.rd.src
     have hB5:=hbel2.out.on hb5
     have hs5:=hB5.size
     have hi':=hi.out
     clear ho5 hb5 hown2 c1
     replace hown5:=hd_ hown5
     replace hsrc:=hd_ hsrc
     replace hB5:=hd_ hB5
     go_wp2_with (first
      | (at_builtin;refine Z15 rfl _ _ 103 rfl 0 5 i0 (.int .u8 0) 1 1 Tryz.underlying103 hi' hz0 hz1 hz2 rfl (by decide) _ C.length (Z0q C) rfl hown5.out v5 V.length (Z0q V) rfl hsrc.out (Z26 _) (by unfold maxLen;omega) (by omega) (Nat.zero_le _) ?_))
     intro v6 w6 hown6 hg6 hat6
     have ho6:ownB w6 0 v6 (C++V):=by
      unfold ownB
      rw [List.length_append,Z0t];exact hown6
     rw [← hst7.out] at ho6
     have hB6:=Z10 hB5.out hg6 fun k hk=>.inl (hat2.out k hk)
     have ha6:∀ k,v6.ownBlock=some k→(w.heap.size≤k∧k≠nb)∧k≠mb:=fun k hk=>by
      rcases hat6 with e | e
      ·exact hat2.out k (e ▸ hk)
      ·rw [e] at hk;injection hk with hk;exact⟨⟨by omega,by have:=hnb.out;omega⟩,by have:=hmb.out;omega⟩
     clear hg6 hat6 hown6
     replace ho6:=hd_ ho6
     replace hB6:=hd_ hB6
     replace ha6:=hd_ ha6
     go_wp2
     go_roundw
     case rel=>exact⟨j+1,by omega,by go_num,ho6.out,hB6.out,ha6.out⟩
     case measure=>simp [intOf];omega
    ·obtain rfl:j=6:=by omega
     rw [List.take_of_length_le (by omega)] at hown2
     have hx2:=Z0g hx3.out hbel2 (fun h=>h.1.2 rfl)
     have u6:=Z00 hx2 6
     simp only [List.getElem?_toArray,List.getElem?_cons_zero,List.getElem?_cons_succ] at u6
     have hnl2:=Z04 hx2
     rw [hnb.out] at u6 hnl2
     have hn4:=Z04 (Z0g hn3.out hbel2 (fun h=>h.2 rfl))
     have hB2:Below w.heap.size w wr:=hbel3.out.trans (hbel2.below (by omega) fun k h=>h.1.1)
     have hown4:ownB wr w.heap.size u3 (A++ns.flatMap Z11):=⟨hown2.1,hown2.2.imp id (by
      rintro⟨g,cap,cur,rfl,e1,e2⟩
      exact⟨g,cap,cur,rfl,(hat2 g rfl).1.1,e2⟩)⟩
     have hlA2:(A++ns.flatMap Z11).length≤90000:=by have:=Z14 ns;rw [List.length_append];omega
     have hs4:=hB2.size
     rw [hmb.out] at hn4
     have hst8:Hid (Z1g (l.take (k+1))=(A++ns.flatMap Z11)++Zfg x.data):=hd_ (by rw [hst.out,hxe.out,List.append_assoc])
     generalize A++ns.flatMap Z11=D at hown4 hlA2 hst8
     obtain⟨xt,hxt⟩:∃ xt,Zfg x.data=xt:=⟨_,rfl⟩
     have hxl:xt.length≤100:=by rw [← hxt];unfold Zfg;simp only [List.length_cons,Z17];omega
     rw [hxt] at hst8
     replace hxt:=hd_ hxt
     clear hx2 hx3 hown2 hbel2 hat2 hn3
     replace hB2:=hd_ hB2
     replace hown4:=hd_ hown4
     go_wp2_with fail
     refine (Z92 x.data _ (by omega)).mono ?_
     rintro r w5 ⟨v5,rfl,ho5,hb5⟩
     rw [hxt.out] at ho5
     have hown5:=hown4.out.grow hb5
     unfold ownB at hown5
     have hsrc:=ho5.rd.src
     have hB5:=hB2.out.trans (hb5.mono hs4)
     have hs5:=hB5.size
     have hi':=hi.out
     clear ho5 hb5 hown4
     replace hown5:=hd_ hown5
     replace hsrc:=hd_ hsrc
     replace hB5:=hd_ hB5
     go_wp2_with (first
      | (at_builtin;refine Z15 rfl _ _ 103 rfl w.heap.size 5 i0 (.int .u8 0) 1 1 Tryz.underlying103 hi' hz0 hz1 hz2 rfl (by decide) _ D.length (Z0q D) rfl hown5.out v5 xt.length (Z0q xt) rfl hsrc.out (Z26 _) (by unfold maxLen;omega) (by omega) hs5 ?_))
     intro v6 w6 hown6 hg6 _
     have ho6:ownB w6 w.heap.size v6 (D++xt):=by
      unfold ownB
      rw [List.length_append,Z0t];exact hown6
     rw [← hst8.out] at ho6
     have hB6:Below w.heap.size w w6:=hB5.out.trans ((Below.refl w.heap.size w5).grown hg6 hs5 (fun k hk=>(hown5.out.lt k hk).1))
     clear hg6 hown6
     replace ho6:=hd_ ho6
     replace hB6:=hd_ hB6
     go_wp2
     go_roundw
     case rel=>exact⟨k+1,by omega,by go_num,ho6.out,hB6.out⟩
     case measure=>simp [intOf];omega
  ·obtain rfl:k=l.length:=by omega
   rw [List.take_length] at hown
   replace hown:=hd_ hown
   replace hbel:=hd_ hbel
   go_wp2
   go_ret
   exact⟨_,rfl,hown.out,hbel.out⟩
theorem Z42 (m:Ms) (s:Value) (w:World) (h:MayM m) (hs:rdE w s m.ents) :
  Calls Tryz.prog 69 #[Z0w m s] w fun r w'=>∃ v',r=.returned v'∧ownB w' w.heap.size v' (Z4w m)∧Below w.heap.size w w':=
 Zch m s w h hs fun w1 hb=>(Z7y s m.ents w1 (hs.grow hb) h.e2 h.e1).mono fun r w' ⟨v',e,ho,hb'⟩=>⟨v',e,ho.rd,hb'⟩
end
section
open Go.RowKit
theorem Zan (m:Ms) (sa:Option Addr) (sc:Nat) (w:World) (h60:m.ents.length≤60) :
  Calls Tryz.prog 197 #[Z0w m (.slice sa m.ents.length sc)] w fun r w'=>r=.returned (.agg ((Z95 m).map (Value.int .i64)).toArray)∧Below w.heap.size w w':=by
 obtain⟨k,f,t,b,v,l,me,po,es,co,nu,cl,y⟩:=m
 dsimp only at *
 cases y
 ·go_enter Tryz.func197,Tryz.ntmps197
  go_wp2
  exact bodyPost_ret (v:=.agg #[.int .i64 k, .int .i64 f, .int .i64 t, .int .i64 b, .int .i64 v, .int .i64 l, .int .i64 me, .int .i64 po, .int .i64 co, .int .i64 nu, .int .i64 cl, .int .i64 0, .int .i64 es.length]) (by simp [results,Tryz.results197,go_sem]) rfl ⟨rfl,((Below.refl _ _).alloc (Nat.le_refl _) _).alloc (by simp) _⟩
 ·go_enter Tryz.func197,Tryz.ntmps197
  go_wp2
  exact bodyPost_ret (v:=.agg #[.int .i64 k, .int .i64 f, .int .i64 t, .int .i64 b, .int .i64 v, .int .i64 l, .int .i64 me, .int .i64 po, .int .i64 co, .int .i64 nu, .int .i64 cl, .int .i64 1, .int .i64 es.length]) (by simp [results,Tryz.results197,go_sem]) rfl ⟨rfl,((Below.refl _ _).alloc (Nat.le_refl _) _).alloc (by simp) _⟩
theorem Z7e (m:Ms) (s:Value) (w:World) (h:MayM m) (hs:rdE w s m.ents) :
  Calls Tryz.prog 160 #[Z0w m s] w fun r w'=>∃ v',r=.returned v'∧ownB w' w.heap.size v' (Z4w m)∧Below w.heap.size w w':=by
 obtain⟨i0,hi,hz0,hz1,hz2⟩:=info_parts Z1p
 replace hi:=hd_ hi
 have hel:=Z2v m.ents (Z59 h)
 have hel2:=h.e1
 have hnin:=hd_ (Z9a h)
 obtain⟨ns,hns⟩:∃ ns,Z95 m=ns:=⟨_,rfl⟩
 have hnl:ns.length=13:=by rw [← hns];rfl
 rw [hns] at hnin
 obtain⟨eb,heb⟩:∃ eb,Z1g m.ents=eb:=⟨_,rfl⟩
 have hT:Hid (Z4w m=Z3t (ns.flatMap Z11++eb)):=hd_ (by unfold Z4w;rw [hns,heb])
 rw [hT.out]
 rw [heb] at hel
 have HE:=hd_ (fun w1 (hb:Below w.heap.size w w1)=>Z7d s m.ents w1 (hs.grow hb) h.e2 h.e1)
 rw [heb] at HE
 have HM:=hd_ (fun z (hz:Below w.heap.size w z)=>wMay_ok m s z h (hs.grow hz))
 obtain⟨sa,sc,rfl⟩:=hs.len
 have HN:=hd_ (fun z=>Zan m sa sc z h.e1)
 rw [hns] at HN
 obtain⟨k,f,t,b,v,l,me,po,es,co,nu,cl,y⟩:=m
 clear hT h hns heb hs
 dsimp only at *
 have HB:=hd_ ((Below.refl w.heap.size w).alloc (Nat.le_refl _) (.cells #[.int .i64 k, .int .i64 f, .int .i64 t, .int .i64 b, .int .i64 v, .int .i64 l, .int .i64 me, .int .i64 po, .slice sa es.length sc, .int .i64 co, .int .i64 nu, .int .i64 cl, .bool y] 37))
 have hx:=hd_ (Z0a w (.cells #[.int .i64 k, .int .i64 f, .int .i64 t, .int .i64 b, .int .i64 v, .int .i64 l, .int .i64 me, .int .i64 po, .slice sa es.length sc, .int .i64 co, .int .i64 nu, .int .i64 cl, .bool y] 37))
 go_enter Tryz.func160,Tryz.ntmps160
 go_wp2_with fail
 refine (HM.out _ HB.out).mono ?_
 rintro r w1 ⟨rfl,hb1⟩
 have hx1:=Z02 hx.out hb1
 have hB1:=HB.out.trans (hb1.mono HB.out.size)
 have hs1:=hB1.size
 have u0:=Z00 hx1 0
 have u1:=Z00 hx1 1
 have u2:=Z00 hx1 2
 have u3:=Z00 hx1 3
 have u4:=Z00 hx1 4
 have u5:=Z00 hx1 5
 have u6:=Z00 hx1 6
 have u7:=Z00 hx1 7
 have u8:=Z00 hx1 8
 have u9:=Z00 hx1 9
 have u10:=Z00 hx1 10
 have u11:=Z00 hx1 11
 have u12:=Z00 hx1 12
 simp only [List.getElem?_toArray,List.getElem?_cons_zero,List.getElem?_cons_succ] at u0 u1 u2 u3 u4 u5 u6 u7 u8 u9 u10 u11 u12
 have hnl1:=Z04 hx1
 clear hb1 HB hx HM
 obtain⟨nb,hnb⟩:∃ nb,nb=w.heap.size:=⟨_,rfl⟩
 rw [← hnb] at hx1
 replace hnb:=hd_ hnb
 replace hx1:=hd_ hx1
 replace hB1:=hd_ hB1
 go_wp2_with fail
 refine (HN.out _).mono ?_
 rintro r w2 ⟨rfl,hb2⟩
 have hx2:=hd_ (Z02 hx1.out hb2)
 have hB2:=hd_ (hB1.out.trans (hb2.mono hs1))
 have hs2:=hB2.out.size
 have hs12:=hb2.size
 clear u0 u1 u2 u3 u4 u5 u6 u7 u8 u9 u10 u11 u12 hb2 hx1 hB1
 go_wp2
 go_loopw [3,11] (fun s i wr=>∃ j:Nat,j≤13∧i=.int .i64 j∧ownB wr w2.heap.size s ((ns.take j).flatMap Z11)∧Below w2.heap.size w2 wr) (fun _ i _=>13-(intOf i).toNat)
 case atStart=>exact⟨0,Nat.zero_le _,rfl,World.ownsRow_nil _ _ _ _,Below.refl _ _⟩
 case round=>
  obtain⟨j,hj,rfl,hown,hbel⟩:=hrel
  have hsz:=hbel.size
  have hi':=hi.out
  have hlA:=Z14 (ns.take j)
  rw [List.length_take] at hlA
  by_cases hlt:j<13
  ·have hx13:j<ns.length:=by omega
   have hst:Hid ((ns.take (j+1)).flatMap Z11=(ns.take j).flatMap Z11++Z11 ns[j]):=hd_ (by rw [List.take_succ_eq_append_getElem hx13,List.flatMap_append];simp)
   have hin:=hnin.out _ (List.getElem_mem hx13)
   have c1:(ns.map (Value.int .i64)).toArray[j]?=some (.int .i64 ns[j]):=by simp [hx13]
   have hix:=Zcj _ j hlt _ c1
   generalize ns[j]=x at c1 hst hin hix
   obtain⟨y,rfl⟩:=Int.eq_ofNat_of_zero_le hin.1
   have hy:=hin.2
   have hne:Z11 (y:Int)=Z4c (2*y):=rfl
   rw [hne] at hst
   clear hne hin c1
   generalize (ns.take j).flatMap Z11=A at hown hst hlA
   replace hown:=hd_ hown
   replace hbel:=hd_ hbel
   go_wp2_with fail
   refine (Zhy _ A w2.heap.size y _ hown.out hsz (by omega) (by omega)).mono ?_
   rintro r w5 ⟨v5,rfl,ho5,hb5⟩
   rw [← hst.out] at ho5
   have hB5:=hd_ (hbel.out.trans hb5)
   replace ho5:=hd_ ho5
   clear hb5 hown hbel hix
   go_wp2
   go_roundw
   case rel=>exact⟨j+1,by omega,by go_num,ho5.out,hB5.out⟩
   case measure=>simp [intOf];omega
  ·obtain rfl:j=13:=by omega
   rw [List.take_of_length_le (by omega)] at hown
   have hlA:(ns.flatMap Z11).length≤130:=by have:=Z14 ns;omega
   obtain⟨A,hA⟩:∃ A,ns.flatMap Z11=A:=⟨_,rfl⟩
   rw [hA] at hown hlA
   replace hA:=hd_ hA
   have hx4:=Z02 hx2.out hbel
   have u8:=Z00 hx4 8
   simp only [List.getElem?_toArray,List.getElem?_cons_zero,List.getElem?_cons_succ] at u8
   have hxl:=Z04 hx4
   rw [hnb.out] at u8 hxl
   replace hown:=hd_ hown
   replace hbel:=hd_ hbel
   replace hx4:=hd_ hx4
   go_wp2_with fail
   refine (HE.out _ (hB2.out.trans (hbel.out.mono hs2))).mono ?_
   rintro r w5 ⟨v5,rfl,ho5,hb5⟩
   have hown5:=hown.out.grow hb5
   unfold ownB at hown5
   have hsrc:=ho5.rd.src
   have hB5:=hbel.out.trans (hb5.mono hsz)
   have hs5:=hB5.size
   clear ho5 hb5 hown
   replace hown5:=hd_ hown5
   replace hsrc:=hd_ hsrc
   replace hB5:=hd_ hB5
   go_wp2_with (first
    | (at_builtin;refine Z15 rfl _ _ 103 rfl w2.heap.size 5 i0 (.int .u8 0) 1 1 Tryz.underlying103 hi' hz0 hz1 hz2 rfl (by decide) _ A.length (Z0q A) rfl hown5.out v5 eb.length (Z0q eb) rfl hsrc.out (Z26 _) (by unfold maxLen;omega) (by omega) hs5 ?_))
   intro v6 w6 hown6 hg6 _
   have ho6:ownB w6 w2.heap.size v6 (A++eb):=by
    unfold ownB
    rw [List.length_append,Z0t];exact hown6
   have hB6:Below w2.heap.size w2 w6:=hB5.out.trans ((Below.refl w2.heap.size w5).grown hg6 hs5 (fun k hk=>(hown5.out.lt k hk).1))
   have hrd6:=hd_ ho6.rd
   have hs6:=hB6.size
   clear hg6 hown6 ho6
   replace hB6:=hd_ hB6
   go_wp2_with fail
   refine (Zhz v6 (A++eb) w6 hrd6.out (by simp;omega)).mono ?_
   rintro r w7 ⟨v7,rfl,ho7,hb7⟩
   have ho8:ownB w7 w.heap.size v7 (Z3t (A++eb)):=Z3y ho7 (by omega)
   have hB8:=hB2.out.trans ((hB6.out.trans (hb7.mono hs6)).mono hs2)
   replace ho8:=hd_ ho8
   replace hB8:=hd_ hB8
   clear ho7 hb7
   go_wp2
   go_ret
   exact⟨v7,rfl,by rw [hA.out];exact ho8.out,hB8.out⟩
end
section
open Go.RowKit
theorem Z6q {w:World} {g off n cap:Nat} {l:List UInt8} (h:rdB w (.slice (some ⟨g,off,none⟩) n cap) l) (A:Nat) (hA:A≤l.length):rdB w (.slice (some ⟨g,off+A,none⟩) (n-A) (cap-A)) (l.drop A):=by
 obtain⟨a',c',e,hm,hM,ha⟩:=h
 cases e
 refine⟨_,_,by rw [List.length_drop],by rw [List.length_drop];omega,by omega,fun h0=>?_⟩
 rw [List.length_drop] at h0
 obtain⟨b,o,e,hc⟩:=ha (by omega)
 cases e
 refine⟨_,_,rfl,fun j hj=>?_⟩
 rw [List.length_drop] at hj
 have:=hc (A+j) (by omega)
 rw [← Nat.add_assoc] at this
 rw [this,List.getElem_drop]
def Zby (N:Nat) (ns:List Int) (j:Nat):Array Value:=((ns.take j).map (Value.int .i64)++List.replicate (N-j) (Value.int .i64 0)).toArray
theorem Zea {N:Nat} {ns:List Int} (h:ns.length=N) {j:Nat} (hj:j<N):(Zby N ns j).setIfInBounds j (Value.int .i64 (ns[j]'(by omega)))=Zby N ns (j+1):=by
 have hjn:j<ns.length:=by omega
 obtain⟨r,hr⟩:∃ r,N-j=r+1:=⟨N-j-1,by omega⟩
 have hr2:N-(j+1)=r:=by omega
 have hlj:((ns.take j).map (Value.int .i64)).length=j:=by rw [List.length_map,List.length_take];omega
 unfold Zby
 rw [hr,hr2,List.take_succ_eq_append_getElem hjn,List.setIfInBounds_toArray]
 congr 1
 rw [List.set_append_right _ _ (by rw [hlj];exact Nat.le_refl _),hlj,Nat.sub_self,List.replicate_succ,List.set_cons_zero,List.map_append,List.append_assoc]
 rfl
theorem Zao {N:Nat} {ns:List Int} (h:ns.length=N):Zby N ns N=(ns.map (Value.int .i64)).toArray:=by
 unfold Zby
 rw [List.take_of_length_le (by omega)];simp
theorem Zfs (ns:List Int) (j:Nat) (hj:j<ns.length):ns.flatMap Z11=(ns.take j).flatMap Z11++(Z11 ns[j]++(ns.drop (j+1)).flatMap Z11):=by
 have e:ns.take j++(ns[j] :: ns.drop (j+1))=ns:=by rw [← List.drop_eq_getElem_cons hj,List.take_append_drop]
 have e2:(ns.take j++(ns[j] :: ns.drop (j+1))).flatMap Z11=(ns.take j).flatMap Z11++(Z11 ns[j]++(ns.drop (j+1)).flatMap Z11):=by rw [List.flatMap_append,List.flatMap_cons]
 rw [e] at e2
 exact e2
theorem Zip (ns:List Int) (rest:List UInt8) (j:Nat) (hj:j<ns.length):((ns.flatMap Z11)++rest).drop ((ns.take j).flatMap Z11).length=Z11 ns[j]++((((ns.drop (j+1)).flatMap Z11))++rest):=by
 rw [Zfs ns j hj,List.append_assoc,List.drop_left,List.append_assoc]
theorem eOne_any (e:Ent) (v:Value) (l rest:List UInt8) (w:World) (h:rdB w v l) (hl:l=Z9p e++rest) (hme:Z2l e=true) (hlen:l.length≤100000) :
  Calls Tryz.prog 194 #[v] w fun r w'=>r=.returned (.tuple #[e.val, .int .i64 ((Z9p e).length:Int)])∧Below w.heap.size w w':=by
 have hd16:e.data.size≤16:=Z1l hme
 have hnin:=hd_ (Z9c hme)
 obtain⟨ns,hns⟩:∃ ns,Z93 e=ns:=⟨_,rfl⟩
 have hn6:ns.length=6:=by rw [← hns];rfl
 rw [hns] at hnin
 have hns2:#[Value.int .i64 e.frm, .int .i64 e.boot, .int .i64 e.seq, .int .i64 e.ord, .int .i64 e.lev, .int .i64 e.stamp]=(ns.map (Value.int .i64)).toArray:=by rw [← hns];rfl
 have hl2:l=ns.flatMap Z11++((Z11 e.data.size++e.data.data.toList)++rest):=by rw [hl];unfold Z9p;rw [hns];simp
 have hdl:Hid ((Z9p e).length=(ns.flatMap Z11).length+((Z4c (2*e.data.size)).length+e.data.size)):=hd_ (by unfold Z9p;rw [hns,Z3l];simp)
 have h':=hd_ h
 have hlp:0<l.length:=by
  rw [hl2]
  have:=(Z2e (2*e.data.size)).2
  rw [Z3l]
  simp only [List.length_append];omega
 obtain⟨a,cap,rfl,hm,hM,ha⟩:=h
 obtain⟨g,off,rfl,hc⟩:=ha hlp
 unfold maxLen at hM
 clear hc ha hns
 replace hns2:=hd_ hns2
 replace hl2:=hd_ hl2
 replace hl:=hd_ hl
 obtain⟨n,hn⟩:∃ n,l.length=n:=⟨_,rfl⟩
 rw [hn] at hm hlp hlen h' ⊢
 have hgl:g<w.heap.size:=by
  obtain⟨_,_,e1,_,_,h2⟩:=h'.out
  cases e1
  obtain⟨_,_,e2,h3⟩:=h2 (by omega)
  cases e2
  exact Z0f (h3 0 (by omega))
 replace hn:=hd_ hn
 obtain⟨nb,hnb⟩:∃ nb,nb=w.heap.size+1:=⟨_,rfl⟩
 replace hnb:=hd_ hnb
 obtain⟨rb,hrb⟩:∃ rb,rb=w.heap.size:=⟨_,rfl⟩
 have hrn:rb≠nb:=by have:=hnb.out;omega
 replace hrb:=hd_ hrb
 have hfin:Hid (∀ w':World,w'.heap[nb]?=some (.cells (Zby 6 ns 6) 260 (0,0))→w'.heap[nb]?=some (.cells #[.int .i64 e.frm, .int .i64 e.boot, .int .i64 e.seq, .int .i64 e.ord, .int .i64 e.lev, .int .i64 e.stamp] 260 (0,0))):=hd_ fun w' hw=>by
  rw [Zao hn6,← hns2.out] at hw;exact hw
 go_enter Tryz.func194,Tryz.ntmps194
 go_wp2
 go_loopw [13,5] (fun i x wr=>∃ j A:Nat,j≤6∧i=.int .i64 j∧x=.int .i64 A∧A=((ns.take j).flatMap Z11).length∧wr.heap[nb]?=some (.cells (Zby 6 ns j) 260 (0,0))∧wr.heap[rb]?=some (boxZ 134)∧Below w.heap.size w wr) (fun i _ _=>6-(intOf i).toNat)
 case atStart=>
  refine⟨0,0,Nat.zero_le _,rfl,rfl,rfl,?_,hrb.out ▸ Z4l _ (Z0a w _),((Below.refl _ _).alloc (Nat.le_refl _) _).alloc (by simp) _⟩
  have h2:=Z0a (w.alloc (boxZ 134)) (.cells (Zby 6 ns 0) 260)
  rw [World.size_alloc,← hnb.out] at h2
  exact h2
 case round=>
  obtain⟨j,A,hj,rfl,rfl,hA,hblk,hrbk,hbel⟩:=hrel
  have hsz:=hbel.size
  by_cases hlt:j<6
  ·have hx6:j<ns.length:=by omega
   have hin:=hnin.out _ (List.getElem_mem hx6)
   have hst:((ns.take (j+1)).flatMap Z11).length=A+(Z11 ns[j]).length:=by rw [List.take_succ_eq_append_getElem hx6,List.flatMap_append,List.length_append,← hA];simp
   have hdr:=Zip ns ((Z11 e.data.size++e.data.data.toList)++rest) j hx6
   rw [← hl2.out,← hA] at hdr
   have hset:=Zea hn6 hlt
   have hcur:=Z00 hblk j
   have hcv:(Zby 6 ns j)[j]?=some (Value.int .i64 0):=by
    simp only [Zby,List.getElem?_toArray]
    rw [List.getElem?_append_right (by rw [List.length_map,List.length_take];omega),List.length_map,List.length_take,List.getElem?_replicate,if_pos (by omega)]
   rw [hcv] at hcur
   have hzf:=Z03 hblk j
   have hnl:=Z04 hblk
   generalize ns[j]=y at hin hst hdr hset
   obtain⟨z,rfl⟩:=Int.eq_ofNat_of_zero_le hin.1
   have hz:=hin.2
   rw [Z3l] at hdr hst
   have hvl:=Z2e (2*z)
   have hAn:A+(Z4c (2*z)).length<n:=by
    have:=congrArg List.length hdr
    rw [List.length_drop,List.length_append,hn.out] at this
    have h2:=congrArg List.length hl2.out
    rw [hn.out] at h2
    have h3:((ns.take (j+1)).flatMap Z11).length≤(ns.flatMap Z11).length:=by
     have e0:(ns.take (j+1)++ns.drop (j+1)).flatMap Z11=(ns.take (j+1)).flatMap Z11++(ns.drop (j+1)).flatMap Z11:=List.flatMap_append
     rw [List.take_append_drop] at e0
     rw [e0,List.length_append];omega
    have h4:=(Z2e (2*e.data.size)).2
    rw [Z3l] at h2
    simp only [List.length_append] at h2
    omega
   have hAc:¬ (cap=A):=by omega
   have hdp:=hd_ ((Z6q h'.out A (by rw [hn.out];omega)).below hbel)
   have hblk2:(wr.setCell ⟨nb,j,none⟩ (.int .i64 (z:Int))).heap[nb]?=some (.cells (Zby 6 ns (j+1)) 260 (0,0)):=by rw [Z0d hblk,hset]
   have hrb2:=hd_ (Z0u (o:=j) (u:=.int .i64 (z:Int)) hrbk hrn)
   have hB2:Below w.heap.size w (wr.setCell ⟨nb,j,none⟩ (.int .i64 (z:Int))):=hbel.setCell (by show w.heap.size≤nb;have:=hnb.out;omega) _
   generalize hV:Z4c (2*z)=V at hst hdr hvl hAn
   rw [hnb.out] at hcur hzf hnl
   generalize ((ns.drop (j+1)).flatMap Z11++((Z11 e.data.size++e.data.data.toList)++rest))=R at hdr
   replace hblk:=hd_ hblk
   replace hbel:=hd_ hbel
   replace hblk2:=hd_ hblk2
   replace hB2:=hd_ hB2
   replace hV:=hd_ hV
   replace hst:=hd_ hst
   replace hdr:=hd_ hdr
   replace hrbk:=hd_ hrbk
   clear hset hA hcv
   go_wp2_with fail
   refine (Z96 _ (l.drop A) R z _ hdp.out (by rw [hV.out];exact hdr.out) (by omega)).mono ?_
   rintro r w5 ⟨rfl,rfl⟩
   rw [hV.out]
   go_wp2
   rw [← hnb.out]
   go_roundw
   case rel=>exact⟨j+1,A+V.length,by omega,by go_num,by go_num,hst.out.symm,hblk2.out,hrb2.out,hB2.out⟩
   case measure=>simp [intOf];omega
  ·obtain rfl:j=6:=by omega
   rw [List.take_of_length_le (by omega)] at hA
   have hblk2:=hfin.out _ hblk
   have hdr:l.drop A=Z4c (2*e.data.size)++(e.data.data.toList++rest):=by rw [hl2.out,hA,List.drop_left,Z3l];simp
   have hvl:=Z2e (2*e.data.size)
   have hAn:A+((Z4c (2*e.data.size)).length+e.data.size)≤n:=by
    have:=congrArg List.length hdr
    rw [List.length_drop,hn.out] at this
    simp only [List.length_append,Z17] at this
    have h2:=congrArg List.length hl2.out
    rw [hn.out,Z3l] at h2
    simp only [List.length_append,Z17] at h2
    omega
   have hAc:¬ (cap=A):=by omega
   have hdp:=hd_ ((Z6q h'.out A (by rw [hn.out];omega)).below hbel)
   have q0:=Z00 hblk2 0
   have q1:=Z00 hblk2 1
   have q2:=Z00 hblk2 2
   have q3:=Z00 hblk2 3
   have q4:=Z00 hblk2 4
   have q5:=Z00 hblk2 5
   simp only [List.getElem?_toArray,List.getElem?_cons_zero,List.getElem?_cons_succ] at q0 q1 q2 q3 q4 q5
   have hnl:=Z04 hblk2
   rw [hnb.out] at q0 q1 q2 q3 q4 q5 hnl
   have hE:=hdl.out
   rw [← hA] at hE
   generalize hV:Z4c (2*e.data.size)=V at hdr hvl hAn hE
   replace hV:=hd_ hV
   replace hdr:=hd_ hdr
   replace hblk:=hd_ hblk
   replace hblk2:=hd_ hblk2
   replace hbel:=hd_ hbel
   replace hE:=hd_ hE
   clear hA
   rw [hrb.out] at hrbk
   have g0:=Z00 hrbk 0
   have g1:=Z00 hrbk 1
   have g2:=Z00 hrbk 2
   have g3:=Z00 hrbk 3
   have g4:=Z00 hrbk 4
   have g5:=Z00 hrbk 5
   have g6:=Z00 hrbk 6
   simp only [List.getElem?_toArray,List.getElem?_cons_zero,List.getElem?_cons_succ] at g0 g1 g2 g3 g4 g5 g6
   have t0:=Z03 hrbk 0
   have t1:=Z03 hrbk 1
   have t2:=Z03 hrbk 2
   have t3:=Z03 hrbk 3
   have t4:=Z03 hrbk 4
   have t5:=Z03 hrbk 5
   have t6:=Z03 hrbk 6
   have hl2:=Z04 hrbk
   have hge:w.heap.size≤w.heap.size:=Nat.le_refl _
   have hfi:∀ a0 a1 a2 a3 a4 a5 a6,Below w.heap.size w (((((((wr.setCell ⟨w.heap.size,0,none⟩ a0).setCell ⟨w.heap.size,1,none⟩ a1).setCell ⟨w.heap.size,2,none⟩ a2).setCell ⟨w.heap.size,3,none⟩ a3).setCell ⟨w.heap.size,4,none⟩ a4).setCell ⟨w.heap.size,5,none⟩ a5).setCell ⟨w.heap.size,6,none⟩ a6):=by
    intro a0 a1 a2 a3 a4 a5 a6
    exact ((((((hbel.out.setCell hge a0).setCell hge a1).setCell hge a2).setCell hge a3).setCell hge a4).setCell hge a5).setCell hge a6
   replace hfi:=hd_ hfi
   clear hge hrbk
   go_wp2_with fail
   refine (Zab _ (l.drop A) rest e.data _ hdp.out (by rw [hV.out];exact hdr.out) (by omega)).mono ?_
   rintro r w5 ⟨rfl,rfl⟩
   rw [hV.out]
   go_wp2
   exact bodyPost_ret (v:=.tuple #[e.val, .int .i64 ((A:Int)+(V.length+e.data.size:Nat))]) (by simp [results,Tryz.results194,go_sem,g0,g1,g2,g3,g4,g5,g6]) rfl ⟨by rw [hE.out];rfl,hfi.out _ _ _ _ _ _ _⟩
end
section
open Go.RowKit
theorem Ziq (w:World) (A B:Obj):((w.alloc A).alloc B).heap[w.heap.size+1]?=some B:=by
 have:=Z0a (w.alloc A) B
 rw [World.size_alloc] at this
 exact this
theorem Zeb (e:Ent):1≤(Z9p e).length:=by
 unfold Z9p
 rw [Z3l]
 have:=(Z2e (2*e.data.size)).2
 simp only [List.length_append];omega
theorem Zap (l:List Ent) (k:Nat) (h:k<l.length):(Z1g l).drop (Z1g (l.take k)).length=Z9p l[k]++Z1g (l.drop (k+1)):=by
 have e:l.take k++(l[k] :: l.drop (k+1))=l:=by rw [← List.drop_eq_getElem_cons h,List.take_append_drop]
 have e2:Z1g (l.take k++(l[k] :: l.drop (k+1)))=Z1g (l.take k)++(Z9p l[k]++Z1g (l.drop (k+1))):=by
  unfold Z1g;rw [List.flatMap_append,List.flatMap_cons]
 rw [e] at e2
 rw [e2,List.drop_left]
theorem Zft (l:List Ent) (k:Nat) (h:k<l.length):(Z1g (l.take k)).length+(Z9p l[k]).length≤(Z1g l).length:=by
 have h1:=congrArg List.length (Zap l k h)
 rw [List.length_drop,List.length_append] at h1
 have:=Zeb l[k]
 omega
theorem Zck (v:Value) (es:List Ent) (w:World) (h:rdB w v (Z1g es)) (hme:∀ e ∈ es,Z2l e=true) (h60:es.length≤60) :
  Calls Tryz.prog 159 #[v] w fun r w'=>∃ v',r=.returned (.tuple #[v', .int .i64 0])∧ownE w' w.heap.size 134 v' es∧Below w.heap.size w w':=by
 obtain⟨i0,hi,hz0,hz1,hz2⟩:=info_parts Z8t
 replace hi:=hd_ hi
 have hel:=Z2v es fun e he=>Z1l (hme e he)
 have h':=hd_ h
 obtain⟨bs,hbs⟩:∃ bs,Z1g es=bs:=⟨_,rfl⟩
 rw [hbs] at h h' hel
 have hp:=h
 clear h
 obtain⟨a,cap,rfl,hm,hM,ha⟩:=hp
 unfold maxLen at hM
 obtain⟨n,hn⟩:∃ n,bs.length=n:=⟨_,rfl⟩
 rw [hn] at hm hel h' ⊢
 have hga:Hid (0<n→∃ g off,a=some ⟨g,off,none⟩∧g<w.heap.size):=hd_ fun h0=>by
  obtain⟨g,off,e,hc⟩:=ha (by omega)
  exact⟨g,off,e,Z0f (hc 0 (by omega))⟩
 clear ha
 replace hn:=hd_ hn
 replace hme:=hd_ hme
 replace hbs:=hd_ hbs
 have hEN:=hd_ (fun v1 w1 (hr:rdE w1 v1 es)=>Z7d v1 es w1 hr hme.out h60)
 go_enter Tryz.func159,Tryz.ntmps159
 go_wp2
 go_loopw [4,5] (fun s x wr=>∃ k A:Nat,k≤es.length∧x=.int .i64 A∧A=(Z1g (es.take k)).length∧ownE wr w.heap.size 134 s (es.take k)∧Below w.heap.size w wr) (fun _ x _=>n-(intOf x).toNat)
 case atStart=>exact⟨0,0,Nat.zero_le _,rfl,rfl,World.ownsRow_nil _ _ _ _,Below.refl _ _⟩
 case round=>
  obtain⟨k,A,hk,rfl,hA,hown,hbel⟩:=hrel
  have hsz:=hbel.size
  have hi':=hi.out
  by_cases hlt:k<es.length
  ·have hpos:=Zeb es[k]
   have hpart:=Zft es k hlt
   rw [hbs.out,hn.out,← hA] at hpart
   have hcut:=Zap es k hlt
   rw [hbs.out,← hA] at hcut
   have hA2:(Z1g (es.take (k+1))).length=A+(Z9p es[k]).length:=by rw [Z60 es k hlt,List.length_append,← hA]
   have htk:es.take (k+1)=es.take k++[es[k]]:=List.take_succ_eq_append_getElem hlt
   have hmx:=hd_ (hme.out _ (List.getElem_mem hlt))
   have hlk:(es.take k).length=k:=by rw [List.length_take];omega
   obtain⟨g,off,rfl,hg⟩:=hga.out (by omega)
   have hdp:=hd_ ((Z6q h'.out A (by rw [hn.out];omega)).below hbel)
   have hAc:¬ (cap=A):=by omega
   have hAn:A<n:=by omega
   have hdl:(bs.drop A).length≤100000:=by rw [List.length_drop,hn.out];omega
   generalize es[k]=x at hpos hpart hcut hA2 htk hmx
   unfold ownE at hown
   rw [hlk] at hown
   generalize hE:(Z9p x).length=E at hpos hpart hA2
   replace hE:=hd_ hE
   replace hA2:=hd_ hA2
   replace htk:=hd_ htk
   replace hcut:=hd_ hcut
   replace hown:=hd_ hown
   replace hbel:=hd_ hbel
   replace hlk:=hd_ hlk
   clear hA
   go_wp2_with fail
   refine (eOne_any x _ (bs.drop A) (Z1g (es.drop (k+1))) _ hdp.out hcut.out hmx.out hdl).mono ?_
   rintro r w2 ⟨rfl,hb2⟩
   rw [hE.out]
   have hown2:=hd_ (World.ownsRow.kept (row:=none) hown.out ⟨hb2.os,hb2.tape,hb2.output,hb2.size,fun k hk _=>hb2.block k hk⟩ (by cases u4.ownBlock with | none=>exact .inl rfl | some k=>exact .inr (by simp)))
   have hB2:=hd_ (hbel.out.trans (hb2.mono hsz))
   have hs2:=hB2.out.size
   clear hb2 hown hbel
   have hE0:((E:Int)==0)=false:=by simp;omega
   go_wp2_with (first
    | (at_builtin;refine Z15 rfl _ _ 35 rfl w.heap.size 134 i0 (Ent.val ⟨0,0,0,0,0,0,ByteArray.empty⟩) 7 64 Tryz.underlying35 hi' hz0 hz1 hz2 rfl (by decide) _ k (Z3i (es.take k)) rfl (World.ownsRow.alloc (World.ownsRow.alloc hown2.out _) _) (.slice (some ⟨w2.heap.size+1,0,none⟩) 1 1) 1 x.cells rfl ?c1 ?c2 ?c3 ?c4 ?c5 ?_))
   case c1=>exact Z9b (Ziq w2 _ _) rfl
   case c2=>
    intro u hu
    simp only [Ent.cells,List.mem_cons,List.not_mem_nil,or_false] at hu
    rcases hu with rfl | rfl | rfl | rfl | rfl | rfl | rfl<;>rfl
   case c3=>unfold maxLen;omega
   case c4=>omega
   case c5=>simp;omega
   intro v7 w7 hown7 hg7 _
   have ho7:ownE w7 w.heap.size 134 v7 (es.take (k+1)):=by
    unfold ownE
    rw [htk.out,List.length_append,hlk.out,Z39];exact hown7
   have hB7:Below w.heap.size w w7:=((hB2.out.alloc hs2 _).alloc (by simp;omega) _).grown hg7 (by simp;omega) (fun k hk=>(hown2.out.lt k hk).1)
   clear hg7 hown7
   replace ho7:=hd_ ho7
   replace hB7:=hd_ hB7
   go_wp2
   go_roundw
   case rel=>exact⟨k+1,A+E,by omega,by go_num,hA2.out.symm,ho7.out,hB7.out⟩
   case measure=>simp [intOf];omega
  ·obtain rfl:k=es.length:=by omega
   rw [List.take_length] at hA hown
   rw [hbs.out,hn.out] at hA
   subst hA
   have hrd:=hd_ hown.rd
   replace hown:=hd_ hown
   replace hbel:=hd_ hbel
   go_wp2_with fail
   refine (hEN.out _ _ hrd.out).mono ?_
   rintro r w2 ⟨v2,rfl,ho2,hb2⟩
   have hown2:=hd_ (Z0z hown.out hb2)
   have hB2:=hd_ (hbel.out.trans (hb2.mono hsz))
   rw [hbs.out] at ho2
   have hr2:=hd_ ho2.rd
   have hr1:=hd_ (h'.out.below hB2.out)
   clear ho2 hb2 hown hbel
   go_wp2_with fail
   refine (Z4q _ _ bs _ hr2.out hr1.out).mono ?_
   rintro r w3 ⟨rfl,rfl⟩
   go_wp2
   go_ret2
   exact⟨_,rfl,hown2.out,hB2.out⟩
end
section
open Go.RowKit
abbrev Zcl:Obj:=.cells #[.int .i64 0, .int .i64 0, .int .i64 0, .int .i64 0, .int .i64 0, .int .i64 0, .int .i64 0, .int .i64 0, .slice none 0 0, .int .i64 0, .int .i64 0, .int .i64 0, .bool false] 37
theorem eq_nilB (ad:Addr) (n c:Nat) (w:World):(Go.binOp .eql 103 (.slice (some ad) n c) (.slice none 0 0)).run Tryz.prog w=.ok (.bool false) w:=by
 obtain⟨d,hd⟩:∃ d,Op.maxDepth=d+1:=⟨Op.maxDepth-1,by decide⟩
 simp [Go.binOp,Op.equal,hd,Op.equalIn,run_underlying Tryz.underlying103]
theorem rdB_nil (w:World) (a:Option Addr) (c:Nat) (hc:c≤maxLen):rdB w (.slice a 0 c) []:=⟨a,c,rfl,Nat.zero_le _,hc,fun h=>by simp at h⟩
theorem rdB.isS {w:World} {v:Value} {l:List UInt8} (h:rdB w v l) (hl:0<l.length):∃ g off cap,v=.slice (some ⟨g,off,none⟩) l.length cap∧l.length≤cap∧cap≤maxLen∧g<w.heap.size:=by
 obtain⟨a,cap,rfl,hm,hM,ha⟩:=h
 obtain⟨g,off,rfl,hc⟩:=ha hl
 exact⟨g,off,cap,rfl,hm,hM,Z0f (hc 0 hl)⟩
theorem rdB.belowB {w w':World} {B:Nat} {v:Value} {l:List UInt8} (h:rdB w v l) (hb:Below B w w') (hB:∀ a,v.ownBlock=some a→a<B):rdB w' v l:=by
 obtain⟨a,cap,rfl,hm,hM,ha⟩:=h
 refine⟨a,cap,rfl,hm,hM,fun h0=>?_⟩
 obtain⟨b,off,rfl,hc⟩:=ha h0
 refine⟨b,off,rfl,fun j hj=>?_⟩
 rw [← hc j hj]
 exact hb.cell (hB b rfl)
theorem Zfu {w:World} {B B':Nat} {E:TypeId} {v:Value} {l:List Ent} (h:ownE w B E v l) (hB:B'≤B):ownE w B' E v l:=by
 obtain⟨h1,h2⟩:=h
 refine⟨h1,h2.imp id ?_⟩
 rintro⟨g,cap,cur,e1,e2,e3⟩
 exact⟨g,cap,cur,e1,Nat.le_trans hB e2,e3⟩
theorem Zfv (v:Value) (m:Ms) (w:World) (h:rdB w v (Z4w m)) (hm:MayM m) :
  Calls Tryz.prog 114 #[v] w fun r w'=>∃ sa sc,r=.returned (.tuple #[Z0w m (.slice sa m.ents.length sc), .int .i64 0])∧ownE w' w.heap.size 134 (.slice sa m.ents.length sc) m.ents∧Below w.heap.size w w':=by
 have hel:=Z2v m.ents (Z59 hm)
 have hel2:=hm.e1
 have hnin:=hd_ (Z9a hm)
 obtain⟨ns,hns⟩:∃ ns,Z95 m=ns:=⟨_,rfl⟩
 have hnl:ns.length=13:=by rw [← hns];rfl
 rw [hns] at hnin
 obtain⟨eb,heb⟩:∃ eb,Z1g m.ents=eb:=⟨_,rfl⟩
 have hT:Hid (Z4w m=Z3t (ns.flatMap Z11++eb)):=hd_ (by unfold Z4w;rw [hns,heb])
 have hr:=h
 rw [hT.out] at hr
 have hbl:(ns.flatMap Z11++eb).length≤90000:=by
  have:=Z14 ns
  rw [heb] at hel
  rw [List.length_append];omega
 have HO:=hd_ (fun w1 (hb:Below w.heap.size w w1)=>cOpen_ok v (ns.flatMap Z11++eb) w1 (hr.below hb) hbl)
 have h':=hd_ h
 have HD:=hd_ (fun v1 w1 (hr:rdB w1 v1 eb)=>Zck v1 m.ents w1 (heb ▸ hr) hm.e2 hm.e1)
 have HE:=hd_ (fun s w1 (hr:rdE w1 s m.ents)=>Z7e m s w1 hm hr)
 have hbv:=h.isS (by rw [hT.out,Z2r];omega)
 obtain⟨encL,hencL⟩:∃ L,Z4w m=L:=⟨_,rfl⟩
 rw [hencL] at h' HE hbv
 have hencN:0<encL.length:=by rw [← hencL,hT.out,Z2r];omega
 obtain⟨k,f,t,b,vi,l,me,po,es,co,nu,cl,y⟩:=m
 clear h hr hm hT heb hencL
 dsimp only at *
 obtain⟨bg,boff,bcap,rfl,hbm,hbM,hbg⟩:=hbv
 unfold maxLen at hbM
 obtain⟨yi,hyi⟩:∃ yi:Int,(if y=true then (1:Int) else 0)=yi:=⟨_,rfl⟩
 have hyb:(yi==1)=y:=by rw [← hyi];cases y<;>rfl
 have hns2:(ns.map (Value.int .i64)).toArray=#[Value.int .i64 k, .int .i64 f, .int .i64 t, .int .i64 b, .int .i64 vi, .int .i64 l, .int .i64 me, .int .i64 po, .int .i64 co, .int .i64 nu, .int .i64 cl, .int .i64 yi, .int .i64 es.length]:=by rw [← hyi,← hns];rfl
 clear hns hyi
 replace hns2:=hd_ hns2
 have HB:=hd_ ((Below.refl w.heap.size w).alloc (Nat.le_refl _) Zcl)
 have hrb0:=hd_ (Z0a w Zcl)
 go_enter Tryz.func114,Tryz.ntmps114
 go_wp2_with fail
 refine (HO.out _ HB.out).mono ?_
 rintro r w1 ⟨v1,rfl,ho1,hb1⟩
 have hrb1:=hd_ (Z02 hrb0.out hb1)
 have hB1:=hd_ (HB.out.trans (hb1.mono HB.out.size))
 have hs1:=hB1.out.size
 have hrd1:=hd_ ho1.rd
 have hrl1:=Z04 hrb1.out
 obtain⟨nb,hnb⟩:∃ nb,nb=w1.heap.size:=⟨_,rfl⟩
 have hat1:Hid (∀ k,v1.ownBlock=some k→k<nb):=hd_ fun k hk=>hnb ▸ (ho1.lt k hk).2
 clear ho1 hb1 HB hrb0
 replace hnb:=hd_ hnb
 obtain⟨rb,hrb⟩:∃ rb,rb=w.heap.size:=⟨_,rfl⟩
 have hrn:rb≠nb:=by have:=hnb.out;omega
 rw [← hrb] at hrb1
 replace hrb:=hd_ hrb
 go_wp2
 go_loopw [23,4] (fun i x wr=>∃ j:Nat,j≤13∧i=.int .i64 j∧rdB wr x ((ns.drop j).flatMap Z11++eb)∧(∀ k,x.ownBlock=some k→k<nb)∧wr.heap[nb]?=some (.cells (Zby 13 ns j) 213 (0,0))∧wr.heap[rb]?=some Zcl∧Below w.heap.size w wr) (fun i _ _=>13-(intOf i).toNat)
 case atStart=>
  refine⟨0,Nat.zero_le _,rfl,(hrd1.out.below ((Below.refl _ _).alloc (Nat.le_refl _) _)),hat1.out,?_,Z4l _ hrb1.out,hB1.out.alloc hs1 _⟩
  rw [hnb.out]
  exact Z0a w1 (.cells (Zby 13 ns 0) 213)
 case round=>
  obtain⟨j,hj,rfl,hrd,hat,hblk,hrbk,hbel⟩:=hrel
  have hsz:=hbel.size
  by_cases hlt:j<13
  ·have hx13:j<ns.length:=by omega
   have hin:=hnin.out _ (List.getElem_mem hx13)
   have hdr:(ns.drop j).flatMap Z11++eb=Z11 ns[j]++((ns.drop (j+1)).flatMap Z11++eb):=by
    rw [List.drop_eq_getElem_cons hx13,List.flatMap_cons,List.append_assoc]
   have hset:=Zea hnl hlt
   have hcur:=Z00 hblk j
   have hcv:(Zby 13 ns j)[j]?=some (Value.int .i64 0):=by
    simp only [Zby,List.getElem?_toArray]
    rw [List.getElem?_append_right (by rw [List.length_map,List.length_take];omega),List.length_map,List.length_take,List.getElem?_replicate,if_pos (by omega)]
   rw [hcv] at hcur
   have hzf:=Z03 hblk j
   have hnl1:=Z04 hblk
   generalize ns[j]=x at hin hdr hset
   obtain⟨z,rfl⟩:=Int.eq_ofNat_of_zero_le hin.1
   have hz:=hin.2
   rw [Z3l] at hdr
   have hvl:=Z2e (2*z)
   rw [hdr] at hrd
   obtain⟨R,hR⟩:∃ R,(ns.drop (j+1)).flatMap Z11++eb=R:=⟨_,rfl⟩
   rw [hR] at hrd
   replace hR:=hd_ hR
   have hrd0:=hrd
   obtain⟨g,off,cap,rfl,hm1,hM1,hg1⟩:=hrd.isS (by rw [List.length_append];omega)
   unfold maxLen at hM1
   have hdp:=Z6q hrd0 (Z4c (2*z)).length (by rw [List.length_append];omega)
   rw [List.drop_left] at hdp
   have hblk2:(wr.setCell ⟨nb,j,none⟩ (.int .i64 (z:Int))).heap[nb]?=some (.cells (Zby 13 ns (j+1)) 213 (0,0)):=by rw [Z0d hblk,hset]
   have hrb2:=hd_ (Z0u (o:=j) (u:=.int .i64 (z:Int)) hrbk hrn)
   have hB2:Below w.heap.size w (wr.setCell ⟨nb,j,none⟩ (.int .i64 (z:Int))):=hbel.setCell (by show w.heap.size≤nb;have:=hnb.out;omega) _
   have hgn:g<nb:=hat g rfl
   have hdp2:=hd_ (hdp.belowB ((Below.refl nb wr).setCell (p:=⟨nb,j,none⟩) (Nat.le_refl _) (.int .i64 (z:Int))) (fun a ha=>by have e:some g=some a:=ha;injection e with e;omega))
   clear hat
   rw [List.length_append] at *
   generalize hV:Z4c (2*z)=V at *
   rw [hnb.out] at hcur hzf hnl1
   replace hV:=hd_ hV
   replace hrd:=hd_ hrd
   replace hrd0:=hd_ hrd0
   replace hdp:=hd_ hdp
   replace hblk:=hd_ hblk
   replace hrbk:=hd_ hrbk
   replace hbel:=hd_ hbel
   replace hblk2:=hd_ hblk2
   replace hB2:=hd_ hB2
   clear hset hcv hdr
   go_wp2_with fail
   refine (Z96 _ (V++R) R z _ hrd0.out (by rw [hV.out]) (by omega)).mono ?_
   rintro r w5 ⟨rfl,rfl⟩
   rw [hV.out]
   by_cases hcV:cap=V.length
   ·have hR0:R=[]:=List.length_eq_zero_iff.1 (by omega)
    subst hR0
    go_wp2
    rw [← hnb.out]
    go_roundw
    case rel=>exact⟨j+1,by omega,by go_num,by rw [hR.out];exact rdB_nil _ _ _ (Nat.zero_le _),fun k hk=>(by have e:some g=some k:=hk;injection e with e;omega),hblk2.out,hrb2.out,hB2.out⟩
    case measure=>simp [intOf];omega
   ·go_wp2
    rw [← hnb.out]
    go_roundw
    case rel=>
     refine⟨j+1,by omega,by go_num,?_,fun k hk=>(by have e:some g=some k:=hk;injection e with e;omega),hblk2.out,hrb2.out,hB2.out⟩
     rw [hR.out]
     have:=hdp2.out
     rw [Nat.add_sub_cancel_left] at this
     exact this
    case measure=>simp [intOf];omega
  ·obtain rfl:j=13:=by omega
   rw [List.drop_eq_nil_of_le (by omega)] at hrd
   have hrd2:=hd_ (show rdB wr u4 eb from hrd)
   rw [Zao hnl,hns2.out] at hblk
   replace hblk:=hd_ hblk
   replace hrbk:=hd_ hrbk
   replace hbel:=hd_ hbel
   clear hat hrd
   go_wp2_with fail
   refine (HD.out _ _ hrd2.out).mono ?_
   rintro r w5 ⟨v5,rfl,ho5,hb5⟩
   have hrb5:=Z02 hrbk.out hb5
   have hbk5:=Z02 hblk.out hb5
   have hB5:=hd_ (hbel.out.trans (hb5.mono hsz))
   have hs5:=hB5.out.size
   have ho5':=Zfu ho5 hsz
   have hre5:=ho5'.rd
   obtain⟨sa,sc,rfl⟩:=hre5.len
   have hgr:Hid (∀ k,(Value.slice sa es.length sc).ownBlock=some k→w.heap.size<k):=hd_ fun k hk=>by
    have:=(ho5.lt k hk).1
    have:=Z04 hrbk.out
    have:=hrb.out
    omega
   have hre5:=hd_ hre5
   replace ho5':=hd_ ho5'
   rw [hrb.out] at hrb5
   rw [hnb.out] at hbk5
   have q0:=Z00 hbk5 0
   have q1:=Z00 hbk5 1
   have q2:=Z00 hbk5 2
   have q3:=Z00 hbk5 3
   have q4:=Z00 hbk5 4
   have q5:=Z00 hbk5 5
   have q6:=Z00 hbk5 6
   have q7:=Z00 hbk5 7
   have q8:=Z00 hbk5 8
   have q9:=Z00 hbk5 9
   have q10:=Z00 hbk5 10
   have q11:=Z00 hbk5 11
   have q12:=Z00 hbk5 12
   simp only [List.getElem?_toArray,List.getElem?_cons_zero,List.getElem?_cons_succ] at q0 q1 q2 q3 q4 q5 q6 q7 q8 q9 q10 q11 q12
   have g0:=Z00 hrb5 0
   have g1:=Z00 hrb5 1
   have g2:=Z00 hrb5 2
   have g3:=Z00 hrb5 3
   have g4:=Z00 hrb5 4
   have g5:=Z00 hrb5 5
   have g6:=Z00 hrb5 6
   have g7:=Z00 hrb5 7
   have g8:=Z00 hrb5 8
   have g9:=Z00 hrb5 9
   have g10:=Z00 hrb5 10
   have g11:=Z00 hrb5 11
   have g12:=Z00 hrb5 12
   simp only [List.getElem?_toArray,List.getElem?_cons_zero,List.getElem?_cons_succ] at g0 g1 g2 g3 g4 g5 g6 g7 g8 g9 g10 g11 g12
   have t0:=Z03 hrb5 0
   have t1:=Z03 hrb5 1
   have t2:=Z03 hrb5 2
   have t3:=Z03 hrb5 3
   have t4:=Z03 hrb5 4
   have t5:=Z03 hrb5 5
   have t6:=Z03 hrb5 6
   have t7:=Z03 hrb5 7
   have t8:=Z03 hrb5 8
   have t9:=Z03 hrb5 9
   have t10:=Z03 hrb5 10
   have t11:=Z03 hrb5 11
   have t12:=Z03 hrb5 12
   have hl5:=Z04 hbk5
   clear ho5 hb5 hblk hrbk hbel hrd2
   replace hrb5:=hd_ hrb5
   replace hbk5:=hd_ hbk5
   have hx5:=hd_ (Z0a w5 (.cells #[.int .i64 k, .int .i64 f, .int .i64 t, .int .i64 b, .int .i64 vi, .int .i64 l, .int .i64 me, .int .i64 po, .slice sa es.length sc, .int .i64 co, .int .i64 nu, .int .i64 cl, .bool y] 37))
   go_wp2_with fail
   refine (HE.out _ _ (hre5.out.grow ((Below.refl _ _).alloc (Nat.le_refl _) _))).mono ?_
   rintro r w7 ⟨v7,rfl,ho7,hb7⟩
   have hB57:Below w5.heap.size w5 w7:=(((Below.refl _ _).alloc (Nat.le_refl _) _).trans (hb7.mono (by simp)))
   have hrb7:=Z02 hrb5.out hB57
   have hx7:=Z02 hx5.out hb7
   have hB7:=hd_ (hB5.out.trans (hB57.mono hs5))
   have ho57:=hd_ (Z0z ho5'.out hB57)
   have hr7:=hd_ ho7.rd
   have hr17:=hd_ (h'.out.below hB7.out)
   obtain⟨bb7,off7,cap7,rfl,_,_,_⟩:=ho7.rd.isS hencN
   have p0:=Z00 hx7 0
   have p1:=Z00 hx7 1
   have p2:=Z00 hx7 2
   have p3:=Z00 hx7 3
   have p4:=Z00 hx7 4
   have p5:=Z00 hx7 5
   have p6:=Z00 hx7 6
   have p7:=Z00 hx7 7
   have p8:=Z00 hx7 8
   have p9:=Z00 hx7 9
   have p10:=Z00 hx7 10
   have p11:=Z00 hx7 11
   have p12:=Z00 hx7 12
   simp only [List.getElem?_toArray,List.getElem?_cons_zero,List.getElem?_cons_succ] at p0 p1 p2 p3 p4 p5 p6 p7 p8 p9 p10 p11 p12
   have g0:=Z00 hrb7 0
   have g1:=Z00 hrb7 1
   have g2:=Z00 hrb7 2
   have g3:=Z00 hrb7 3
   have g4:=Z00 hrb7 4
   have g5:=Z00 hrb7 5
   have g6:=Z00 hrb7 6
   have g7:=Z00 hrb7 7
   have g8:=Z00 hrb7 8
   have g9:=Z00 hrb7 9
   have g10:=Z00 hrb7 10
   have g11:=Z00 hrb7 11
   have g12:=Z00 hrb7 12
   simp only [List.getElem?_toArray,List.getElem?_cons_zero,List.getElem?_cons_succ] at g0 g1 g2 g3 g4 g5 g6 g7 g8 g9 g10 g11 g12
   have t0:=Z03 hrb7 0
   have t1:=Z03 hrb7 1
   have t2:=Z03 hrb7 2
   have t3:=Z03 hrb7 3
   have t4:=Z03 hrb7 4
   have t5:=Z03 hrb7 5
   have t6:=Z03 hrb7 6
   have t7:=Z03 hrb7 7
   have t8:=Z03 hrb7 8
   have t9:=Z03 hrb7 9
   have t10:=Z03 hrb7 10
   have t11:=Z03 hrb7 11
   have t12:=Z03 hrb7 12
   have hl2:=Z04 hrb7
   have hl7:=Z04 hx7
   have hge:w.heap.size≤w.heap.size:=Nat.le_refl _
   have hfi:∀ a0 a1 a2 a3 a4 a5 a6 a7 a8 a9 a10 a11 a12,Below w.heap.size w (((((((((((((w7.setCell ⟨w.heap.size,0,none⟩ a0).setCell ⟨w.heap.size,1,none⟩ a1).setCell ⟨w.heap.size,2,none⟩ a2).setCell ⟨w.heap.size,3,none⟩ a3).setCell ⟨w.heap.size,4,none⟩ a4).setCell ⟨w.heap.size,5,none⟩ a5).setCell ⟨w.heap.size,6,none⟩ a6).setCell ⟨w.heap.size,7,none⟩ a7).setCell ⟨w.heap.size,8,none⟩ a8).setCell ⟨w.heap.size,9,none⟩ a9).setCell ⟨w.heap.size,10,none⟩ a10).setCell ⟨w.heap.size,11,none⟩ a11).setCell ⟨w.heap.size,12,none⟩ a12):=by
    intro a0 a1 a2 a3 a4 a5 a6 a7 a8 a9 a10 a11 a12
    exact (((((((((((((hB7.out.setCell hge a0).setCell hge a1).setCell hge a2).setCell hge a3).setCell hge a4).setCell hge a5).setCell hge a6).setCell hge a7).setCell hge a8).setCell hge a9).setCell hge a10).setCell hge a11).setCell hge a12)
   have hfo:∀ a0 a1 a2 a3 a4 a5 a6 a7 a8 a9 a10 a11 a12,ownE (((((((((((((w7.setCell ⟨w.heap.size,0,none⟩ a0).setCell ⟨w.heap.size,1,none⟩ a1).setCell ⟨w.heap.size,2,none⟩ a2).setCell ⟨w.heap.size,3,none⟩ a3).setCell ⟨w.heap.size,4,none⟩ a4).setCell ⟨w.heap.size,5,none⟩ a5).setCell ⟨w.heap.size,6,none⟩ a6).setCell ⟨w.heap.size,7,none⟩ a7).setCell ⟨w.heap.size,8,none⟩ a8).setCell ⟨w.heap.size,9,none⟩ a9).setCell ⟨w.heap.size,10,none⟩ a10).setCell ⟨w.heap.size,11,none⟩ a11).setCell ⟨w.heap.size,12,none⟩ a12) w.heap.size 134 (.slice sa es.length sc) es:=by
    intro a0 a1 a2 a3 a4 a5 a6 a7 a8 a9 a10 a11 a12
    have hc:Chg (fun k=>k=w.heap.size) w7 (((((((((((((w7.setCell ⟨w.heap.size,0,none⟩ a0).setCell ⟨w.heap.size,1,none⟩ a1).setCell ⟨w.heap.size,2,none⟩ a2).setCell ⟨w.heap.size,3,none⟩ a3).setCell ⟨w.heap.size,4,none⟩ a4).setCell ⟨w.heap.size,5,none⟩ a5).setCell ⟨w.heap.size,6,none⟩ a6).setCell ⟨w.heap.size,7,none⟩ a7).setCell ⟨w.heap.size,8,none⟩ a8).setCell ⟨w.heap.size,9,none⟩ a9).setCell ⟨w.heap.size,10,none⟩ a10).setCell ⟨w.heap.size,11,none⟩ a11).setCell ⟨w.heap.size,12,none⟩ a12):=(Z06 (Z06 (Z06 (Z06 (Z06 (Z06 (Z06 (Z06 (Z06 (Z06 (Z06 (Z06 (Z06 (Chg.refl _ _) rfl) rfl) rfl) rfl) rfl) rfl) rfl) rfl) rfl) rfl) rfl) rfl) rfl)
    refine ho57.out.chg hc fun k hk e=>?_
    have:=hgr.out k hk
    omega
   have hnil:=eq_nilB ⟨bb7,off7,none⟩ encL.length cap7
   replace hfo:=hd_ hfo
   clear hge hrb7 hx7 hb7 ho7 hB57 hrb5 hbk5 hx5
   go_wp2_with fail
   refine (Z4q _ _ encL _ hr7.out hr17.out).mono ?_
   rintro r w8 ⟨rfl,rfl⟩
   go_wp2
   exact bodyPost_ret (v:=.tuple #[Z0w ⟨k,f,t,b,vi,l,me,po,es,co,nu,cl,y⟩ (.slice sa es.length sc), .int .i64 0]) (by simp [results,Tryz.results114,go_sem,g0,g1,g2,g3,g4,g5,g6,g7,g8,g9,g10,g11,g12]) rfl ⟨sa,sc,rfl,hfo.out _ _ _ _ _ _ _ _ _ _ _ _ _ ,hfi _ _ _ _ _ _ _ _ _ _ _ _ _ ⟩
end
end Go.Proofs.YtbonjbokofkafaaGreat
