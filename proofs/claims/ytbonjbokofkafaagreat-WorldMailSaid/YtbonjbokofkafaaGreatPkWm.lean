/- Lemmas of the proof: PkWm. -/
import Derived.Test.YtbonjbokofkafaaGreatPkLw
import Derived.Test.YtbonjbokofkafaaGreatPkA
namespace Go.Proofs.YtbonjbokofkafaaGreat
set_option linter.unusedVariables false
set_option maxRecDepth 100000
set_option maxHeartbeats 64000000
section
open Go.RowKit
def Lw.lostOk (L:Lw) (id:Int):Bool:=match L.W.net with
 | []=>true
 | m :: _=>L.calm1 3 0&&(decide ((L.step 3 0 0 0 0 eB).2=0)&&(decide (m.too≠id)||decide ((L.step 3 0 0 0 0 eB).1.W.net.length+1=L.W.net.length)))
def Lw.okMail (L:Lw) (id:Int):Nat→Bool
 | 0=>true
 | k+1=>match L.W.net with
   | []=>true
   | _ :: _=>L.lostOk id&&(L.step 3 0 0 0 0 eB).1.okMail id k
def Lw.mailR (L:Lw):Lw:=(L.ticks 3 1).sends 100
def Lw.mailK (L:Lw):Nat:=3+(L.ticks 3 1).nsend 100
def Lw.mailOk (L:Lw) (id:Int):Bool:=L.okTicks 3 1&&(L.ticks 3 1).okMail id 100
def Lw.mailsR (L:Lw):Nat→Lw
 | 0=>L
 | k+1=>L.mailR.mailsR k
def Lw.mailsK (L:Lw):Nat→Nat
 | 0=>0
 | k+1=>L.mailK+L.mailR.mailsK k
def Lw.mailEnd (L:Lw) (id:Nat):Bool:=(Z0i L.W id).s.isNone&&(L.fineOne&&(L.fineOnce 3 1&&L.W.calm))
def Lw.mailsOk (L:Lw) (id:Nat):Nat→Bool
 | 0=>L.mailEnd id
 | k+1=>L.mailEnd id&&(L.mailOk id&&L.mailR.mailsOk id k)
def Zlz (id:Nat):Lw:=(((Lw.make 3).rounds 9).step 6 id 0 0 0 eB).1
def chkM (id:Nat):Bool:=(Lw.make 3).okRounds 9&&(decide ((Lw.make 3).roundsK 9≤1000)&&(((Lw.make 3).rounds 9).calm1 6 id&&(decide ((((Lw.make 3).rounds 9).step 6 id 0 0 0 eB).2=0)&&((Z0i ((Lw.make 3).rounds 9).W id).s.isSome&&((Zlz id).mailsOk id 12&&decide ((Zlz id).mailsK 12≤3000))))))
theorem chkM1:chkM 1=true:=by decide +kernel
theorem chkM2:chkM 2=true:=by decide +kernel
theorem chkM3:chkM 3=true:=by decide +kernel
theorem Zlw:∀ (j:Nat) {L:Lw} {id:Int} {m:Ms} {l:List Ms} (k:Nat),(L.sends j).W.net=m :: l→j<k→L.okMail id k=true→(L.sends j).lostOk id=true
 | 0,L,id,m,l,k,h,hk,hok=>by
   have h:L.W.net=m :: l:=h
   obtain⟨k,rfl⟩:∃ i,k=i+1:=⟨k-1,by omega⟩
   unfold Lw.okMail at hok
   rw [h] at hok
   exact (Bool.and_eq_true _ _ ▸ hok).1
 | j+1,L,id,m,l,k,h,hk,hok=>by
   obtain⟨k,rfl⟩:∃ i,k=i+1:=⟨k-1,by omega⟩
   cases hn:L.W.net with
   | nil=>rw [Zkc hn] at h;rw [hn] at h;cases h
   | cons m2 l2=>
     rw [Zk7 hn] at h ⊢
     unfold Lw.okMail at hok
     rw [hn] at hok
     exact Zlw j k h (by omega) (Bool.and_eq_true _ _ ▸ hok).2
theorem Zly:∀ (i n id:Nat) (L:Lw),L.mailsOk id n=true→i<n→(L.mailsR i).mailOk id=true
 | _,0,_,_,_,h=>by omega
 | 0,n+1,id,L,h,_=>by
   unfold Lw.mailsOk at h
   rw [Bool.and_eq_true,Bool.and_eq_true] at h
   exact h.2.1
 | i+1,n+1,id,L,h,hi=>by
   unfold Lw.mailsOk at h
   rw [Bool.and_eq_true,Bool.and_eq_true] at h
   exact Zly i n id L.mailR h.2.2 (by omega)
theorem Zlx:∀ (i n id:Nat) (L:Lw),L.mailsOk id n=true→i≤n→(L.mailsR i).mailEnd id=true
 | 0,0,_,_,h,_=>h
 | 0,n+1,id,L,h,_=>by
   unfold Lw.mailsOk at h
   exact (Bool.and_eq_true _ _ ▸ h).1
 | i+1,0,_,_,_,h=>by omega
 | i+1,n+1,id,L,h,hi=>by
   unfold Lw.mailsOk at h
   rw [Bool.and_eq_true,Bool.and_eq_true] at h
   exact Zlx i n id L.mailR h.2.2 (by omega)
theorem Zlv:∀ (k:Nat) (L:Lw),L.mailsR (k+1)=(L.mailsR k).mailR
 | 0,_=>rfl
 | k+1,L=>Zlv k L.mailR
theorem Zlu:∀ (k:Nat) (L:Lw),L.mailsK (k+1)=L.mailsK k+(L.mailsR k).mailK
 | 0,L=>by show L.mailK+0=0+L.mailK;omega
 | k+1,L=>by
   show L.mailK+L.mailR.mailsK (k+1)=L.mailK+L.mailR.mailsK k+(L.mailR.mailsR k).mailK
   rw [Zlu k L.mailR];omega
theorem Zm1 (L:Lw) (i n:Nat) (h:i≤n):L.mailsK i≤L.mailsK n:=by
 induction n with
 | zero=>rw [show i=0 by omega];exact Nat.le_refl _
 | succ n ih=>
   by_cases e:i=n+1
   ·rw [e];exact Nat.le_refl _
   ·rw [Zlu];exact Nat.le_trans (ih (by omega)) (Nat.le_add_right _ _)
end
section
namespace lawWorldMail
open Go.ChangeShapes Go.WideShapes Go.ChangeAt Go.RowKit
theorem chk_at (i:Nat) (h1:1≤i) (h3:i≤3):chkM i=true:=by
 have:i=1∨i=2∨i=3:=by omega
 rcases this with e | e | e
 ·rw [e];exact chkM1
 ·rw [e];exact chkM2
 ·rw [e];exact chkM3
theorem walk (mm id r:Int) (w:World) (hmm:w.cell? ⟨0,0,none⟩=some (.int .i64 mm)) (hid:I64 id) (hr:I64 r):Calls Tryz.prog 11 #[.int .i64 id, .int .i64 r] w fun r w'=>r=.returned (.bool true)∧Below w.heap.size w w':=by
 have y0:=hd_ (Zm4 w ⟨mm,hmm⟩)
 replace hmm:=hd_ hmm;clear hid hr
 go_enter Tryz.func11,Tryz.ntmps11
 go_wp2_with fail
 refine y0.out.mono ?_
 rintro r' w1 ⟨rfl,k0⟩
 have v0:=hd_ (Zf2 w1 ⟨mm,by rw [k0.cell (Z0f hmm.out)];exact hmm.out⟩ 3 (by omega) (by omega))
 replace k0:=hd_ k0;clear y0
 by_cases c1:id<1
 ·have e1:decide (id<1)=true:=decide_eq_true c1
  go_wp2
  go_ret
  exact⟨rfl,k0.out⟩
 have e1:decide (id<1)=false:=decide_eq_false c1
 by_cases c2:3<id
 ·have e2:decide (3<id)=true:=decide_eq_true c2
  go_wp2
  go_ret
  exact⟨rfl,k0.out⟩
 have e2:decide (3<id)=false:=decide_eq_false c2
 by_cases c3:r<0
 ·have e3:decide (r<0)=true:=decide_eq_true c3
  go_wp2
  go_ret
  exact⟨rfl,k0.out⟩
 have e3:decide (r<0)=false:=decide_eq_false c3
 by_cases c4:12<r
 ·have e4:decide (12<r)=true:=decide_eq_true c4
  go_wp2
  go_ret
  exact⟨rfl,k0.out⟩
 have e4:decide (12<r)=false:=decide_eq_false c4
 obtain⟨i,rfl⟩:∃ i:Nat,id=i:=⟨id.toNat,by omega⟩
 obtain⟨R,rfl⟩:∃ R:Nat,r=R:=⟨r.toNat,by omega⟩
 have b2:1≤i:=by omega
 have i3:i≤3:=by omega
 have g3:R≤12:=by omega
 have z1:=chk_at i b2 i3
 unfold chkM at z1
 simp only [Bool.and_eq_true,decide_eq_true_eq] at z1
 obtain⟨a1,a2,a3,a4,a5,a6,a7⟩:=z1
 go_wp2_with fail
 refine v0.out.mono ?_
 rintro r' w2 ⟨own2,B2,rfl,h2⟩
 have h2:=LwT.make (by omega) (by omega) h2
 have t2:=hd_ (Zkw h2 9 (by omega) a1 (by omega))
 replace h2:=hd_ h2;clear v0 e1 e2 e3 e4 c1 c2 c3 c4;go_wp2_with fail
 refine t2.out.mono ?_
 rintro r' w3 ⟨rfl,own3,B3,h3,e3,k3⟩
 obtain⟨s,hs⟩:∃ s,(Z0i ((Lw.make 3).rounds 9).W i).s=some s:=Option.isSome_iff_exists.1 a5
 have i1:((Lw.make 3).rounds 9).W.n=3:=by decide +kernel
 have o0:=Zm0 h3 (by omega) b2 (by rw [i1];omega) hs a3
 rw [e3] at o0
 have v1:(((Lw.make 3).rounds 9).step 6 i 0 0 0 eB).1=Zlz i:=rfl
 rw [v1,a4] at o0
 obtain⟨K1,r1⟩:∃ K1,K1=0+(Lw.make 3).roundsK 9+1:=⟨_,rfl⟩
 rw [← r1] at o0
 have f3:K1≤1001:=by omega
 have k3':=hd_ k3
 have m0:=fun j (hj:j≤R)=>Zlx j 12 i (Zlz i) a6 (by omega)
 have n0:=fun j (hj:j<R)=>Zly j 12 i (Zlz i) a6 (by omega)
 have t0:=fun j (hj:j≤R)=>Nat.le_trans (Zm1 (Zlz i) j 12 (by omega)) a7
 have b1:∀ j,((Zlz i).mailsR j).W.n=3:=by
  have h0:(Zlz i).W.n=3:=by
   rw [← v1,Zlq _ _ _ _ _ _ _ (by decide)];exact i1
  intro j
  induction j with
  | zero=>exact h0
  | succ j ih=>
    rw [Zlv]
    unfold Lw.mailR
    rw [Zm2,Zle];exact ih
 generalize Zlz i=M at o0 m0 n0 t0 b1
 replace o0:=hd_ o0;replace h3:=hd_ h3;replace m0:=hd_ m0;replace n0:=hd_ n0;replace t0:=hd_ t0;replace b1:=hd_ b1;replace hs:=hd_ hs;replace i1:=hd_ i1;replace r1:=hd_ r1;clear t2 k3 v1 a1 a2 a3 a4 a5 a6 a7;go_wp2_with fail
 refine o0.out.mono ?_
 rintro r' w4 ⟨z4,rfl,rfl,own4,B4,h4,e4,k4⟩;replace h4:=hd_ h4;clear o0 k4;go_wp2
 go_loopw [7] (fun v wr=>∃ (k:Nat) (own':Nat→Nat) (B':LwAt),k≤R∧v=.int .i64 k∧LwT own' w1 wr B' (K1+M.mailsK k) (M.mailsR k)∧B'.lb=B2.lb) (fun v _=>R-(intOf v).toNat)
 case atStart=>exact⟨0,own4,B4,Nat.zero_le _,rfl,h4.out,e4⟩
 case round=>
  obtain⟨k,own5,B5,hk,rfl,h5,e5⟩:=hrel
  by_cases hlt:k<R
  ·have g2:decide ((k:Int)<(R:Int))=true:=decide_eq_true (by omega)
   have j1:=n0.out k hlt
   have q0:=t0.out (k+1) (by omega)
   rw [Zlu] at q0
   have g1:=Zlv k M
   have x1:=Zlu k M
   have f0:=b1.out k
   generalize M.mailsR k=X at h5 j1 q0 g1 x1 f0
   obtain⟨KX,t1⟩:∃ KX,KX=K1+M.mailsK k:=⟨_,rfl⟩
   rw [← t1] at h5
   have z0:X.mailK=3+(X.ticks 3 1).nsend 100:=rfl
   have i0:K1+M.mailsK (k+1)=KX+X.mailK:=by omega
   have hKb:KX+X.mailK≤4100:=by omega
   unfold Lw.mailOk at j1
   rw [Bool.and_eq_true] at j1
   obtain⟨k2,k1⟩:=j1
   have m1:X.mailR=(X.ticks 3 1).sends 100:=rfl
   have y1:=f0
   replace g1:=hd_ g1;replace x1:=hd_ x1;replace t1:=hd_ t1;replace z0:=hd_ z0;replace i0:=hd_ i0;replace k2:=hd_ k2;replace k1:=hd_ k1;replace m1:=hd_ m1;replace f0:=hd_ f0;replace h5:=hd_ h5;replace q0:=hd_ q0;clear y1;go_wp2
   go_loopw [8] (fun v wr=>∃ (j:Nat) (own':Nat→Nat) (B':LwAt),j≤3∧v=.int .i64 ((j:Int)+1)∧LwT own' w1 wr B' (KX+j) (X.ticks j 1)∧B'.lb=B2.lb) (fun v _=>4-(intOf v).toNat)
   case atStart=>exact⟨0,own5,B5,Nat.zero_le _,by go_num,h5.out,e5⟩
   case round=>
    obtain⟨j,own6,B6,hj,rfl,h6,e6⟩:=hrel
    by_cases hj3:j<3
    ·have j3:decide ((j:Int)+1≤3)=true:=decide_eq_true (by omega)
     have l1:=Zkq j 3 1 X k2.out hj3
     rw [Nat.add_comm] at l1
     have hS:=Zl6 (i:=j+1) h6 (by omega) (by omega) (by rw [Zle,f0.out];omega) l1
     have n1:=Zki j 1 X
     rw [Nat.add_comm 1 j] at n1
     rw [← n1,e6,show ((j+1:Nat):Int)=(j:Int)+1 by omega] at hS
     replace hS:=hd_ hS;replace h6:=hd_ h6;replace n1:=hd_ n1;replace l1:=hd_ l1;go_wp2_with fail
     refine hS.out.mono ?_
     rintro r' w7 ⟨z7,rfl,r3,own7,B7,h7,e7,k7⟩;replace h7:=hd_ h7;clear r3 k7 hS;go_wp2
     go_roundw
     case rel=>exact⟨j+1,own7,B7,by omega,by go_num,h7.out,e7⟩
     case measure=>simp [intOf];omega
    ·have d2:j=3:=by omega
     have j3:decide ((j:Int)+1≤3)=false:=decide_eq_false (by omega)
     have h6:LwT own6 w1 wr B6 (KX+3) (X.ticks 3 1):=by rw [d2] at h6;exact h6
     replace h6:=hd_ h6;replace d2:=hd_ d2
     generalize X.ticks 3 1=Y at h6 k1 m1 z0
     go_wp2
     go_loopw [9] (fun v wr=>∃ (p:Nat) (own':Nat→Nat) (B':LwAt),p≤100∧v=.int .i64 p∧LwT own' w1 wr B' (KX+3+Y.nsend p) (Y.sends p)∧B'.lb=B2.lb) (fun v _=>100-(intOf v).toNat)
     case atStart=>exact⟨0,own6,B6,Nat.zero_le _,rfl,h6.out,e6⟩
     case round=>
      obtain⟨p,own8,B8,hp,rfl,h8,e8⟩:=hrel
      have g0:∀ (w9:World),LwT own8 w1 w9 B8 (KX+3+Y.nsend p) (Y.sends p)→Y.sends p=Y.sends 100→Y.nsend p=Y.nsend 100→LwT own8 w1 w9 B8 (K1+M.mailsK (k+1)) (M.mailsR (k+1)):=fun w9 h f1 f2=>by
       rw [i0.out,g1.out,m1.out,← f1,z0.out,← f2,show KX+(3+Y.nsend p)=KX+3+Y.nsend p by omega]
       exact h
      have c0:=h8.o.c0
      have l0:=h8.o.lt
      rw [e8] at c0 l0
      by_cases hp1:p<100
      ·have n3:decide ((p:Int)<100)=true:=decide_eq_true (by omega)
       have b0:=Zlk h8.o.wl
       have a0:=Zjv h8.o.wl.nt
       cases hnet:(Y.sends p).W.net with
       | nil=>
         obtain⟨s1,s2⟩:=Zke p hnet 100 (by omega)
         rw [hnet] at a0
         have hf:=g0 wr h8 s1.symm s2.symm
         replace hf:=hd_ hf;replace b0:=hd_ b0
         replace a0:=hd_ (show Calls Tryz.prog 52 #[Z09 B8.A.nb] wr fun r w'=>r=.returned (.int .i64 0)∧wr=w' from a0)
         replace h8:=hd_ h8;clear g0 s1 s2 hnet;go_wp2_with fail
         refine b0.out.mono ?_
         rintro r' wx ⟨rfl,rfl⟩;go_wp2_with fail
         refine a0.out.mono ?_
         rintro r' wx ⟨rfl,rfl⟩;clear c0 l0 b0 a0;go_wp2
         go_roundw
         case rel=>exact⟨k+1,own8,B8,by omega,by go_num,hf.out,e8⟩
         case measure=>simp [intOf];omega
       | cons m l=>
         obtain⟨s1,s2,_⟩:=Zkd p hnet
         have h1:=Zlw p (id:=(i:Int)) 100 hnet hp1 k1.out
         have z2:=Zlf Y (p+1) 100 (by omega)
         unfold Lw.lostOk at h1
         rw [hnet] at h1
         simp only [Bool.and_eq_true,Bool.or_eq_true,decide_eq_true_eq] at h1
         obtain⟨o1,o2,o3⟩:=h1
         rw [← s1] at o3
         have i2:=z0.out
         have p0:=Zm3 h8.o.wl.nt 0 (by rw [hnet,List.length_cons];omega)
         have d1:(Y.sends p).W.net[0]'(by rw [hnet,List.length_cons];omega)=m:=by simp [hnet]
         rw [d1] at p0
         obtain⟨ln,s0⟩:∃ ln:Int,ln=((Y.sends p).W.net.length:Int):=⟨_,rfl⟩
         rw [← s0] at a0
         have hl0:decide (0<ln)=true:=decide_eq_true (by rw [s0,hnet,List.length_cons];omega)
         have hS:=fun w9 (h9:LwT own8 w1 w9 B8 (KX+3+Y.nsend p) (Y.sends p))=>Zl4 h9 (by omega) o1
         rw [← s1,o2,e8,show KX+3+Y.nsend p+1=KX+3+Y.nsend (p+1) by rw [s2];omega] at hS
         obtain⟨tx,l2⟩:∃ tx,tx=m.too:=⟨_,rfl⟩
         rw [← l2] at p0 o3
         have p0:Calls Tryz.prog 53 #[Z09 B8.A.nb, .int .i64 0] wr fun r w'=>r=.returned (.int .i64 tx)∧Below wr.heap.size wr w':=p0
         replace hnet:=hd_ hnet;replace b0:=hd_ b0;replace a0:=hd_ a0;replace p0:=hd_ p0;replace hS:=hd_ hS;replace s0:=hd_ s0;replace l2:=hd_ l2;replace h8:=hd_ h8;clear g0 s1 s2 o1 o2 d1 i2;go_wp2_with fail
         refine b0.out.mono ?_
         rintro r' wx ⟨rfl,rfl⟩;go_wp2_with fail
         refine a0.out.mono ?_
         rintro r' wx ⟨rfl,rfl⟩;go_wp2_with fail
         refine b0.out.mono ?_
         rintro r' wx ⟨rfl,rfl⟩;go_wp2_with fail
         refine a0.out.mono ?_
         rintro r' wx ⟨rfl,rfl⟩;go_wp2_with fail
         refine b0.out.mono ?_
         rintro r' wx ⟨rfl,rfl⟩;go_wp2_with fail
         refine p0.out.mono ?_
         rintro r' w10 ⟨rfl,x0⟩
         have r0:=hd_ (hS.out w10 (h8.out.grow x0))
         clear b0 a0 p0 hS x0 c0 l0;go_wp2_with fail
         refine r0.out.mono ?_
         rintro r' w11 ⟨z11,rfl,rfl,own11,B11,j0,p1,b3⟩
         have hx:=hnet.out
         have c0:=j0.o.c0
         have l0:=j0.o.lt
         rw [p1] at c0 l0
         have e0:=Zlk j0.o.wl
         have d0:=Zjv j0.o.wl.nt
         by_cases hti:tx=i
         ·have o4:(Y.sends (p+1)).W.net.length+1=(Y.sends p).W.net.length:=by
           rcases o3 with o | o
           ·exact absurd hti o
           ·rw [hx];exact o
          have y2:((Y.sends (p+1)).W.net.length:Int)=ln-1:=by rw [s0.out];omega
          rw [y2] at d0
          have hlb:ln≤1000000:=by
           have:=h8.out.f.n400
           rw [s0.out];omega
          have m3:0≤ln:=by rw [s0.out];omega
          subst hti;replace e0:=hd_ e0;replace d0:=hd_ d0;replace j0:=hd_ j0;clear r0 b3 o3 o4 y2 hx;go_wp2_with fail
          refine e0.out.mono ?_
          rintro r' wx ⟨rfl,rfl⟩;go_wp2_with fail
          refine d0.out.mono ?_
          rintro r' wx ⟨rfl,rfl⟩;clear e0 d0 c0 l0;go_wp2
          go_roundw
          case rel=>exact⟨p+1,own11,B11,by omega,by go_num,j0.out,p1⟩
          case measure=>simp [intOf];omega
         ·have p3:(tx==(i:Int))=false:=by simp [hti]
          replace j0:=hd_ j0;clear r0 b3 o3 hx e0 d0 c0 l0 hti;go_wp2
          go_roundw
          case rel=>exact⟨p+1,own11,B11,by omega,by go_num,j0.out,p1⟩
          case measure=>simp [intOf];omega
      ·have j2:p=100:=by omega
       have n3:decide ((p:Int)<100)=false:=decide_eq_false (by omega)
       have hf:=g0 wr h8 (by rw [j2]) (by rw [j2])
       replace hf:=hd_ hf;replace h8:=hd_ h8;clear g0 c0 l0 j2;go_wp2
       go_roundw
       case rel=>exact⟨k+1,own8,B8,by omega,by go_num,hf.out,e8⟩
       case measure=>simp [intOf];omega
  ·have l3:k=R:=by omega
   have g2:decide ((k:Int)<(R:Int))=false:=decide_eq_false (by omega)
   subst l3
   have hE:=m0.out k (Nat.le_refl _)
   have q0:=t0.out k (Nat.le_refl _)
   have f0:=b1.out k
   generalize M.mailsR k=X at h5 hE f0
   unfold Lw.mailEnd at hE
   simp only [Bool.and_eq_true] at hE
   obtain⟨q1,q2,q3,q4⟩:=hE
   have w0:=Z1n h5.o.wl b2 (by rw [f0];omega)
   have m2:(Z0i X.W i).s=none:=by cases hh:(Z0i X.W i).s with
    | none=>rfl
    | some s=>rw [hh] at q1;cases q1
   rw [show xV B5.A X.W i=.pointer none by unfold xV;rw [m2];rfl] at w0
   have n2:X.fineOnce X.W.n.toNat 1=true:=by rw [f0];exact q3
   have hO:=hd_ fun w2 (h2:LwT own5 w1 w2 B5 (K1+M.mailsK k) X)=>Zlg h2 (by omega) q2
   have hC:=hd_ fun w2 (h2:LwT own5 w1 w2 B5 (K1+M.mailsK k) X)=>Zl7 h2 (by omega) q4 n2
   rw [e5] at hO hC
   have c0:=h5.o.c0
   have l0:=h5.o.lt
   rw [e5] at c0 l0
   replace w0:=hd_ w0;replace h5:=hd_ h5;replace m2:=hd_ m2;replace q2:=hd_ q2;replace n2:=hd_ n2;replace q4:=hd_ q4;replace q0:=hd_ q0;replace f0:=hd_ f0;clear q1 q3;go_wp2_with fail
   refine w0.out.mono ?_
   rintro r' w6 ⟨rfl,v2⟩
   have h6:=h5.out.grow v2
   have r2:=hd_ (hO.out w6 h6)
   replace h6:=hd_ h6;clear w0 v2 hO c0 l0;go_wp2_with fail
   refine r2.out.mono ?_
   rintro r' w7 ⟨rfl,x2⟩
   have h7:=h6.out.grow x2
   have p2:=hd_ (hC.out w7 h7)
   replace h7:=hd_ h7;clear r2 x2 hC;go_wp2_with fail
   refine p2.out.mono ?_
   rintro r' w8 ⟨rfl,h8,k8⟩
   have d3:=hd_ (k0.out.trans (h8.wl.bel.mono k0.out.size))
   clear p2 h8 k8;go_wp2
   go_ret
   exact⟨rfl,d3.out⟩
end lawWorldMail
end
end Go.Proofs.YtbonjbokofkafaaGreat
