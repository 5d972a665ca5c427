/- Lemmas of the proof: PkTs. -/
import Derived.Test.YtbonjbokofkafaaGreatPkLw
namespace Go.Proofs.YtbonjbokofkafaaGreat
set_option linter.unusedVariables false
set_option maxRecDepth 100000
set_option maxHeartbeats 64000000
section
open Go.RowKit
def chkS (n:Nat):Bool:=(Lw.make n).okRounds 30&&(decide ((Lw.make n).roundsK 30≤7000)&&(((Lw.make n).rounds 30).fineOne&&(((Lw.make n).rounds 30).fineOnce n 1&&(((Lw.make n).rounds 30).W.calm&&(decide (((Lw.make n).rounds 30).W.n=(n:Int)) &&
 ((List.range n).all fun i=>match (Z0i ((Lw.make n).rounds 30).W (i+1)).s with | none=>false | some s=>s.good&&decide (s.view=(1,((2 ^ n-1:Nat):Int),true))))))))
theorem chkS3:chkS 3=true:=by decide +kernel
theorem chkS4:chkS 4=true:=by decide +kernel
theorem chkS5:chkS 5=true:=by decide +kernel
theorem chkS6:chkS 6=true:=by decide +kernel
theorem chkS7:chkS 7=true:=by decide +kernel
theorem chkS_all (n:Nat) (h3:3≤n) (h7:n≤7):chkS n=true:=by
 have:n=3∨n=4∨n=5∨n=6∨n=7:=by omega
 rcases this with e | e | e | e | e
 ·rw [e];exact chkS3
 ·rw [e];exact chkS4
 ·rw [e];exact chkS5
 ·rw [e];exact chkS6
 ·rw [e];exact chkS7
section
variable {own own':Nat→Nat} {w0 w wa w':World} {B B':LwAt} {L L':Lw} {K tb:Nat}
theorem Zlt (h:LwT own w0 w B K L) (ht:tpO own w tb B.lb) (N:Nat) (h3:3≤N) (h7:N≤7) (hN:L.W.n=N) :
  Calls Tryz.prog 20 #[Z09 tb] w fun r w'=>r=.returned (.int .i64 ((2 ^ N-1:Nat):Int))∧w=w':=by
 have c0:w.cell? ⟨tb,0,none⟩=some (Z09 B.lb):=Z00 ht.1 0
 have l0:=Z04 ht.1
 have c1:=h.c1
 have l1:=h.o.lt
 rw [hN] at c1
 clear h ht hN
 rcases (by omega:N=3∨N=4∨N=5∨N=6∨N=7) with rfl | rfl | rfl | rfl | rfl
 all_goals
  go_enter Tryz.func20,Tryz.ntmps20
  go_wp2
  go_ret
  exact⟨rfl,rfl⟩
end
end
section
namespace lawTopStarts
open Go.ChangeShapes Go.WideShapes Go.ChangeAt Go.RowKit
theorem walk (mm n:Int) (w:World) (hmm:w.cell? ⟨0,0,none⟩=some (.int .i64 mm)) (hn:I64 n):Calls Tryz.prog 3 #[.int .i64 n] w fun r w'=>r=.returned (.bool true)∧Below w.heap.size w w':=by
 have e0:=hd_ (Zl8 w ⟨mm,hmm⟩)
 have n0:=hd_ fun w1=>tpSmall5 n hn w1
 replace hmm:=hd_ hmm;clear hn
 go_enter Tryz.func3,Tryz.ntmps3
 go_wp2_with fail
 refine e0.out.mono ?_
 rintro r w1 ⟨rfl,d0⟩;replace d0:=hd_ d0;clear e0;go_wp2_with fail
 refine (n0.out w1).mono ?_
 rintro r wx ⟨m,rfl,q0,s0,rfl⟩
 obtain⟨N,hN⟩:∃ N:Nat,3+m=N:=⟨(3+m).toNat,by omega⟩
 have j0:3≤N:=by omega
 have k0:N≤7:=by omega
 have f0:=Zlr w1 ⟨mm,by rw [d0.out.cell (Z0f hmm.out)];exact hmm.out⟩ (N:Int) (by omega) (by omega)
 have f0:=hd_ f0
 have r0:m=(N:Int)-3:=by omega
 subst r0
 have hs3:(3:Int)+((N:Int)-3)=N:=by omega
 clear n0 hN q0 s0;go_wp2_with fail
 refine f0.out.mono ?_
 rintro r w2 ⟨own2,B2,tb,rfl,h2,t2⟩
 have g0:=chkS_all N j0 k0
 unfold chkS at g0
 simp only [Bool.and_eq_true,decide_eq_true_eq] at g0
 obtain⟨a1,a2,a3,a4,a5,a6,a7⟩:=g0
 have hR:=Zkx h2 t2 30 (by omega) a1 (by omega)
 have h0:∀ i,1≤i→i≤N→∃ s,(Z0i ((Lw.make N).rounds 30).W i).s=some s∧s.good=true∧s.view=(1,((2 ^ N-1:Nat):Int),true):=fun i h1 hi=>by
  have:=List.all_eq_true.1 a7 (i-1) (List.mem_range.2 (by omega))
  rw [show i-1+1=i by omega] at this
  cases hs:(Z0i ((Lw.make N).rounds 30).W i).s with
  | none=>rw [hs] at this;cases this
  | some s=>
    rw [hs] at this
    have this:(s.good&&decide (s.view=(1,((2 ^ N-1:Nat):Int),true)))=true:=this
    rw [Bool.and_eq_true,decide_eq_true_eq] at this
    exact⟨s,rfl,this.1,this.2⟩
 have hT:∀ id:Nat,1≤id→id≤N→Z18 (((2 ^ N-1:Nat):Int)).toNat id=true:=fun id h1 hi=>by
  rcases (by omega:N=3∨N=4∨N=5∨N=6∨N=7) with rfl | rfl | rfl | rfl | rfl <;>
   rcases (by omega:id=1∨id=2∨id=3∨id=4∨id=5∨id=6∨id=7) with rfl | rfl | rfl | rfl | rfl | rfl | rfl<;>first | (exfalso;omega) | decide
 have m0:0≤((2 ^ N-1:Nat):Int)∧((2 ^ N-1:Nat):Int)<128:=by
  rcases (by omega:N=3∨N=4∨N=5∨N=6∨N=7) with rfl | rfl | rfl | rfl | rfl<;>decide
 obtain⟨L30,a0⟩:∃ L30,L30=(Lw.make N).rounds 30:=⟨_,rfl⟩
 obtain⟨K30,b0⟩:∃ K30,K30=0+(Lw.make N).roundsK 30:=⟨_,rfl⟩
 have p0:K30≤8000:=by omega
 rw [← a0,← b0] at hR
 rw [← a0] at a3 a4 a5 a6 h0
 have a4:L30.fineOnce L30.W.n.toNat 1=true:=by rw [a6,Int.toNat_natCast];exact a4
 obtain⟨T,c0⟩:∃ T:Int,T=((2 ^ N-1:Nat):Int):=⟨_,rfl⟩
 have hA:=fun own3 w3 B3 (h3:LwT own3 w1 w3 B3 K30 L30) (t3:tpO own3 w3 tb B3.lb)=>Zlt h3 t3 N j0 k0 a6
 have hO:=fun own3 w3 B3 (h3:LwT own3 w1 w3 B3 K30 L30) (t3:tpO own3 w3 tb B3.lb)=>Zls h3 p0 t3 N a6 T (by rw [c0];exact m0) (by rw [c0];exact hT) (by rw [c0];exact h0) a3 a4 a5
 rw [← c0] at hA
 replace hR:=hd_ hR;replace hA:=hd_ hA;replace hO:=hd_ hO;replace h2:=hd_ h2;replace t2:=hd_ t2;replace a0:=hd_ a0;replace b0:=hd_ b0;replace c0:=hd_ c0;clear a1 a2 a3 a4 a5 a6 a7 h0 hT m0 f0;go_wp2_with fail
 refine hR.out.mono ?_
 rintro r w3 ⟨rfl,own3,B3,h3,t3⟩
 have i0:=hd_ (hA.out own3 w3 B3 h3 t3)
 have l0:=hd_ (hO.out own3 w3 B3 h3 t3)
 replace h3:=hd_ h3;replace t3:=hd_ t3;clear hR hA hO;go_wp2_with fail
 refine i0.out.mono ?_
 rintro r wx ⟨rfl,rfl⟩;clear i0;go_wp2_with fail
 refine l0.out.mono ?_
 rintro r w4 ⟨rfl,L4,h4⟩
 have o0:=hd_ (d0.out.trans (h4.wl.bel.mono d0.out.size))
 clear l0 h4;go_wp2
 go_ret
 exact⟨rfl,o0.out⟩
end lawTopStarts
end
end Go.Proofs.YtbonjbokofkafaaGreat
