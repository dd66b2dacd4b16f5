import Derived.Test.YtimffppffbideaaGreatDoorJSlFates
import Derived.Test.YtimffppffbideaaGreatDoorRows
set_option linter.unusedSimpArgs false
set_option linter.unusedVariables false
set_option maxRecDepth 100000
set_option maxHeartbeats 16000000
namespace Go.Proofs.YtimffppffbideaaGreatDoor
section
open Go.RowKit Go.Lib Go.Sort
open Mat
theorem neRj_run (a1 a4 a5:ByteArray)(a2 a3 a6 a7 a8:Int)(w:World):(binOp .neq 88 (.agg #[.string a1,.int .i64 a2,.int .i64 a3,.string a4,.string a5,.int .i64 a6,.int .i64 a7,.int .i64 a8]) (.agg #[.string a1,.int .i64 a2,.int .i64 a3,.string a4,.string a5,.int .i64 a6,.int .i64 a7,.int .i64 a8])).run Tryz.prog w=.ok (.bool false) w:=by
 go_simp
theorem neSr_run (x1:ByteArray)(x2:Int)(w:World):(binOp .neq 82 (.agg #[.string x1,.int .i64 x2]) (.agg #[.string x1,.int .i64 x2])).run Tryz.prog w=.ok (.bool false) w:=by
 go_simp
theorem sameRj16_true {A A2:Option Addr}(c c2:Nat){l:List Rj}{w:World}(h1:Rd encRj 8 w w.heap.size A l)(h2:Rd encRj 8 w w.heap.size A2 l)(hl:l.length≤1000000):
  Calls Tryz.prog 14 #[.slice A l.length c,.slice A2 l.length c2] w fun e w'=>e=.returned (.bool true)∧Below w.heap.size w w':=by
 have H1:=hid h1;have H2:=hid h2;have HB0:=hid (Below.refl w.heap.size w);obtain⟨n,hn⟩:∃n,l.length=n:=⟨_,rfl⟩;have HN:=hid hn;rw[hn]at hl ⊢;clear h1 h2 hn;go_enter Tryz.func14,Tryz.ntmps14;go_wp2_with fail
 go_loopw [5] (fun si wx=>∃k:Nat,k≤n∧si=.int .i64 k∧Hid (Below w.heap.size w wx)) (fun si _=>n-(RowKit.intOf si).toNat)
 case atStart=>exact⟨0,Nat.zero_le _,rfl,HB0⟩
 case round=>
  obtain⟨k,hk,rfl,HB⟩:=hrel;have k0:(0:Int)≤(k:Int):=by omega
  by_cases hi:k<n
  ·obtain⟨b,off,x,rfl,hb,hx,hc⟩:=(H1.out.st HB.out).at_ (i:=k) (by rw[HN.out];exact hi);obtain⟨b',off',x',rfl,hb',hx',hc'⟩:=(H2.out.st HB.out).at_ (i:=k) (by rw[HN.out];exact hi);obtain rfl:x=x':=Option.some.inj (hx.symm.trans hx');have HI:=hid hi;have k1:(k:Int)<(n:Int):=by omega
   have k2:decide (k<n)=true:=decide_eq_true hi;obtain⟨⟨a1,a2,a3,a4,a5,a6,a7⟩,a8⟩:=x;have e0:wr.cell? ⟨b,off+k*8,none⟩=some (.string a1):=by simpa using hc 0 _ rfl
   have e1:wr.cell? ⟨b,off+k*8+1,none⟩=some (.int .i64 a2):=hc 1 _ rfl;have e2:wr.cell? ⟨b,off+k*8+2,none⟩=some (.int .i64 a3):=hc 2 _ rfl;have e3:wr.cell? ⟨b,off+k*8+3,none⟩=some (.string a4):=hc 3 _ rfl;have e4:wr.cell? ⟨b,off+k*8+4,none⟩=some (.string a5):=hc 4 _ rfl;have e5:wr.cell? ⟨b,off+k*8+5,none⟩=some (.int .i64 a6):=hc 5 _ rfl;have e6:wr.cell? ⟨b,off+k*8+6,none⟩=some (.int .i64 a7):=hc 6 _ rfl;have e7:wr.cell? ⟨b,off+k*8+7,none⟩=some (.int .i64 a8):=hc 7 _ rfl;have g0:wr.cell? ⟨b',off'+k*8,none⟩=some (.string a1):=by simpa using hc' 0 _ rfl
   have g1:wr.cell? ⟨b',off'+k*8+1,none⟩=some (.int .i64 a2):=hc' 1 _ rfl;have g2:wr.cell? ⟨b',off'+k*8+2,none⟩=some (.int .i64 a3):=hc' 2 _ rfl;have g3:wr.cell? ⟨b',off'+k*8+3,none⟩=some (.string a4):=hc' 3 _ rfl;have g4:wr.cell? ⟨b',off'+k*8+4,none⟩=some (.string a5):=hc' 4 _ rfl;have g5:wr.cell? ⟨b',off'+k*8+5,none⟩=some (.int .i64 a6):=hc' 5 _ rfl;have g6:wr.cell? ⟨b',off'+k*8+6,none⟩=some (.int .i64 a7):=hc' 6 _ rfl;have g7:wr.cell? ⟨b',off'+k*8+7,none⟩=some (.int .i64 a8):=hc' 7 _ rfl;have qn:=fun(X:World)=>neRj_run a1 a4 a5 a2 a3 a6 a7 a8 X;clear hc hc' hb hb' hx hx' hi hk;go_wp2_with fail
   go_quiet(fail)
   generalize hY:wr.drewN _=Y;have HBN:Hid (Below w.heap.size w Y):=hid (by rw[←hY];exact below_drewN HB.out _);clear hY e0 e1 e2 e3 e4 e5 e6 e7 g0 g1 g2 g3 g4 g5 g6 g7;go_wp2_with fail
   go_roundw
   case rel=>exact⟨k+1,HI.out,by go_num,HBN⟩
   case measure=>have:=HI.out;simp[RowKit.intOf];omega
  ·obtain rfl:n=k:=by omega
   clear hk hi;go_wp2_with fail
   go_ret;exact⟨rfl,HB.out⟩
theorem one16_true (p1 p2 p4 p5:ByteArray)(p3 p6 p7:Int){aA bA:Option Addr}(ac bc:Nat){l:List Src}{w:World}(h1:Rd encSr 2 w w.heap.size aA l)(h2:Rd encSr 2 w w.heap.size bA l){n:Nat}(hn:l.length=n)(hl:n≤1000000):
  Calls Tryz.prog 30 #[.agg #[.string p1,.string p2,.int .i64 p3,.string p4,.string p5,.int .i64 p6,.int .i64 p7,.slice aA n ac],.agg #[.string p1,.string p2,.int .i64 p3,.string p4,.string p5,.int .i64 p6,.int .i64 p7,.slice bA n bc]] w fun e w'=>e=.returned (.bool true)∧Below w.heap.size w w':=by
 obtain⟨Y1,hY1⟩:∃Y,w.alloc (.cells #[.string p1,.string p2,.int .i64 p3,.string p4,.string p5,.int .i64 p6,.int .i64 p7,.slice aA n ac] 76)=Y:=⟨_,rfl⟩;obtain⟨Y2,hY2⟩:∃Y,Y1.alloc (.cells #[.string p1,.string p2,.int .i64 p3,.string p4,.string p5,.int .i64 p6,.int .i64 p7,.slice bA n bc] 76)=Y:=⟨_,rfl⟩;have s1:Y1.heap.size=w.heap.size+1:=by rw[←hY1];simp
 have b2:Below w.heap.size w Y2:=by rw[←hY2,←hY1];exact((Below.refl _ w).al _).al _
 have B1:Blk Y2 w.heap.size #[.string p1,.string p2,.int .i64 p3,.string p4,.string p5,.int .i64 p6,.int .i64 p7,.slice aA n ac] 76:=by rw[←hY2,←hY1];exact(Blk.new w _ _).alloc _
 have B2:Blk Y2 (w.heap.size+1) #[.string p1,.string p2,.int .i64 p3,.string p4,.string p5,.int .i64 p6,.int .i64 p7,.slice bA n bc] 76:=by rw[←s1,←hY2];exact Blk.new Y1 _ _
 have a0:=B1.cell 0 (v:=.string p1) rfl;have c0:=B2.cell 0 (v:=.string p1) rfl;have a1:=B1.cell 1 (v:=.string p2) rfl;have c1:=B2.cell 1 (v:=.string p2) rfl;have a2:=B1.cell 2 (v:=.int .i64 p3) rfl;have c2:=B2.cell 2 (v:=.int .i64 p3) rfl;have a3:=B1.cell 3 (v:=.string p4) rfl;have c3:=B2.cell 3 (v:=.string p4) rfl;have a4:=B1.cell 4 (v:=.string p5) rfl;have c4:=B2.cell 4 (v:=.string p5) rfl;have a5:=B1.cell 5 (v:=.int .i64 p6) rfl;have c5:=B2.cell 5 (v:=.int .i64 p6) rfl;have a6:=B1.cell 6 (v:=.int .i64 p7) rfl;have c6:=B2.cell 6 (v:=.int .i64 p7) rfl;have a7:=B1.cell 7 (v:=.slice aA n ac) rfl;have c7:=B2.cell 7 (v:=.slice bA n bc) rfl;have H1:=hid (h1.st b2);have H2:=hid (h2.st b2);have HB:=hid b2;have HB1:=hid B1;have HB2:=hid B2;have HN:=hid hn;clear h1 h2 b2 B1 B2 hn;go_enter Tryz.func30,Tryz.ntmps30;go_wp2_with fail
 go_loopw [5] (fun si wx=>∃k:Nat,k≤n∧si=.int .i64 k∧Hid (Below Y2.heap.size Y2 wx)) (fun si _=>n-(RowKit.intOf si).toNat)
 case atStart=>exact⟨0,Nat.zero_le _,rfl,Below.refl _ _⟩
 case round=>
  clear a0 a1 a2 a3 a4 a5 a6 a7 c0 c1 c2 c3 c4 c5 c6 c7;obtain⟨k,hk,rfl,HBK⟩:=hrel;have k0:(0:Int)≤(k:Int):=by omega
  have a7:=(HB1.out.below HBK.out HB1.out.lt).cell 7 (v:=.slice aA n ac) rfl;have c7:=(HB2.out.below HBK.out HB2.out.lt).cell 7 (v:=.slice bA n bc) rfl;by_cases hi:k<n
  ·obtain⟨b,off,x,hA,hb,hx,hc⟩:=(H1.out.st HBK.out).at_ (i:=k) (by rw[HN.out];exact hi);obtain⟨b',off',x',hA',hb',hx',hc'⟩:=(H2.out.st HBK.out).at_ (i:=k) (by rw[HN.out];exact hi);subst hA hA';obtain rfl:x=x':=Option.some.inj (hx.symm.trans hx');have HI:=hid hi;have k1:(k:Int)<(n:Int):=by omega
   have k2:decide (k<n)=true:=decide_eq_true hi;obtain⟨x1,x2⟩:=x;have e0:wr.cell? ⟨b,off+k*2,none⟩=some (.string x1):=by simpa using hc 0 _ rfl
   have e1:wr.cell? ⟨b,off+k*2+1,none⟩=some (.int .i64 x2):=hc 1 _ rfl;have g0:wr.cell? ⟨b',off'+k*2,none⟩=some (.string x1):=by simpa using hc' 0 _ rfl
   have g1:wr.cell? ⟨b',off'+k*2+1,none⟩=some (.int .i64 x2):=hc' 1 _ rfl;have qn:=fun(X:World)=>neSr_run x1 x2 X;clear hc hc' hb hb' hx hx' hi hk;go_wp2_with fail
   go_quiet(fail)
   generalize hY:wr.drewN _=Y;have HBN:Hid (Below Y2.heap.size Y2 Y):=hid (by rw[←hY];exact below_drewN HBK.out _);clear hY e0 e1 g0 g1 a7 c7;go_wp2_with fail
   go_roundw
   case rel=>exact⟨k+1,HI.out,by go_num,HBN⟩
   case measure=>have:=HI.out;simp[RowKit.intOf];omega
  ·obtain rfl:n=k:=by omega
   clear hk hi;go_wp2_with fail
   go_ret;exact⟨rfl,HB.out.st HBK.out⟩
end
section
open Go.RowKit Go.Lib Go.Sort
open Mat
theorem samePg16_true {A A2:Option Addr}(c c2:Nat){ps qs:List Pg}{w:World}(h1:Rd encPg 8 w w.heap.size A ps)(h2:Rd encPg 8 w w.heap.size A2 qs)(hv:ps.map Pg.v=qs.map Pg.v)
  (g1:∀x∈ps,Rd encSr 2 w w.heap.size x.A x.v.src) (g2:∀x∈qs,Rd encSr 2 w w.heap.size x.A x.v.src) (hl:ps.length≤1000000) (hs:∀x∈ps,x.v.src.length≤1000000):
  Calls Tryz.prog 13 #[.slice A ps.length c,.slice A2 qs.length c2] w fun e w'=>e=.returned (.bool true)∧Below w.heap.size w w':=by
 have H1:=hid h1;have H2:=hid h2;have G1:=hid g1;have G2:=hid g2;have HVV:=hid hv;have HS:=hid hs;have HB0:=hid (Below.refl w.heap.size w);have hq:qs.length=ps.length:=by have:=congrArg List.length hv;rw[List.length_map,List.length_map]at this;exact this.symm
 obtain⟨m,hm⟩:∃n,ps.length=n:=⟨_,rfl⟩;rw[hq,hm];have HN:=hid hm;have HQ:=hid (hq.trans hm);rw[hm]at hl;clear h1 h2 g1 g2 hv hm hq hs;go_enter Tryz.func13,Tryz.ntmps13;go_wp2_with fail
 go_loopw [5] (fun si wx=>∃k:Nat,k≤m∧si=.int .i64 k∧Hid (Below w.heap.size w wx)) (fun si _=>m-(RowKit.intOf si).toNat)
 case atStart=>exact⟨0,Nat.zero_le _,rfl,HB0⟩
 case round=>
  obtain⟨k,hk,rfl,HB⟩:=hrel;have k0:(0:Int)≤(k:Int):=by omega
  by_cases hi:k<m
  ·obtain⟨x,hx⟩:∃x,ps[k]? =some x:=⟨_,List.getElem?_eq_getElem (by rw[HN.out];exact hi)⟩;obtain⟨y,hy⟩:∃y,qs[k]? =some y:=⟨_,List.getElem?_eq_getElem (by rw[HQ.out];exact hi)⟩;have hxy:x.v=y.v:=by
    have h:=congrArg (fun l=>l[k]?) HVV.out;simp only[List.getElem?_map,hx,hy,Option.map_some,Option.some.injEq]at h;exact h
   obtain⟨b,off,x',hA,hb,hx',hc⟩:=(H1.out.st HB.out).at_ (i:=k) (by rw[HN.out];exact hi);obtain⟨b2,off2,y',hA2,hb2,hy',hc2⟩:=(H2.out.st HB.out).at_ (i:=k) (by rw[HQ.out];exact hi);subst hA hA2;have hsx:=HS.out x (List.mem_of_getElem? hx);have R1:=G1.out x (List.mem_of_getElem? hx);have R2:=G2.out y (List.mem_of_getElem? hy);obtain⟨⟨p1,p2,p3,p4,p5,p6,p7,l⟩,aA,ac⟩:=x;obtain⟨yv,bA,bc⟩:=y;simp only at hxy;subst hxy;simp only at hsx R1 R2;obtain⟨n,hn⟩:∃n,l.length=n:=⟨_,rfl⟩;have CO:=hid (fun(X:World) (hX:Below w.heap.size w X)=>one16_true p1 p2 p4 p5 p3 p6 p7 ac bc (R1.st hX) (R2.st hX) hn (by omega));have HSA:=hid (show∀X,Below w.heap.size w X→(fun X:World=>X.cell? ⟨b,off+k*8,none⟩=some (.string p1)∧X.cell? ⟨b,off+k*8+1,none⟩=some (.string p2)∧X.cell? ⟨b,off+k*8+2,none⟩=some (.int .i64 p3)∧X.cell? ⟨b,off+k*8+3,none⟩=some (.string p4)∧X.cell? ⟨b,off+k*8+4,none⟩=some (.string p5)∧X.cell? ⟨b,off+k*8+5,none⟩=some (.int .i64 p6)∧X.cell? ⟨b,off+k*8+6,none⟩=some (.int .i64 p7)∧X.cell? ⟨b,off+k*8+7,none⟩=some (.slice aA n ac)∧X.cell? ⟨b2,off2+k*8,none⟩=some (.string p1)∧X.cell? ⟨b2,off2+k*8+1,none⟩=some (.string p2)∧X.cell? ⟨b2,off2+k*8+2,none⟩=some (.int .i64 p3)∧X.cell? ⟨b2,off2+k*8+3,none⟩=some (.string p4)∧X.cell? ⟨b2,off2+k*8+4,none⟩=some (.string p5)∧X.cell? ⟨b2,off2+k*8+5,none⟩=some (.int .i64 p6)∧X.cell? ⟨b2,off2+k*8+6,none⟩=some (.int .i64 p7)∧X.cell? ⟨b2,off2+k*8+7,none⟩=some (.slice bA n bc)) X from fun X hX=>by
    refine⟨?_,?_,?_,?_,?_,?_,?_,?_,?_,?_,?_,?_,?_,?_,?_,?_⟩
    ·have:=(H1.out.st hX).cellAt hx (j:=0) rfl;simp only[hn]at this;simpa using this
    ·have:=(H1.out.st hX).cellAt hx (j:=1) rfl;simp only[hn]at this;exact this
    ·have:=(H1.out.st hX).cellAt hx (j:=2) rfl;simp only[hn]at this;exact this
    ·have:=(H1.out.st hX).cellAt hx (j:=3) rfl;simp only[hn]at this;exact this
    ·have:=(H1.out.st hX).cellAt hx (j:=4) rfl;simp only[hn]at this;exact this
    ·have:=(H1.out.st hX).cellAt hx (j:=5) rfl;simp only[hn]at this;exact this
    ·have:=(H1.out.st hX).cellAt hx (j:=6) rfl;simp only[hn]at this;exact this
    ·have:=(H1.out.st hX).cellAt hx (j:=7) rfl;simp only[hn]at this;exact this
    ·have:=(H2.out.st hX).cellAt hy (j:=0) rfl;simp only[hn]at this;simpa using this
    ·have:=(H2.out.st hX).cellAt hy (j:=1) rfl;simp only[hn]at this;exact this
    ·have:=(H2.out.st hX).cellAt hy (j:=2) rfl;simp only[hn]at this;exact this
    ·have:=(H2.out.st hX).cellAt hy (j:=3) rfl;simp only[hn]at this;exact this
    ·have:=(H2.out.st hX).cellAt hy (j:=4) rfl;simp only[hn]at this;exact this
    ·have:=(H2.out.st hX).cellAt hy (j:=5) rfl;simp only[hn]at this;exact this
    ·have:=(H2.out.st hX).cellAt hy (j:=6) rfl;simp only[hn]at this;exact this
    ·have:=(H2.out.st hX).cellAt hy (j:=7) rfl;simp only[hn]at this;exact this
    )
   have HI:=hid hi;have k1:(k:Int)<(m:Int):=by omega
   have k2:decide (k<m)=true:=decide_eq_true hi;clear hc hc2 hb hb2 hx hx' hy hy' hi hk R1 R2 hsx hn;go_upto_region 6 with fail
   refine wp_region_held_drew (S:=(fun X:World=>X.cell? ⟨b,off+k*8,none⟩=some (.string p1)∧X.cell? ⟨b,off+k*8+1,none⟩=some (.string p2)∧X.cell? ⟨b,off+k*8+2,none⟩=some (.int .i64 p3)∧X.cell? ⟨b,off+k*8+3,none⟩=some (.string p4)∧X.cell? ⟨b,off+k*8+4,none⟩=some (.string p5)∧X.cell? ⟨b,off+k*8+5,none⟩=some (.int .i64 p6)∧X.cell? ⟨b,off+k*8+6,none⟩=some (.int .i64 p7)∧X.cell? ⟨b,off+k*8+7,none⟩=some (.slice aA n ac)∧X.cell? ⟨b2,off2+k*8,none⟩=some (.string p1)∧X.cell? ⟨b2,off2+k*8+1,none⟩=some (.string p2)∧X.cell? ⟨b2,off2+k*8+2,none⟩=some (.int .i64 p3)∧X.cell? ⟨b2,off2+k*8+3,none⟩=some (.string p4)∧X.cell? ⟨b2,off2+k*8+4,none⟩=some (.string p5)∧X.cell? ⟨b2,off2+k*8+5,none⟩=some (.int .i64 p6)∧X.cell? ⟨b2,off2+k*8+6,none⟩=some (.int .i64 p7)∧X.cell? ⟨b2,off2+k*8+7,none⟩=some (.slice bA n bc))) (by kernel_rfl) (HSA.out wr HB.out) (fun hHeld=> ?_);have bD:Below w.heap.size w wr.drew:=HB.out.drew;have hSS:=HSA.out _ bD;obtain⟨V0,hV0⟩:∃V,wr.drew=V:=⟨_,rfl⟩;rw[hV0]at hHeld hSS bD ⊢;clear hV0;change wpAnyH _ _ _ _ _ 10 _ _ _;refine tk 0 (h:= ?_);refine tk 1 (h:= ?_);refine tk 2 (h:= ?_);refine tk 3 (h:= ?_);refine tk 4 (h:= ?_);refine tk 5 (h:= ?_);refine tk 6 (h:= ?_);refine tk 7 (h:= ?_);refine rd1 8 (h:=fun K hK=> ?_);rw[if_pos (by rfl)];go_wp2_with fail
   with_reducible refine(CO.out V0 bD).mono ?_
   rintro e W5 ⟨rfl,hb5⟩;have bD5:=bD.st hb5;go_wp2_with fail
   refine hK.out _ _ (HSA.out W5 bD5) (fun hHeld=> ?_);clear hK K hSS;have hSS:=HSA.out W5 bD5;refine td (h:= ?_);refine tk 9 (h:= ?_);refine wpAnyH_done (by kernel_rfl) ?_ _;have HB5:=hid bD5;clear hHeld hSS bD bD5 hb5;go_wp2_with fail
   go_roundw
   case rel=>exact⟨k+1,HI.out,by go_num,HB5⟩
   case measure=>have:=HI.out;simp[RowKit.intOf];omega
  ·obtain rfl:m=k:=by omega
   clear hk hi;go_wp2_with fail
   go_ret;exact⟨rfl,HB.out⟩
end
section
open Go.RowKit Go.Lib
theorem nd_len {α:Type}:∀{l m:List α},l.Nodup→(∀x∈l,x∈m)→l.length≤m.length
 |[],_,_,_=>Nat.zero_le _
 |a::l,m,hn,hs=>by
  obtain⟨m1,m2,rfl⟩:=List.append_of_mem (hs a List.mem_cons_self);have hn2:=List.nodup_cons.1 hn;have:=nd_len (l:=l) (m:=m1++m2) hn2.2 (fun x hx=>by
   have h1:=hs x (List.mem_cons_of_mem _ hx);have h2:x≠a:=fun e=>hn2.1 (e▸hx);simp only[List.mem_append,List.mem_cons]at h1 ⊢;rcases h1 with h|h|h
   ·exact Or.inl h
   ·exact absurd h h2
   ·exact Or.inr h)
  simp only[List.length_append,List.length_cons]at this ⊢;omega
theorem sift_len {l:List Dv}{ds:List Dt}{S:List Sn}{R:List Rj}(h:SiftOf l ds S R):S.length≤ds.length∧R.length≤ds.length:=by
 constructor
 ·have:=nd_len (m:=ds.map (corS l)) (asc_nodup cmpSn_pre h.1) (fun x hx=>by
   obtain⟨d,hd,_,rfl⟩:=(h.2.2.1 x).1 hx;exact List.mem_map.2 ⟨d,hd,rfl⟩)
  rwa [List.length_map]at this
 ·have:=nd_len (m:=ds.map fun d=>(⟨d,whyF l ds d⟩:Rj)) (asc_nodup cmpRj_pre h.2.1) (fun x hx=>by
   obtain⟨d,hd,_,rfl⟩:=(h.2.2.2 x).1 hx;exact List.mem_map.2 ⟨d,hd,rfl⟩)
  rwa [List.length_map]at this
theorem add_mem {l:List Dv}{ds:List Dt}{S:List Sn}{R:List Rj}(ho:SiftOf l ds S R)(d x:Dt):x∈addD S R d↔x∈d::ds:=by
 unfold addD;simp only[List.mem_cons,List.mem_append,List.mem_map];have hS:(∃s,s∈S∧s.d=x)∨(∃r,r∈R∧r.d=x)↔x∈ds:=by
  constructor
  ·rintro(⟨s,hs,rfl⟩|⟨r,hr,rfl⟩)
   ·obtain⟨y,hy,h0,rfl⟩:=(ho.2.2.1 s).1 hs;rw[whyF_zero h0];exact hy
   ·obtain⟨y,hy,h0,rfl⟩:=(ho.2.2.2 r).1 hr;exact hy
  ·intro hx;by_cases h0:whyF l ds x=0
   ·exact Or.inl ⟨corS l x,(ho.2.2.1 _).2 ⟨x,hx,h0,rfl⟩,whyF_zero h0⟩
   ·exact Or.inr ⟨⟨x,whyF l ds x⟩,(ho.2.2.2 _).2 ⟨x,hx,h0,rfl⟩,rfl⟩
 exact or_congr Iff.rfl hS
theorem sift_congr {l:List Dv}{ds es:List Dt}{S:List Sn}{R:List Rj}(h:∀d,d∈ds↔d∈es)(ho:SiftOf l ds S R):SiftOf l es S R:=by
 obtain⟨h1,h2,h3,h4⟩:=ho;refine⟨h1,h2,fun s=>(h3 s).trans ?_,fun r=>(h4 r).trans ?_⟩
 ·refine exists_congr fun d=> ?_;rw[h d,whyF_set h d]
 ·refine exists_congr fun d=> ?_;rw[h d,whyF_set h d]
theorem sift_add {l:List Dv}{ds:List Dt}{S S2:List Sn}{R R2:List Rj}{d:Dt}(ho:SiftOf l ds S R)(h2:SiftOf l (addD S R d) S2 R2):SiftOf l (d::ds) S2 R2:=sift_congr (add_mem ho d) h2
theorem sift_nil (l:List Dv):SiftOf l [] [] []:=⟨List.Pairwise.nil,List.Pairwise.nil,fun s=>by simp,fun r=>by simp⟩
end
section
open Go.RowKit Go.Lib Go.Sort
open Mat
theorem topadded_any (v2 v8 v9 v10 v11 v12 v13 v14 v15 v16 v17 v18 v19 v20 v21 v22 v23 v24:Value){pA lA dA kA gA B:Option Addr}(pc lc dc kc gc bc:Nat){pts:List Pt}{lks:List Net.Lk}{dvs:List Dv}{ks:List Cl}{gs:List Tg}{ds:List Dt}(gap weak:Int){w:World}(hp:Rd encPt 3 w w.heap.size pA pts)(hk:Rd Net.encLk 4 w w.heap.size lA lks)
  (hd:Rd encD 6 w w.heap.size dA dvs) (hz:DsOk w dvs) (hc:Rd encCl 3 w w.heap.size kA ks) (hg:Rd encTg 3 w w.heap.size gA gs) (hb:Rd encDt 7 w w.heap.size B ds) (hq:∀x∈ds,SeqOk x)
  (hl1:pts.length≤9223372036854775807) (hl2:lks.length≤9223372036854775807) (hl3:dvs.length≤9223372036854775807) (hl4:ks.length≤9223372036854775807) (hl5:gs.length≤9223372036854775807) (hl6:ds.length≤9223372036854775807) (h10:P10 w):
  Calls Tryz.prog 4 #[.agg #[.slice pA pts.length pc,.slice lA lks.length lc,v2,.slice dA dvs.length dc,.slice kA ks.length kc,.slice gA gs.length gc,.int .i64 gap,.int .i64 weak,v8,v9,v10,v11,v12,v13,v14,v15,v16,v17,v18,v19,v20,v21,v22,v23,v24],.slice B ds.length bc] w fun e w'=>e=.returned (.bool true)∧Below w.heap.size w w':=by
 obtain⟨pn,hpn⟩:∃n,pts.length=n:=⟨_,rfl⟩;obtain⟨ln,hln⟩:∃n,lks.length=n:=⟨_,rfl⟩;obtain⟨dn,hdn⟩:∃n,dvs.length=n:=⟨_,rfl⟩;obtain⟨kn,hkn⟩:∃n,ks.length=n:=⟨_,rfl⟩;obtain⟨gn,hgn⟩:∃n,gs.length=n:=⟨_,rfl⟩;obtain⟨bn,hbn⟩:∃n,ds.length=n:=⟨_,rfl⟩;have CD:=hid (fun(X:World) (hX:Below w.heap.size w X)=>devices_any v2 v8 v9 v10 v11 v12 v13 v14 v15 v16 v17 v18 v19 v20 v21 v22 v23 v24 pc lc dc kc gc gap weak (hp.st hX) (hk.st hX) (hd.st hX) (hz.st hX) (hc.st hX) (hg.st hX) hl1 hl2 hl3 hl4 hl5);rw[hpn,hln,hdn,hkn,hgn]at CD;have CR:=hid (fun(X:World) (hX:Below w.heap.size w X)=>reports_any bc 24 (hb.st hX) hl6);rw[hbn]at CR;have CS:=hid (fun(X:World) (hX:Below w.heap.size w X) (hs:dvs.length≤40∧∀y∈dvs,y.os.length≤8∧y.ds.length≤8) (hr:RepOk ds) (hn:bn≤24)=>sift_any dc bc (hd.st hX) (hz.st hX) (fun y hy=>by have:=hs.2 y hy;omega) (by omega) (hb.st hX) (by omega) (repOk_sz hr) (fun x hx=>(hq x hx).src (repOk_sz hr x hx)));rw[hdn,hbn]at CS;have CP:=hid (fun(X:World) (hX:Below w.heap.size w X) (hs:dvs.length≤40∧∀y∈dvs,y.os.length≤8∧y.ds.length≤8) (hr:RepOk ds) (S:List Sn) (R:List Rj) (sA rA:Option Addr) (sc_ rc:Nat) (d:Dt) (rs:Rd encSn 11 X X.heap.size sA S) (rr:Rd encRj 8 X X.heap.size rA R) (hn:S.length+R.length≤999) (hm:∀x∈addD S R d,x∈ds)=>add_any (l:=dvs) dc sc_ rc d (hd.st hX) (hz.st hX) (fun y hy=>by have:=hs.2 y hy;omega) (by omega) rs rr hn (fun x hx=>repOk_sz hr x (hm x hx)) (fun x hx=>(hq x (hm x hx)).src (repOk_sz hr x (hm x hx))));rw[hdn]at CP;have CL:=hid (fun(X:World)=>lens_any (.slice pA pn pc) (.slice lA ln lc) v2 (.slice dA dn dc) v8 v9 v10 v11 v12 v13 v14 v15 v16 v17 v18 v19 v20 v21 v22 v23 v24 (kA:=kA) (gA:=gA) kc gc (ks:=ks) (gs:=gs) gap weak X);rw[hkn,hgn]at CL;have CA:=hid (fun(X:World) (hX:Below w.heap.size w X) {A:Option Addr} {S:List Sn} (c:Nat) (hr:Rd encSn 11 X X.heap.size A S) (hk9:kn≤9) (hg9:gn≤12) (hgap:gap≤3600) (hok:∀x∈S,SnOk x) (hnd:(S.map keyS).Nodup) (hl:S.length≤50)=>all_any (S:=S) (.slice none 0 0) (.slice none 0 0) (.slice none 0 0) (.slice none 0 0) (.slice none 0 0) (.int .i64 0) (.slice none 0 0) (.slice none 0 0) (.slice none 0 0) (.slice none 0 0) (.slice none 0 0) (.slice none 0 0) (.slice none 0 0) (.slice none 0 0) (.slice none 0 0) (.slice none 0 0) (.slice none 0 0) (.slice none 0 0) (.int .i64 0) (.slice none 0 0) (.string ⟨#[]⟩) (kA:=kA) (gA:=gA) kc gc c (ks:=ks) (gs:=gs) gap weak hr (hc.st hX) (hg.st hX) (by omega) (by omega) (by omega) hok hnd hl (p10_st h10 hX));rw[hkn,hgn]at CA;have CW:=hid (fun(X:World) (hX:Below w.heap.size w X)=>awake08_any X (p10_st h10 hX));obtain⟨Y1,hY1⟩:∃Y,w.alloc (.cells #[.slice pA pn pc,.slice lA ln lc,v2,.slice dA dn dc,.slice kA kn kc,.slice gA gn gc,.int .i64 gap,.int .i64 weak,v8,v9,v10,v11,v12,v13,v14,v15,v16,v17,v18,v19,v20,v21,v22,v23,v24] 46)=Y:=⟨_,rfl⟩;have HB1:=hid (show Below w.heap.size w Y1 by rw[←hY1];exact(Below.refl _ w).al _);have HC1:=hid (show Blk Y1 w.heap.size #[.slice pA pn pc,.slice lA ln lc,v2,.slice dA dn dc,.slice kA kn kc,.slice gA gn gc,.int .i64 gap,.int .i64 weak,v8,v9,v10,v11,v12,v13,v14,v15,v16,v17,v18,v19,v20,v21,v22,v23,v24] 46 by rw[←hY1];exact Blk.new w _ _);have HD:=hid hb;have HBN:=hid hbn;have HDN:=hid hdn;have HKN:=hid hkn;have HGN:=hid hgn;rw[hpn,hln,hdn,hkn,hgn,hbn];clear hp hk hd hz hc hg hq hl1 hl2 hl3 hl4 hl5 hl6 h10 hpn hln hdn hkn hgn hbn hb;go_enter Tryz.func4,Tryz.ntmps4;have HCX:=HC1;have CD1:=hid (CD.out Y1 HB1.out);clear CD;go_wp2_with(refine wpList_boxLoad rfl (ty:=46) (x:=.tmp 2) (cs:=#[.slice pA pn pc,.slice lA ln lc,v2,.slice dA dn dc,.slice kA kn kc,.slice gA gn gc,.int .i64 gap,.int .i64 weak,v8,v9,v10,v11,v12,v13,v14,v15,v16,v17,v18,v19,v20,v21,v22,v23,v24]) rfl HCX.out rfl ⟨_,Tryz.underlying46,by kernel_rfl⟩ ?_)
 have CF:=CD1.out;with_reducible refine CF.mono ?_
 rintro e W2 ⟨⟨b,rfl,hgood⟩,hb2⟩;have HB2:=hid (HB1.out.st hb2);have HC2:=hid (HC1.out.below hb2 HC1.out.lt);clear CD1 CF HCX HC1 hb2;have HGD:=hid hgood;clear hgood;cases b
 ·have CW1:=hid (CW.out W2 HB2.out);clear CW CL CS CR CA CP;go_wp2_with fail
  have CF:=CW1.out;with_reducible refine CF.mono ?_
  rintro e W3 ⟨rfl,hb3⟩;have HB3:=hid (HB2.out.st hb3);clear CF CW1 hb3;go_wp2_with fail
  go_ret;exact⟨rfl,HB3.out⟩
 ·have CR1:=hid (CR.out W2 HB2.out);have HGE:=hid (HGD.out rfl);clear CR HGD;go_wp2_with fail
  have CF:=CR1.out;with_reducible refine CF.mono ?_
  rintro e W3 ⟨⟨b,rfl,hgood⟩,hb3⟩;have HB3:=hid (HB2.out.st hb3);have HC3:=hid (HC2.out.below hb3 HC2.out.lt);have HRG:=hid hgood;clear CR1 CF HC2 hb3 hgood;cases b
  ·have CW1:=hid (CW.out W3 HB3.out);clear CW CL CS CA CP;go_wp2_with fail
   have CF:=CW1.out;with_reducible refine CF.mono ?_
   rintro e W4 ⟨rfl,hb4⟩;have HB4:=hid (HB3.out.st hb4);clear CF CW1 hb4;go_wp2_with fail
   go_ret;exact⟨rfl,HB4.out⟩
  ·have HRH:=hid (HRG.out rfl);clear HRG;have hbl:(bn:Int)≤24:=by have:=HRH.out.2;rw[HBN.out]at this;exact this
   have HQ9:=hid (show kn≤9∧gn≤12∧gap≤3600 from⟨HGE.out.k,HGE.out.g,HGE.out.gap.2⟩);have CS1:=hid (CS.out W3 HB3.out ⟨by have:=HGE.out.n;rw[HDN.out]at this;exact this,HGE.out.s⟩ HRH.out.1 (by omega));have c3:=HC3.out.cell 3 (v:=.slice dA dn dc) rfl;clear CS;go_upto_region 4 with fail
   have CF:=CS1.out;with_reducible refine CF.mono ?_
   rintro e W4 ⟨S,R,As,Ar,cs,cr,hof,hSl,hRl,rfl,rs,rr,hb4⟩;have HB4:=hid (HB3.out.st hb4);have HC4:=hid (HC3.out.below hb4 HC3.out.lt);have hSl:S.length≤bn:=by rw[←HBN.out];exact hSl
   have hRl:R.length≤bn:=by rw[←HBN.out];exact hRl
   have HOF:=hid hof;have HRS:=hid rs;have HRR:=hid rr;obtain⟨sn,hsn⟩:∃n,S.length=n:=⟨_,rfl⟩;obtain⟨rn,hrn⟩:∃n,R.length=n:=⟨_,rfl⟩;have HSN:=hid hsn;have HRN:=hid hrn;rw[hsn]at hSl ⊢;rw[hrn]at hRl ⊢;have CP1:=hid (fun(X:World) (hX:Below w.heap.size w X)=>CP.out X hX ⟨by have:=HGE.out.n;rw[HDN.out]at this;exact this,HGE.out.s⟩ HRH.out.1);clear CS1 CF HC3 hb4 hof rs rr hsn hrn c3 CP;have HD4:=hid (HD.out.st HB4.out);go_wp2_with fail
   go_loopw [7,8,9] (fun s7 s8 s9 wx=>∃(i:Nat) (S2:List Sn) (R2:List Rj) (Xs Xr:Option Addr) (xs xr:Nat),i≤bn∧s7=.slice Xs S2.length xs∧s8=.slice Xr R2.length xr∧s9=.int .i64 ((i:Int)-1)∧Hid (SiftOf dvs (ds.drop i) S2 R2∧Rd encSn 11 wx wx.heap.size Xs S2∧Rd encRj 8 wx wx.heap.size Xr R2)∧Hid (Below W4.heap.size W4 wx)) (fun _ _ s9 _=>(RowKit.intOf s9+1).toNat)
   case atStart=>exact⟨bn,[],[],_,_,_,_,Nat.le_refl _,rfl,rfl,rfl,hid ⟨by rw[List.drop_of_length_le (Nat.le_of_eq HBN.out)];exact sift_nil _,Rd.nil,Rd.nil⟩,hid (((Below.refl _ W4).al _).al _)⟩
   case round=>
    obtain⟨i,S2,R2,Xs,Xr,xs,xr,hi,rfl,rfl,rfl,HSO,HB⟩:=hrel;cases i with
    |zero=>
     have HEQ:=hid (SiftOf.eq (fun _=>Iff.rfl) HOF.out (by have:=HSO.out.1;rwa [List.drop_zero]at this));obtain⟨rfl,rfl⟩:=HEQ.out;have HS2:=hid HSO.out.2.1;have HR2:=hid HSO.out.2.2;have HB5:=hid (HB4.out.st HB.out);have HCX:=hid (HC4.out.below HB.out HC4.out.lt);have HRS5:=hid (HRS.out.st HB.out);have HRR5:=hid (HRR.out.st HB.out);have CL1:=hid (CL.out wr);rw[HSN.out,HRN.out];clear HEQ HSO CP1 HC4 HD4 HRS HRR hi;have h01:(((0:Nat):Int)-1)= -1:=by omega
     rw[h01];clear h01;go_wp2_with(refine wpList_boxLoad rfl (ty:=46) (x:=.tmp 2) (cs:=#[.slice pA pn pc,.slice lA ln lc,v2,.slice dA dn dc,.slice kA kn kc,.slice gA gn gc,.int .i64 gap,.int .i64 weak,v8,v9,v10,v11,v12,v13,v14,v15,v16,v17,v18,v19,v20,v21,v22,v23,v24]) rfl HCX.out rfl ⟨_,Tryz.underlying46,by kernel_rfl⟩ ?_)
     have CF:=CL1.out;with_reducible refine CF.mono ?_
     rintro e W5 ⟨rfl,hb5⟩;have HB6:=hid (HB5.out.st hb5);have HC6:=hid (HCX.out.below hb5 HCX.out.lt);have CA1:=CA.out W5 HB6.out cs (HRS5.out.st hb5) HQ9.out.1 HQ9.out.2.1 HQ9.out.2.2 (sift_ok HOF.out HRH.out.1) (sift_keys HOF.out) (by rw[HSN.out];omega);rw[HSN.out]at CA1;have CA1:=hid CA1;have HS6:=hid (HS2.out.st hb5);have HR6:=hid (HR2.out.st hb5);have HRR6:=hid (HRR5.out.st hb5);clear CL1 CF HCX HS2 HR2 HRS5 HRR5 HB5 HB hb5;go_wp2_with fail
     have CF:=CA1.out;with_reducible refine CF.mono ?_
     rintro e W6 ⟨⟨qA,qc,ps,mA,mc,ms,rfl,hrp,hps,hsx,hrm,hms,hpl,hml⟩,hb6⟩;have HB7:=hid (HB6.out.st hb6);have HCX:=hid (HC6.out.below hb6 HC6.out.lt);have HS7:=hid (HS6.out.st hb6);have HR7:=hid (HR6.out.st hb6);have HRR7:=hid (HRR6.out.st hb6);have CL2:=hid (CL.out W6);have HP:=hid hrp;have HPS:=hid hps;have HSX:=hid hsx;have HM:=hid hrm;have HMS:=hid hms;have HL1:=hid (And.intro hpl hml);obtain⟨qn,hqn⟩:∃n,ps.length=n:=⟨_,rfl⟩;obtain⟨mn,hmn⟩:∃n,ms.length=n:=⟨_,rfl⟩;have HQN:=hid hqn;have HMN:=hid hmn;rw[hqn,hmn];clear CA1 CF HC6 HS6 HR6 HRR6 HB6 hb6 hrp hps hsx hrm hms hpl hml hqn hmn CL;go_wp2_with(refine wpList_boxLoad rfl (ty:=46) (x:=.tmp 2) (cs:=#[.slice pA pn pc,.slice lA ln lc,v2,.slice dA dn dc,.slice kA kn kc,.slice gA gn gc,.int .i64 gap,.int .i64 weak,v8,v9,v10,v11,v12,v13,v14,v15,v16,v17,v18,v19,v20,v21,v22,v23,v24]) rfl HCX.out rfl ⟨_,Tryz.underlying46,by kernel_rfl⟩ ?_)
     have CF:=CL2.out;with_reducible refine CF.mono ?_
     rintro e W8 ⟨rfl,hb8⟩;have HB8:=hid (HB7.out.st hb8);have CA2:=CA.out W8 HB8.out xs (HS7.out.st hb8) HQ9.out.1 HQ9.out.2.1 HQ9.out.2.2 (sift_ok HOF.out HRH.out.1) (sift_keys HOF.out) (by rw[HSN.out];omega);rw[HSN.out]at CA2;have CA2:=hid CA2;have HR8:=hid (HR7.out.st hb8);have HRR8:=hid (HRR7.out.st hb8);have HP8:=hid (HP.out.st hb8);have HSX8:=hid (fun x hx=>(HSX.out x hx).st hb8);have HM8:=hid (HM.out.st hb8);clear CL2 CF HCX HS7 HR7 HRR7 HP HSX HM HB7 hb8 CA;go_wp2_with fail
     have CF:=CA2.out;with_reducible refine CF.mono ?_
     rintro e W9 ⟨⟨q2A,q2c,ps2,m2A,m2c,ms2,rfl,hrp,hps,hsx,hrm,hms,hpl,hml⟩,hb9⟩;have HB9:=hid (HB8.out.st hb9);obtain rfl:ms2=ms:=hms.trans HMS.out.symm;have hsrc:∀x∈ps,x.v.src.length≤1000000:=fun x hx=>Nat.le_trans (ps_src (kinds_ok (sift_ok HOF.out HRH.out.1)) HPS.out x hx) (by rw[HSN.out];omega);have CG:=samePg16_true qc q2c (HP8.out.st hb9) hrp (HPS.out.trans hps.symm) (fun x hx=>(HSX8.out x hx).st hb9) hsx (by have:=HL1.out.1;omega) hsrc;have C2:=hid (fun(X:World) (hX:Below W9.heap.size W9 X)=>sameRj16_true cr xr ((HRR8.out.st hb9).st hX) ((HR8.out.st hb9).st hX) (by rw[HRN.out];omega));have C3:=hid (fun(X:World) (hX:Below W9.heap.size W9 X)=>sameRj16_true mc m2c ((HM8.out.st hb9).st hX) (hrm.st hX) (by omega));obtain⟨qm,hqm⟩:∃n,ps2.length=n:=⟨_,rfl⟩;rw[HQN.out,hqm]at CG;rw[HRN.out]at C2;rw[HMN.out]at C3;rw[HMN.out,hqm];have CG:=hid CG;clear CA2 CF HR8 HRR8 HP8 HSX8 HM8 HB8 hb9 hrp hps hsx hrm hms hpl hml hqm hsrc;go_wp2_with fail
     have CF:=CG.out;with_reducible refine CF.mono ?_
     rintro e X1 ⟨rfl,g1⟩;have G1:=hid g1;have D2:=hid (C2.out X1 g1);clear CF CG C2 g1;go_wp2_with fail
     have CF:=D2.out;with_reducible refine CF.mono ?_
     rintro e X2 ⟨rfl,g2⟩;have G2:=hid (G1.out.st g2);have D3:=hid (C3.out X2 G2.out);clear CF D2 C3 g2;go_wp2_with fail
     have CF:=D3.out;with_reducible refine CF.mono ?_
     rintro e X3 ⟨rfl,g3⟩;have G3:=hid (HB9.out.st (G2.out.st g3));have CW1:=hid (CW.out X3 G3.out);clear CF D3 g3 CW;go_wp2_with fail
     have CF:=CW1.out;with_reducible refine CF.mono ?_
     rintro e X4 ⟨rfl,g4⟩;have G4:=hid (G3.out.st g4);clear CF CW1 g4;go_wp2_with fail
     go_ret;exact⟨rfl,G4.out⟩
    |succ j=>
     have hj:j<bn:=by omega
     have hjj:(((j+1:Nat):Int)-1)=(j:Int):=by omega
     rw[hjj];obtain⟨b,off,x,hA,hbl,hx,hc⟩:=(HD4.out.st HB.out).at_ (i:=j) (by rw[HBN.out];exact hj);subst hA;have hdr:ds.drop j=x::ds.drop (j+1):=by
      obtain⟨h1,h2⟩:=List.getElem?_eq_some_iff.1 hx;rw[List.drop_eq_getElem_cons h1,h2]
     have hSl2:=sift_len HSO.out.1;rw[List.length_drop,HBN.out]at hSl2;obtain⟨s2n,hs2n⟩:∃n,S2.length=n:=⟨_,rfl⟩;obtain⟨r2n,hr2n⟩:∃n,R2.length=n:=⟨_,rfl⟩;have HME:=hid (show∀y∈addD S2 R2 x,y∈ds from fun y hy=>List.mem_of_mem_drop (i:=j) (by rw[hdr];exact(add_mem HSO.out.1 x y).1 hy));have HNX:=hid (fun(S3:List Sn) (R3:List Rj) (q:SiftOf dvs (addD S2 R2 x) S3 R3)=>show SiftOf dvs (ds.drop j) S3 R3 by rw[hdr];exact sift_add HSO.out.1 q);obtain⟨a1,a2,a3,a4,a5,a6,a7⟩:=x;have CQ:=fun(X:World) (hX:Below wr.heap.size wr X)=>CP1.out X (HB4.out.st (HB.out.st hX)) S2 R2 Xs Xr xs xr ⟨a1,a2,a3,a4,a5,a6,a7⟩ (HSO.out.2.1.st hX) (HSO.out.2.2.st hX) (by omega) HME.out;rw[hs2n,hr2n]at CQ;simp only[DtV]at CQ;have CQ:=hid CQ;have HSA:=hid (show∀X,Below W4.heap.size W4 X→(fun X:World=>X.cell? ⟨w.heap.size,3,none⟩=some (.slice dA dn dc)∧X.cell? ⟨b,off+j*7,none⟩=some (.string a1)∧X.cell? ⟨b,off+j*7+1,none⟩=some (.int .i64 a2)∧X.cell? ⟨b,off+j*7+2,none⟩=some (.int .i64 a3)∧X.cell? ⟨b,off+j*7+3,none⟩=some (.string a4)∧X.cell? ⟨b,off+j*7+4,none⟩=some (.string a5)∧X.cell? ⟨b,off+j*7+5,none⟩=some (.int .i64 a6)∧X.cell? ⟨b,off+j*7+6,none⟩=some (.int .i64 a7)) X from fun X hX=>by
      have hr:=HD4.out.st hX;refine⟨(HC4.out.below hX HC4.out.lt).cell 3 (v:=.slice dA dn dc) rfl,?_,?_,?_,?_,?_,?_,?_⟩
      ·have:=hr.cellAt hx (j:=0) rfl;simpa using this
      ·exact hr.cellAt hx (j:=1) rfl
      ·exact hr.cellAt hx (j:=2) rfl
      ·exact hr.cellAt hx (j:=3) rfl
      ·exact hr.cellAt hx (j:=4) rfl
      ·exact hr.cellAt hx (j:=5) rfl
      ·exact hr.cellAt hx (j:=6) rfl)
     have HI:=hid hj;rw[hs2n,hr2n];have j0:(0:Int)≤(j:Int):=by omega
     have j1:(j:Int)<(bn:Int):=by omega
     have j2:decide (j<bn)=true:=decide_eq_true hj;clear hc hbl hx hdr hSl2 hs2n hr2n hj hi HSO hjj;go_upto_region 9 with fail
     refine wp_region_held_drew (S:=(fun X:World=>X.cell? ⟨w.heap.size,3,none⟩=some (.slice dA dn dc)∧X.cell? ⟨b,off+j*7,none⟩=some (.string a1)∧X.cell? ⟨b,off+j*7+1,none⟩=some (.int .i64 a2)∧X.cell? ⟨b,off+j*7+2,none⟩=some (.int .i64 a3)∧X.cell? ⟨b,off+j*7+3,none⟩=some (.string a4)∧X.cell? ⟨b,off+j*7+4,none⟩=some (.string a5)∧X.cell? ⟨b,off+j*7+5,none⟩=some (.int .i64 a6)∧X.cell? ⟨b,off+j*7+6,none⟩=some (.int .i64 a7))) (by kernel_rfl) (HSA.out wr HB.out) (fun hHeld=> ?_);have bD:Below wr.heap.size wr wr.drew:=(Below.refl _ wr).drew;have bD4:Below W4.heap.size W4 wr.drew:=HB.out.drew;have hSS:=HSA.out _ bD4;obtain⟨V0,hV0⟩:∃V,wr.drew=V:=⟨_,rfl⟩;rw[hV0]at hHeld hSS bD bD4 ⊢;clear hV0;change wpAnyH _ _ _ _ _ 14 _ _ _;refine tk 0 (h:= ?_);refine tk 1 (h:= ?_);refine tk 2 (h:= ?_);refine tk 3 (h:= ?_);refine tk 4 (h:= ?_);refine tk 5 (h:= ?_);refine tk 6 (h:= ?_);refine tk 7 (h:= ?_);refine rd1 8 (h:=fun K hK=> ?_);rw[if_pos (by rfl)];go_wp2_with fail
     have CF:=CQ.out V0 bD;with_reducible refine CF.mono ?_
     rintro e W5 ⟨S3,R3,Ys,Yr,ys,yr,hof,hl1,hl2,rfl,rs,rr,hb5⟩;have bD5:=bD4.st hb5;go_wp2_with fail
     refine hK.out _ _ (HSA.out W5 bD5) (fun hHeld=> ?_);clear hK K hSS;have hSS:=HSA.out W5 bD5;refine td (h:= ?_);refine tk 9 (h:= ?_);refine tk 10 (h:= ?_);refine tk 11 (h:= ?_);refine tk 12 (h:= ?_);refine tk 13 (h:= ?_);refine wpAnyH_done (by kernel_rfl) ?_ _;have HB5:=hid bD5;have HOF5:=hid (And.intro (HNX.out S3 R3 hof) (And.intro rs rr));clear hHeld hSS bD bD4 bD5 hb5 CF CQ hof rs rr hl1 hl2;go_wp2_with fail
     go_roundw
     case rel=>exact⟨j,S3,R3,Ys,Yr,ys,yr,Nat.le_of_lt HI.out,rfl,rfl,by go_num,HOF5,HB5⟩
     case measure=>simp[RowKit.intOf]
end
section
open Go.ChangeShapes Go.WideShapes Go.ChangeAt Go.RowKit
theorem topAdded_laid:laidOutB Tryz.checked.prog=true:=by kernel_rfl
theorem topAdded_mapsRowed:mapsRowed Tryz.checked.prog=true:=by kernel_rfl
theorem topAdded_wf:Rows.topAddedRow.wf (OpenSpec.ofChange Rows.topAddedSpec)=true:=by kernel_rfl
theorem topAdded_namedTie:namedTie Tryz.checked.prog Rows.topAddedRow.named Rows.topAddedSpec.vars=true:=by kernel_rfl
theorem topAdded_inPlace:(Rows.topAddedRow.inPlace==Tryz.checked.prog.inPlace 4)=true:=by kernel_rfl
theorem topAdded_unfollowed:(Rows.topAddedRow.unfollowed==Tryz.checked.prog.unfollowed 4)=true:=by kernel_rfl
theorem topAdded_recurses:(Rows.topAddedRow.recurses==Tryz.checked.prog.recurses 4)=true:=by kernel_rfl
theorem topAdded_named:(Rows.topAddedRow.named==Tryz.checked.prog.varsNamed 4)=true:=by kernel_rfl
theorem topAdded_plainKeys:(Rows.topAddedRow.plainKeys==Tryz.checked.prog.plainKeys)=true:=by kernel_rfl
theorem topAdded_facts:joinedFacts Tryz.checked.prog 4 Tryz.f4 Rows.topAddedSpec Rows.topAddedRow=true:=by
 unfold joinedFacts;repeat' (with_reducible refine Bool.and_eq_true_iff.2 ⟨?_,?_⟩)
 all_goals first
  |(with_reducible exact topAdded_laid)
  |(with_reducible exact topAdded_mapsRowed)
  |(with_reducible exact topAdded_wf)
  |(with_reducible exact topAdded_namedTie)
  |(with_reducible exact topAdded_inPlace)
  |(with_reducible exact topAdded_unfollowed)
  |(with_reducible exact topAdded_recurses)
  |(with_reducible exact topAdded_named)
  |(with_reducible exact topAdded_plainKeys)
  |kernel_rfl
end
end Go.Proofs.YtimffppffbideaaGreatDoor
