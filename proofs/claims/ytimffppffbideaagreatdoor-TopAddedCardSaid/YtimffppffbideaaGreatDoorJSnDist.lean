import Derived.Test.YtimffppffbideaaGreatDoorJBelX
import Derived.Deep.DeepCutAuto
set_option linter.unusedSimpArgs false
set_option linter.unusedVariables false
set_option maxRecDepth 100000
set_option maxHeartbeats 8000000
namespace Go.Proofs.YtimffppffbideaaGreatDoor
section
open Go.RowKit Go.Lib
open Mat
theorem dist_any (a b:ByteArray)(ha:a.size≤32)(hb:b.size≤32)(w:World):Calls Tryz.prog 177 #[.string a,.string b] w fun e w'=>e=.returned (.int .i64 (distS a b))∧Below w.heap.size w w':=by
 have FA:=hid (first_any a ha w);have FB:=hid (first_any b hb w);have HD:=hid (show rowD a b a.size b.size=distS a b by unfold distS;rw[show min a.size 32=a.size by omega,show min b.size 32=b.size by omega]);have CL:=hid (fun(x y:UInt8) (X:World)=>like_any x y X);have hRB:=hid (fun i j=>rowD_rng a b i j);generalize distS a b=dd at*;obtain⟨m,hm⟩:∃m,b.size=m:=⟨_,rfl⟩;obtain⟨n,hn⟩:∃n,a.size=n:=⟨_,rfl⟩;go_enter Tryz.func177,Tryz.ntmps177;go_wp2_with fail
 refine FA.out.mono ?_;rintro e w' ⟨rfl,hw'⟩;rw[hw'];clear hw' w';go_wp2_with fail
 refine FB.out.mono ?_;rintro e w' ⟨rfl,hw'⟩;rw[hw'];clear hw' w' FA FB;have e1:IntKind.i64.wrap ((m:Int)+1)=((m+1:Nat):Int):=(IntWalk.i64_in _ (by omega)).trans (by omega);go_wp2_with(refine wpList_makeZ rfl (.tmp 17) (.tmp 17) tyI encI_ok rfl w.heap.size 0 (.int .i64 0) (by kernel_rfl) rfl .i64 .i64 (m+1) rfl rfl (by omega) (by omega) (Nat.le_refl _) ?_;intro w7 hown hb7 hs7)
 have HFR:=hid (show rowD a b 0=fun j:Nat=>3*(j:Int)from by funext j;rfl);obtain⟨f0,hf0⟩:∃f,rowD a b 0=f:=⟨_,rfl⟩;have HF0:=hid (fun j=>congrFun (hf0.symm.trans HFR.out) j);rw[prt_zero f0]at hown;obtain⟨g0,hg0⟩:∃g,w.heap.size=g:=⟨_,rfl⟩;have HG0:=hid hg0;have hb8:=hb7;rw[hg0]at hown hb7 hs7;clear HFR hb8;go_loopw [21] (fun sj wr=>∃j:Nat,j≤m+1∧sj=.int .i64 j∧Own 3 encI 1 wr g0 (some ⟨g0,0,none⟩) (m+1) (prt f0 (m+1) j)∧Below g0 w wr) (fun sj _=>m+1-(RowKit.intOf sj).toNat)
 case atStart=>exact⟨0,Nat.zero_le _,rfl,hown,hb7⟩
 case round=>
  clear hown hb7 hs7;obtain⟨j,hj,rfl,hown,hb7⟩:=hrel;by_cases hi:j<m+1
  ·have c0:=hown.cells encI_ok rfl (i:=j) (prt_at f0 hi) (j:=0) rfl;have fz:=hown.frozen rfl j;have HS:Hid (Own 3 encI 1 (wr.setCell ⟨g0,j,none⟩ (.int .i64 (f0 j))) g0 (some ⟨g0,0,none⟩) (m+1) (prt f0 (m+1) (j+1))):=hid (by
    have:=hown.stored encI_ok rfl (prt_at f0 hi) (j:=0) (u:=.int .i64 (f0 j)) (y:=f0 j) (by omega) rfl
    rw[prt_set f0 hi]at this;simpa using this)
   have HBL:Hid (Below g0 w (wr.setCell ⟨g0,j,none⟩ (.int .i64 (f0 j)))):=hid (hb7.setCell (p:=⟨g0,j,none⟩) (Nat.le_refl _) _);simp only[Nat.mul_one,Nat.add_zero]at c0;have i1:(0:Int)≤(j:Int):=by omega
   have i2:(j:Int)<((m+1:Nat):Int):=by omega
   have e3:IntKind.i64.wrap (3*(j:Int))=3*(j:Int):=IntWalk.i64_in _ (by omega);have HI:=hid hi;rw[show f0 j=3*(j:Int)from HF0.out j]at HS HBL;clear hown hb7;go_wp2_with fail
   go_roundw
   case rel=>exact⟨j+1,HI.out,by go_num,HS.out,HBL.out⟩
   case measure=>have:=HI.out;simp[RowKit.intOf];omega
  ·obtain rfl:j=m+1:=by omega
   simp only[Int.natCast_add,Int.natCast_one];rw[prt_full]at hown;have HR0:=hid (hown.rd encI_ok);have hbw:Below w.heap.size w wr:=by rw[hg0];exact hb7
   have HBW:=hid hbw;rw[←hf0]at HR0;clear hown hb7 hi hj HF0 hf0 hbw hg0;go_wp2_with fail
   go_loopw [32,5] (fun si sr wx=>∃(i:Nat) (A:Option Addr) (c:Nat),i≤n∧si=.int .i64 i∧sr=.slice A (m+1) c∧Hid (Rd encI 1 wx wx.heap.size A ((List.range (m+1)).map (rowD a b i)))∧Hid (Below w.heap.size w wx)) (fun si _ _=>n-(RowKit.intOf si).toNat)
   case atStart=>exact⟨0,_,_,Nat.zero_le _,rfl,rfl,by rw[HG0.out];exact HR0,HBW⟩
   case round=>
    clear HR0 HBW;obtain⟨wo,hwo⟩:∃wo,wo=wr:=⟨_,rfl⟩;obtain⟨i,A,c,hi,rfl,rfl,HR,HBW⟩:=hrel;rw[←hwo]at HR HBW ⊢;clear hwo;by_cases hin:i<n
    ·have HIN:=hid hin;obtain⟨x,hx⟩:∃x:UInt8,a[i]'(by rw[hn];exact hin)=x:=⟨_,rfl⟩;have hxg:a.get! i=x:=(get_at2 a i (by rw[hn];exact hin)).trans hx;obtain⟨f,hf⟩:∃f,rowD a b i=f:=⟨_,rfl⟩;obtain⟨f1,hf1⟩:∃f,rowD a b (i+1)=f:=⟨_,rfl⟩;have HF1Z:=hid (show f1 0=3*((i:Int)+1) by rw[←hf1];rfl);have HF1S:=hid (fun j=>show f1 (j+1)=min (min (f j+chgB x (b.get! j)) (f (j+1)+3)) (f1 j+3) by rw[←hf1,←hf,←hxg];rfl);have HB0:=hid (fun j=>hf▸hRB.out i j);have HB1:=hid (fun j=>hf1▸hRB.out (i+1) j);have HF1:=hid hf1;rw[hf]at HR;obtain⟨g1,hg1⟩:∃g,wo.heap.size=g:=⟨_,rfl⟩;have HG1:=hid hg1;have i1:(0:Int)≤(i:Int):=by omega
     have i2:(i:Int)<(n:Int):=by omega
     have e2:IntKind.i64.wrap ((i:Int)+1)=(i:Int)+1:=IntWalk.i64_in _ (by omega);have e3:IntKind.i64.wrap (3*((i:Int)+1))=f1 0:=(IntWalk.i64_in _ (by omega)).trans HF1Z.out.symm;clear hxg hf hf1 hi hg1;go_wp2_with(refine wpList_makeZ rfl (.tmp 37) (.tmp 37) tyI encI_ok rfl wo.heap.size 0 (.int .i64 0) (by kernel_rfl) rfl .i64 .i64 (m+1) rfl rfl (by omega) (by omega) (Nat.le_refl _) ?_;intro w8 hown hb8 hs8;rw[HG1.out]at hown hb8 hs8 ⊢;rw[prt_zero f1]at hown;have c0:=hown.cells encI_ok rfl (i:=0) (prt_at f1 (show 0<m+1 by omega)) (j:=0) rfl;have fz:=hown.frozen rfl 0;have HS:=hid (hown.stored encI_ok rfl (prt_at f1 (show 0<m+1 by omega)) (j:=0) (u:=.int .i64 (f1 0)) (y:=f1 0) (by omega) rfl);have HBL:=hid (hb8.setCell (p:=⟨g1,0,none⟩) (Nat.le_refl _) (.int .i64 (f1 0)));simp only[Nat.mul_one,Nat.add_zero,Nat.zero_mul,prt_set f1 (show 0<m+1 by omega)]at c0 HS HBL;clear hown hb8 hs8)
     go_loopw [46] (fun sj wx=>∃j:Nat,j≤m∧sj=.int .i64 j∧Own 3 encI 1 wx g1 (some ⟨g1,0,none⟩) (m+1) (prt f1 (m+1) (j+1))∧Below g1 wo wx) (fun sj _=>m-(RowKit.intOf sj).toNat)
     case atStart=>exact⟨0,Nat.zero_le _,rfl,HS.out,HBL.out⟩
     case round=>
      clear HS HBL c0 fz;obtain⟨j,hj,rfl,hown,hb8⟩:=hrel;by_cases hjm:j<m
      ·have HJM:=hid hjm;obtain⟨y,hy⟩:∃y:UInt8,b[j]'(by rw[hm];exact hjm)=y:=⟨_,rfl⟩;have hyg:b.get! j=y:=(get_at2 b j (by rw[hm];exact hjm)).trans hy;have HS1:=hid (HF1S.out j);rw[hyg]at HS1;have j1:(0:Int)≤(j:Int):=by omega
       have j2:(j:Int)<(m:Int):=by omega
       have HO:=hid hown;have HB8:=hid hb8;have CK:=hid (CL.out x y);clear hown hb8 hyg hj;go_upto_region 17 with fail
       go_cut [55] (fun s55 wc=>s55=.bool ((x.toNat:Int)==(y.toNat:Int))∧∃q,wc=wr.drewN q)
       case first=>
        go_quiet(fail)
        go_wp2_with fail
        go_meet;exact⟨rfl,_,rfl⟩
       case rest=>
        obtain⟨rfl,q,rfl⟩:=hcut;have HO:=hid (HO.out.drewN q);have HB8:=hid (below_drewN HB8.out q);obtain⟨W,hW⟩:∃W,wr.drewN q=W:=⟨_,rfl⟩;rw[hW]at HO HB8 ⊢;clear hW;go_upto_if 55 with fail
        go_cut [10] (fun s10 wc=>s10=.int .i64 (chgB x y)∧Hid (Below W.heap.size W wc))
        case first=>
         by_cases hxy:x=y
         ·have q:((x.toNat:Int)==(y.toNat:Int))=true:=by rw[hxy];simp
          have R:=hid (show chgB x y=0 by unfold chgB;rw[if_pos hxy]);clear hxy;go_wp2_with fail
          go_meet;exact⟨by rw[R.out],Below.refl _ _⟩
         ·have q:((x.toNat:Int)==(y.toNat:Int))=false:=by
           rw[beq_eq_false_iff_ne];intro e;exact hxy (UInt8.toNat_inj.1 (by omega))
          have R1:=hid (fun h:likeB x y=true=>show chgB x y=1 by unfold chgB;rw[if_neg hxy,if_pos h]);have R0:=hid (fun h:likeB x y=false=>show chgB x y=3 by unfold chgB;rw[if_neg hxy,if_neg (by rw[h];simp)]);clear hxy;go_upto_region 19 with fail
          refine wp_region_held_drew (S:=fun _=>True) (by kernel_rfl) trivial (fun hHeld=> ?_);have HBD:=hid ((Below.refl W.heap.size W).drew);generalize W.drew=V0 at*;change wpAnyH _ _ _ _ _ 7 _ _ _;refine tk 0 (h:= ?_);refine tk 1 (h:= ?_);refine tk 2 (h:= ?_);refine tk 3 (h:= ?_);refine tk 4 (h:= ?_);refine tk 5 (h:= ?_);refine rd1 6 (h:=fun K hK=> ?_);rw[if_pos (by rfl)];go_wp2_with fail
          refine(CK.out V0).mono ?_;rintro e W6 ⟨rfl,hbn⟩;have HBD:=hid (HBD.out.trans (hbn.mono HBD.out.size));clear hbn;go_wp2_with fail
          refine hK.out _ _ trivial (fun hHeld=> ?_);clear hK K;refine td (h:= ?_);refine wpAnyH_done (by kernel_rfl) ?_ _;cases hlk:likeB x y
          ·have R0:=hid (R0.out hlk);clear hlk R1;go_wp2_with fail
           go_meet;exact⟨by rw[R0.out],HBD.out⟩
          ·have R1:=hid (R1.out hlk);clear hlk R0;go_wp2_with fail
           go_meet;exact⟨by rw[R1.out],HBD.out⟩
        case rest=>
         obtain⟨rfl,hbn⟩:=hcut;have HC:=hid (chgB_rng x y);obtain⟨ch,hch⟩:∃ch,chgB x y=ch:=⟨_,rfl⟩;rw[hch]at HC HS1 ⊢;have HO:=hid (HO.out.keep hbn.out (Nat.le_refl _));have HB8:=hid (HB8.out.trans (hbn.out.mono (by have:=HB8.out.size;have:=HG1.out;omega)));clear hch hbn;obtain⟨rb,ro,x0,rfl,hrb,hx0,hc0⟩:=HR.out.at_ (i:=j) (by simp;omega);obtain⟨rb2,ro2,x1,hA1,-,hx1,hc1⟩:=HR.out.at_ (i:=j+1) (by simp;omega);injection hA1 with q;injection q with q1 q2;subst q1;subst q2;rw[range_at f (by omega)]at hx0;rw[range_at f (by omega)]at hx1;injection hx0 with hx0;injection hx1 with hx1;subst hx0;subst hx1;have hrb2:rb<g1:=by have:=HG1.out;omega
         have y0:wc.cell? ⟨rb,ro+j,none⟩=some (.int .i64 (f j)):=(HB8.out.cell (p:=⟨rb,_,none⟩) hrb2).trans (by simpa using hc0 0 _ rfl);have y1:wc.cell? ⟨rb,ro+(j+1),none⟩=some (.int .i64 (f (j+1))):=(HB8.out.cell (p:=⟨rb,_,none⟩) hrb2).trans (by simpa using hc1 0 _ rfl);have z0:wc.cell? ⟨g1,j,none⟩=some (.int .i64 (f1 j)):=by
          have:=HO.out.cells encI_ok rfl (prt_at f1 (show j<m+1 by omega)) (j:=0) rfl
          simpa using this
         have z1:wc.cell? ⟨g1,j+1,none⟩=some (.int .i64 0):=by
          have:=HO.out.cells encI_ok rfl (prt_at f1 (show j+1<m+1 by omega)) (j:=0) rfl
          simpa using this
         have z2:=HO.out.frozen rfl (j+1);have b0:=HB0.out j;have b1:=HB0.out (j+1);have b2:=HB1.out j;have hcr:=HC.out;obtain⟨r0,hr0⟩:∃r,f j=r:=⟨_,rfl⟩;obtain⟨r1,hr1⟩:∃r,f (j+1)=r:=⟨_,rfl⟩;obtain⟨r2,hr2⟩:∃r,f1 j=r:=⟨_,rfl⟩;rw[hr0]at y0 b0 HS1;rw[hr1]at y1 b1 HS1;rw[hr2]at z0 b2 HS1;have w0:IntKind.i64.wrap (r0+ch)=r0+ch:=IntWalk.i64_in _ (by omega);have w1:IntKind.i64.wrap (r1+3)=r1+3:=IntWalk.i64_in _ (by omega);have w2:IntKind.i64.wrap (r2+3)=r2+3:=IntWalk.i64_in _ (by omega);have w3:IntKind.i64.wrap ((j:Int)+1)=(j:Int)+1:=IntWalk.i64_in _ (by omega);have k1:(0:Int)≤(j:Int)+1:=by omega
         have k2:(j:Int)<(m:Int)+1:=by omega
         have k3:(j:Int)+1<(m:Int)+1:=by omega
         clear hr0 hr1 hr2 hc0 hc1 hrb hrb2 b0 b1 b2 hcr;go_upto_region 21 with fail
         go_region
         rw[show(if r2+3<if r1+3<r0+ch then r1+3 else r0+ch then r2+3 else if r1+3<r0+ch then r1+3 else r0+ch)=f1 (j+1) by rw[HS1.out];split<;>split<;>omega];have HS:Hid (Own 3 encI 1 (wc.setCell ⟨g1,j+1,none⟩ (.int .i64 (f1 (j+1)))) g1 (some ⟨g1,0,none⟩) (m+1) (prt f1 (m+1) (j+1+1))):=hid (by
          have:=HO.out.stored encI_ok rfl (prt_at f1 (show j+1<m+1 by omega)) (j:=0) (u:=.int .i64 (f1 (j+1))) (y:=f1 (j+1)) (by omega) rfl
          rw[prt_set f1 (show j+1<m+1 by omega)]at this;simpa using this)
         have HBL:Hid (Below g1 wo (wc.setCell ⟨g1,j+1,none⟩ (.int .i64 (f1 (j+1))))):=hid (HB8.out.setCell (p:=⟨g1,j+1,none⟩) (Nat.le_refl _) _);obtain⟨V,hV⟩:∃V,wc.setCell ⟨g1,j+1,none⟩ (.int .i64 (f1 (j+1)))=V:=⟨_,rfl⟩;rw[hV]at HS HBL ⊢;clear hV HO HB8 y0 y1 z0 z1 z2;go_wp2_with fail
         go_roundw
         case rel=>exact⟨j+1,HJM.out,by go_num,HS.out.drew,HBL.out.drew⟩
         case measure=>have:=HJM.out;simp[RowKit.intOf];omega
      ·obtain rfl:m=j:=by omega
       rw[prt_full,←HF1.out]at hown;have HRN:=hid (hown.rd encI_ok);have HBN:=hid (HBW.out.trans (hb8.mono (by have:=HBW.out.size;have:=HG1.out;omega)));clear hown hb8 hjm;go_wp2_with fail
       go_roundw
       case rel=>exact⟨i+1,_,_,HIN.out,by go_num,rfl,HRN,HBN⟩
       case measure=>have:=HIN.out;simp[RowKit.intOf];omega
    ·obtain rfl:i=n:=by omega
     obtain⟨rb,ro,x0,rfl,hrb,hx0,hc0⟩:=HR.out.at_ (i:=m) (by simp);rw[range_at _ (by omega)]at hx0;injection hx0 with hx0;subst hx0;have y0:wo.cell? ⟨rb,ro+m,none⟩=some (.int .i64 (rowD a b i m)):=by simpa using hc0 0 _ rfl
     rw[←hn,←hm,HD.out,hm]at y0;have k1:(m:Int)<(m:Int)+1:=by omega
     have HBW:=HBW;clear hc0 hrb hin;go_wp2_with fail
     go_ret;exact⟨rfl,HBW.out⟩
theorem same_any (a b:ByteArray)(ha:a.size≤32)(hb:b.size≤32)(w:World):Calls Tryz.prog 174 #[.string a,.string b] w fun e w'=>e=.returned (.bool (sameB a b))∧Below w.heap.size w w':=by
 have CD:=hid (dist_any a b ha hb w);unfold sameB;obtain⟨d,hd⟩:∃d,distS a b=d:=⟨_,rfl⟩;rw[hd]at CD ⊢;clear hd;go_enter Tryz.func174,Tryz.ntmps174;go_wp2_with fail
 refine CD.out.mono ?_;rintro e w' ⟨rfl,hbn⟩;have HB:=hid hbn;clear hbn;go_wp2_with fail
 go_ret;exact⟨rfl,HB.out⟩
end
section
open Go.RowKit Go.Lib
open Mat
structure SnOk (s:Sn):Prop where
 t0:0≤s.t
 t1:s.t≤68719476736
 c0:0≤s.d.sc
 c1:s.d.sc≤1000
 q0:0≤s.d.seq
 q1:s.d.seq≤2147483648
 pl:s.d.pl.size≤32
 dv:s.d.dev.size≤100
 tg:s.d.tag.size≤100
 kd:s.kind=1∨s.kind=2∨s.kind=3
theorem near_any (a b g:Int)(ha:0≤a∧a≤1000000000000)(hb:0≤b∧b≤1000000000000)(hg:g≤1000000000000)(w:World):Calls Tryz.prog 125 #[.int .i64 a,.int .i64 b,.int .i64 g] w fun e w'=>e=.returned (.bool (nearB a b g))∧w'=w:=by
 have w1:IntKind.u64.wrap (max a b)=max a b:=IntWalk.u64_in _ (by omega);have w2:IntKind.u64.wrap (min a b)=min a b:=IntWalk.u64_in _ (by omega);have w3:IntKind.u64.wrap (max a b-min a b)=max a b-min a b:=IntWalk.u64_in _ (by omega);have w4:IntKind.u64.wrap (max g 0)=max g 0:=IntWalk.u64_in _ (by omega);have R:=hid (show nearB a b g=decide (max a b-min a b≤max g 0)from rfl);clear ha hb hg;go_enter Tryz.func125,Tryz.ntmps125;go_wp2;go_ret;exact⟨by rw[R.out];rfl,rfl⟩
theorem distance_any (a b:Int)(ha:0≤a∧a≤1000000000000)(hb:0≤b∧b≤1000000000000)(w:World):Calls Tryz.prog 160 #[.int .i64 a,.int .i64 b] w fun e w'=>e=.returned (.int .i64 (distI a b))∧w'=w:=by
 have w3:IntKind.i64.wrap (max a b-min a b)=max a b-min a b:=IntWalk.i64_in _ (by omega);have R:=hid (show distI a b=max a b-min a b from rfl);clear ha hb;go_enter Tryz.func160,Tryz.ntmps160;go_wp2;go_ret;exact⟨by rw[R.out];rfl,rfl⟩
theorem lacks_any (s:Sn)(h:SnOk s)(w:World):Calls Tryz.prog 175 #[SnV s] w fun e w'=>e=.returned (.int .i64 (lacksV s))∧Below w.heap.size w w':=by
 have h0:=h.c0;have h1:=h.c1;have w1:IntKind.i64.wrap (1000-min (max s.d.sc 0) 1000)=1000-min (max s.d.sc 0) 1000:=IntWalk.i64_in _ (by omega);have w2:IntKind.i64.wrap ((1000-min (max s.d.sc 0) 1000).tdiv 10)=(1000-min (max s.d.sc 0) 1000)/10:=IntWalk.i64_quo _ _ (by omega);have R:=hid (show lacksV s=(1000-min (max s.d.sc 0) 1000)/10 from rfl);obtain⟨⟨a1,a2,a3,a4,a5,a6,a7⟩,at_,ap,al,ak⟩:=s;simp only[SnV]at w1 w2 R h0 h1 ⊢;obtain⟨Y1,hY1⟩:∃Y,w.alloc (.cells #[.string a1,.int .i64 a2,.int .i64 a3,.string a4,.string a5,.int .i64 a6,.int .i64 a7,.int .i64 at_,.string ap,.int .i64 al,.int .i64 ak] 84)=Y:=⟨_,rfl⟩;have bY:Below w.heap.size w Y1:=by rw[←hY1];exact(Below.refl _ w).al _
 have BA:Blk Y1 w.heap.size #[.string a1,.int .i64 a2,.int .i64 a3,.string a4,.string a5,.int .i64 a6,.int .i64 a7,.int .i64 at_,.string ap,.int .i64 al,.int .i64 ak] 84:=by rw[←hY1];exact Blk.new w _ _
 have z6:=BA.cell 6 (v:=.int .i64 a7) rfl;have HB:=hid bY;clear h h0 h1 BA bY;go_enter Tryz.func175,Tryz.ntmps175;go_wp2;go_ret;exact⟨by rw[R.out];rfl,HB.out⟩
theorem close_any (a b:Sn)(g:Int)(ha:SnOk a)(hb:SnOk b)(hg:g≤1000000000000)(w:World):Calls Tryz.prog 95 #[SnV a,SnV b,.int .i64 g] w fun e w'=>e=.returned (.bool (closeB g a b))∧Below w.heap.size w w':=by
 have CN:=hid (fun(X:World)=>near_any a.t b.t g ⟨ha.t0,by have:=ha.t1;omega⟩ ⟨hb.t0,by have:=hb.t1;omega⟩ hg X);have R:=hid (show closeB g a b=(eqS a.pt b.pt&&nearB a.t b.t g)from rfl);obtain⟨⟨a1,a2,a3,a4,a5,a6,a7⟩,at_,ap,al,ak⟩:=a;obtain⟨⟨b1,b2,b3,b4,b5,b6,b7⟩,bt_,bp,bl,bk⟩:=b;simp only[SnV]at R CN ⊢;obtain⟨Y1,hY1⟩:∃Y,w.alloc (.cells #[.string a1,.int .i64 a2,.int .i64 a3,.string a4,.string a5,.int .i64 a6,.int .i64 a7,.int .i64 at_,.string ap,.int .i64 al,.int .i64 ak] 84)=Y:=⟨_,rfl⟩;obtain⟨Y2,hY2⟩:∃Y,Y1.alloc (.cells #[.string b1,.int .i64 b2,.int .i64 b3,.string b4,.string b5,.int .i64 b6,.int .i64 b7,.int .i64 bt_,.string bp,.int .i64 bl,.int .i64 bk] 84)=Y:=⟨_,rfl⟩;have s1:Y1.heap.size=w.heap.size+1:=(by rw[←hY1];simp);have bY:Below w.heap.size w Y2:=(by rw[←hY2,←hY1];exact((Below.refl _ w).al _).al _);have BA:Blk Y2 w.heap.size #[.string a1,.int .i64 a2,.int .i64 a3,.string a4,.string a5,.int .i64 a6,.int .i64 a7,.int .i64 at_,.string ap,.int .i64 al,.int .i64 ak] 84:=(by rw[←hY2,←hY1];exact(Blk.new w _ _).alloc _);have BB:Blk Y2 (w.heap.size+1) #[.string b1,.int .i64 b2,.int .i64 b3,.string b4,.string b5,.int .i64 b6,.int .i64 b7,.int .i64 bt_,.string bp,.int .i64 bl,.int .i64 bk] 84:=(by rw[←s1,←hY2];exact Blk.new Y1 _ _);have a0:=BA.cell 7 (v:=.int .i64 at_) rfl;have a1':=BA.cell 8 (v:=.string ap) rfl;have b0:=BB.cell 7 (v:=.int .i64 bt_) rfl;have b1':=BB.cell 8 (v:=.string bp) rfl;have HB:=hid bY;have te:(ap.toList==bp.toList)=eqS ap bp:=rfl;obtain⟨nb,hnb⟩:∃nb,nearB at_ bt_ g=nb:=⟨_,rfl⟩;rw[hnb]at CN R;clear ha hb BA BB bY hnb;cases hq:eqS ap bp
 ·rw[hq]at te R;clear hq;go_enter Tryz.func95,Tryz.ntmps95;go_wp2_with fail
  go_ret;rw[R.out];exact⟨rfl,HB.out⟩
 ·rw[hq]at te R;clear hq;go_enter Tryz.func95,Tryz.ntmps95;go_wp2_with fail
  refine(CN.out _).mono ?_;rintro e w' ⟨rfl,hw'⟩;rw[hw'];clear hw' w';go_wp2_with fail
  go_ret;rw[R.out];exact⟨by simp,HB.out⟩
theorem joins_any (a b:Sn)(ha:SnOk a)(hb:SnOk b)(w:World):Calls Tryz.prog 151 #[SnV a,SnV b] w fun e w'=>e=.returned (.bool (joinsB a b))∧Below w.heap.size w w':=by
 have CS:=hid (fun(X:World)=>same_any a.d.pl b.d.pl ha.pl hb.pl X);have R0:=hid (fun q:¬a.kind=b.kind=>show joinsB a b=false by unfold joinsB;rw[if_neg q]);have R1:=hid (fun(q:a.kind=b.kind) (q1:b.kind=1)=>show joinsB a b=eqS a.d.tag b.d.tag by unfold joinsB;rw[if_pos q,if_pos q1]);have R2:=hid (fun(q:a.kind=b.kind) (q1:¬b.kind=1)=>show joinsB a b=sameB a.d.pl b.d.pl by unfold joinsB;rw[if_pos q,if_neg q1]);generalize joinsB a b=r at*;obtain⟨⟨a1,a2,a3,a4,a5,a6,a7⟩,at_,ap,al,ak⟩:=a;obtain⟨⟨b1,b2,b3,b4,b5,b6,b7⟩,bt_,bp,bl,bk⟩:=b;simp only[SnV]at R0 R1 R2 CS ⊢;obtain⟨Y1,hY1⟩:∃Y,w.alloc (.cells #[.string a1,.int .i64 a2,.int .i64 a3,.string a4,.string a5,.int .i64 a6,.int .i64 a7,.int .i64 at_,.string ap,.int .i64 al,.int .i64 ak] 84)=Y:=⟨_,rfl⟩;obtain⟨Y2,hY2⟩:∃Y,Y1.alloc (.cells #[.string b1,.int .i64 b2,.int .i64 b3,.string b4,.string b5,.int .i64 b6,.int .i64 b7,.int .i64 bt_,.string bp,.int .i64 bl,.int .i64 bk] 84)=Y:=⟨_,rfl⟩;have s1:Y1.heap.size=w.heap.size+1:=(by rw[←hY1];simp);have bY:Below w.heap.size w Y2:=(by rw[←hY2,←hY1];exact((Below.refl _ w).al _).al _);have BA:Blk Y2 w.heap.size #[.string a1,.int .i64 a2,.int .i64 a3,.string a4,.string a5,.int .i64 a6,.int .i64 a7,.int .i64 at_,.string ap,.int .i64 al,.int .i64 ak] 84:=(by rw[←hY2,←hY1];exact(Blk.new w _ _).alloc _);have BB:Blk Y2 (w.heap.size+1) #[.string b1,.int .i64 b2,.int .i64 b3,.string b4,.string b5,.int .i64 b6,.int .i64 b7,.int .i64 bt_,.string bp,.int .i64 bl,.int .i64 bk] 84:=(by rw[←s1,←hY2];exact Blk.new Y1 _ _);have a0:=BA.cell 10 (v:=.int .i64 ak) rfl;have a1':=BA.cell 3 (v:=.string a4) rfl;have a2':=BA.cell 4 (v:=.string a5) rfl;have b0:=BB.cell 10 (v:=.int .i64 bk) rfl;have b1':=BB.cell 3 (v:=.string b4) rfl;have b2':=BB.cell 4 (v:=.string b5) rfl;have HB:=hid bY;have te:(a4.toList==b4.toList)=eqS a4 b4:=rfl;clear ha hb BA BB bY;by_cases hq:ak=bk
 ·by_cases hq1:bk=1
  ·have R:=hid (R1.out hq hq1);subst hq1;subst hq;clear R0 R1 R2 CS;go_enter Tryz.func151,Tryz.ntmps151;go_wp2_with fail
   go_ret;rw[R.out];exact⟨ret_bool (by first|(simp;done)|simpa using te),HB.out⟩
  ·have R:=hid (R2.out hq hq1);have h1:(bk==1)=false:=by simp[hq1]
   subst hq;clear R0 R1 R2 hq1;go_enter Tryz.func151,Tryz.ntmps151;go_wp2_with fail
   refine(CS.out _).mono ?_;rintro e w' ⟨rfl,hbn⟩;have HB:=hid (HB.out.st hbn);clear hbn;go_wp2_with fail
   go_ret;rw[R.out];exact⟨rfl,HB.out⟩
 ·have R:=hid (R0.out hq);have h1:(ak==bk)=false:=by simp[hq]
  have h2:(ak !=bk)=true:=by simp[hq]
  clear R0 R1 R2 CS hq;go_enter Tryz.func151,Tryz.ntmps151;go_wp2_with fail
  go_ret;rw[R.out];exact⟨rfl,HB.out⟩
end
section
open Go.Sort
section
variable {α:Type}[Inhabited α]{lt:α→α→Bool}
def Crs (a m b:Nat)(d:Array (α×Nat)):Prop:=∀i j,a≤i→i<m→m≤j→j<b→d[i]!.2<d[j]!.2
abbrev Srt (lt:α→α→Bool)(a b:Nat)(d:Array (α×Nat)):Prop:=SortedIn (lexB lt) a b d
theorem Srt.le (hS:SWO lt){a b i j:Nat}{d:Array (α×Nat)}(h:Srt lt a b d)(h1:a≤i)(h2:i≤j)(h3:j<b):lexB lt d[j]! d[i]! =false:=by
 rcases Nat.lt_or_eq_of_le h2 with e|rfl
 ·exact h i j h1 e h3
 ·exact(lexB_swo hS).irrefl _
theorem merge_left (hS:SWO lt){a m b i:Nat}{d d':Array (α×Nat)}(hm:m=a+1)(h1:m≤i)(h2:i≤b)(hb:b≤d.size)(hs:Srt lt m b d)(hc:Crs a m b d)
  (hlo:i=m∨fstB lt d[i-1]! d[a]! =true) (hhi:i=b∨fstB lt d[i]! d[a]! =false) (mv:Moved (dnF a i) d d'):Srt lt a b d':=by
 have hL:=lexB_swo hS;have F1:∀t,m≤t→t<i→lexB lt d[a]! d[t]! =false:=by
  intro t ht1 ht2;rcases hlo with q|q
  ·omega
  ·rw[←lexB_late (hc a (i-1) (Nat.le_refl _) (by omega) (by omega) (by omega))]at q;exact hL.ntrans _ _ _ (lex_flip hS q) (hs.le hS ht1 (by omega) (by omega))
 have F2:∀t,i≤t→t<b→lexB lt d[t]! d[a]! =false:=by
  intro t ht1 ht2;rcases hhi with q|q
  ·omega
  ·rw[←lexB_late (hc a i (Nat.le_refl _) (by omega) (by omega) (by omega))]at q;exact hL.ntrans _ _ _ (hs.le hS (by omega) ht1 ht2) q
 intro p q hp hpq hq;rw[mv.2 p (by omega),mv.2 q (by omega)];unfold dnF;by_cases p1:p+1<i
 ·rw[if_pos (⟨hp,p1⟩:a≤p∧p+1<i)];by_cases q1:q+1<i
  ·rw[if_pos (⟨by omega,q1⟩:a≤q∧q+1<i)];exact hs _ _ (by omega) (by omega) (by omega)
  ·rw[if_neg (by omega)];by_cases q2:q+1=i
   ·rw[if_pos ⟨q2,by omega⟩];exact F1 _ (by omega) p1
   ·rw[if_neg (by omega)];exact hs _ _ (by omega) (by omega) hq
 ·rw[if_neg (by omega:¬(a≤p∧p+1<i)),if_neg (by omega:¬(a≤q∧q+1<i)),if_neg (by omega:¬(q+1=i∧a<i))];by_cases p2:p+1=i
  ·rw[if_pos ⟨p2,by omega⟩];exact F2 _ (by omega) hq
  ·rw[if_neg (by omega)];exact hs _ _ (by omega) hpq hq
theorem merge_right (hS:SWO lt){a m b i:Nat}{d d':Array (α×Nat)}(hm:b=m+1)(h1:a≤i)(h2:i≤m)(hb:b≤d.size)(hs:Srt lt a m d)(hc:Crs a m b d)
  (hlo:i=a∨fstB lt d[m]! d[i-1]! =false) (hhi:i=m∨fstB lt d[m]! d[i]! =true) (mv:Moved (upF i m) d d'):Srt lt a b d':=by
 have hL:=lexB_swo hS;have F1:∀t,a≤t→t<i→lexB lt d[m]! d[t]! =false:=by
  intro t ht1 ht2;rcases hlo with q|q
  ·omega
  ·rw[←lexB_late (hc (i-1) m (by omega) (by omega) (Nat.le_refl _) (by omega))]at q;exact hL.ntrans _ _ _ q (hs.le hS ht1 (by omega) (by omega))
 have F2:∀t,i≤t→t<m→lexB lt d[t]! d[m]! =false:=by
  intro t ht1 ht2;rcases hhi with q|q
  ·omega
  ·rw[←lexB_late (hc i m (by omega) (by omega) (Nat.le_refl _) (by omega))]at q;exact hL.ntrans _ _ _ (hs.le hS h1 ht1 ht2) (lex_flip hS q)
 intro p q hp hpq hq;rw[mv.2 p (by omega),mv.2 q (by omega)];unfold upF;by_cases p1:p=i
 ·rw[if_pos (⟨p1,h2⟩:p=i∧i≤m),if_neg (by omega:¬(q=i∧i≤m)),if_pos (by omega:i<q∧q≤m)];exact F2 _ (by omega) (by omega)
 ·rw[if_neg (by omega:¬(p=i∧i≤m))];by_cases q1:q=i
  ·rw[if_pos (⟨q1,h2⟩:q=i∧i≤m),if_neg (by omega:¬(i<p∧p≤m))];exact F1 _ hp (by omega)
  ·rw[if_neg (by omega:¬(q=i∧i≤m))];by_cases q2:q<i
   ·rw[if_neg (by omega:¬(i<q∧q≤m)),if_neg (by omega:¬(i<p∧p≤m))];exact hs _ _ hp hpq (by omega)
   ·rw[if_pos (by omega:i<q∧q≤m)];by_cases p2:p<i
    ·rw[if_neg (by omega:¬(i<p∧p≤m))];exact hs _ _ hp (by omega) (by omega)
    ·rw[if_pos (by omega:i<p∧p≤m)];exact hs _ _ (by omega) (by omega) (by omega)
theorem roF_none {s m e t:Nat}(h1:s≤m)(h2:m≤e)(h:s=m∨e=m):roF s m e t=t:=by
 unfold roF;repeat' split
 all_goals omega
theorem merge_mid (hS:SWO lt){a m b mid s e:Nat}{d d':Array (α×Nat)}(h1:a≤s)(h2:s≤m)(h3:m≤e)(h4:e≤b)(hb:b≤d.size)(hmid:mid=s+(e-m))(hl:Srt lt a m d)(hr:Srt lt m b d)(hc:Crs a m b d)
  (hlo:s=a∨e=b∨fstB lt d[e]! d[s-1]! =false) (hhi:s=m∨e=m∨fstB lt d[e-1]! d[s]! =true) (mv:Moved (roF s m e) d d'):
  Srt lt a s d'∧Srt lt s mid d'∧Crs a s mid d'∧Srt lt mid e d'∧Srt lt e b d'∧Crs mid e b d'∧∀i j,a≤i→i<mid→mid≤j→j<b→lexB lt d'[j]! d'[i]! =false:=by
 have hL:=lexB_swo hS;have A:∀t,t<s→d'[t]! =d[t]! :=fun t ht=>by rw[mv.2 t (by omega)];unfold roF;rw[if_neg (by omega),if_neg (by omega)]
 have B:∀t,s≤t→t<mid→d'[t]! =d[t+(m-s)]! :=fun t h5 h6=>by rw[mv.2 t (by omega)];unfold roF;rw[if_pos (by omega)]
 have C:∀t,mid≤t→t<e→d'[t]! =d[t-(e-m)]! :=fun t h5 h6=>by rw[mv.2 t (by omega)];unfold roF;rw[if_neg (by omega),if_pos (by omega)]
 have D:∀t,e≤t→t<b→d'[t]! =d[t]! :=fun t h5 h6=>by rw[mv.2 t (by omega)];unfold roF;rw[if_neg (by omega),if_neg (by omega)]
 refine⟨fun p q h5 h6 h7=> ?_,fun p q h5 h6 h7=> ?_,fun p q h5 h6 h7 h8=> ?_,fun p q h5 h6 h7=> ?_,fun p q h5 h6 h7=> ?_,fun p q h5 h6 h7 h8=> ?_,fun p q h5 h6 h7 h8=> ?_⟩
 ·rw[A p (by omega),A q h7];exact hl _ _ h5 h6 (by omega)
 ·rw[B p h5 (by omega),B q (by omega) h7];exact hr _ _ (by omega) (by omega) (by omega)
 ·rw[A p h6,B q h7 h8];exact hc _ _ h5 (by omega) (by omega) (by omega)
 ·rw[C p h5 (by omega),C q (by omega) h7];exact hl _ _ (by omega) (by omega) (by omega)
 ·rw[D p h5 (by omega),D q (by omega) h7];exact hr _ _ (by omega) h6 h7
 ·rw[C p h5 h6,D q h7 h8];exact hc _ _ (by omega) (by omega) (by omega) h8
 ·by_cases p1:p<s
  ·rw[A p p1];by_cases q1:q<e
   ·rw[C q h7 q1];exact hl _ _ h5 (by omega) (by omega)
   ·rw[D q (by omega) h8];rcases hlo with r|r|r
    ·omega
    ·omega
    ·rw[←lexB_late (hc (s-1) e (by omega) (by omega) h3 (by omega))]at r;exact hL.ntrans _ _ _ (hr.le hS h3 (by omega) h8) (hL.ntrans _ _ _ r (hl.le hS h5 (by omega) (by omega)))
  ·rw[B p (by omega) h6];by_cases q1:q<e
   ·rw[C q h7 q1];rcases hhi with r|r|r
    ·omega
    ·omega
    ·rw[←lexB_late (hc s (e-1) h1 (by omega) (by omega) (by omega))]at r;exact hL.ntrans _ _ _ (hl.le hS h1 (by omega) (by omega)) (hL.ntrans _ _ _ (lex_flip hS r) (hr.le hS (by omega) (by omega) (by omega)))
   ·rw[D q (by omega) h8];exact hr _ _ (by omega) (by omega) h8
theorem merge_join (hS:SWO lt){a mid b:Nat}{d1 d2 d3:Array (α×Nat)}(h1:a≤mid)(h2:mid≤b)(hb:b≤d1.size)(hx:∀i j,a≤i→i<mid→mid≤j→j<b→lexB lt d1[j]! d1[i]! =false)
  (p2:PermIn a mid d1 d2) (s2:Srt lt a mid d2) (p3:PermIn mid b d2 d3) (s3:Srt lt mid b d3):PermIn a b d1 d3∧Srt lt a b d3:=by
 refine⟨permIn_trans _ _ _ _ _ (permIn_mono d1 d2 a mid a b (Nat.le_refl _) h2 hb p2) (permIn_mono d2 d3 mid b a b h1 (Nat.le_refl _) (by rw[p2.1];exact hb) p3),fun p q h5 h6 h7=> ?_⟩;by_cases q1:q<mid
 ·rw[p3.2.1 p (.inl (by omega)),p3.2.1 q (.inl q1)];exact s2 _ _ h5 h6 q1
 ·by_cases p1:mid≤p
  ·exact s3 _ _ p1 h6 h7
  ·rw[p3.2.1 p (.inl (by omega))];have k2:∀i,mid≤i→i<b→∀u,a≤u→u<mid→lexB lt d2[i]! d2[u]! =false:=by
    intro i h8 h9 u h10 h11;rw[p2.2.1 i (.inr h8)];exact permIn_all d1 d2 a mid (fun x=>lexB lt d1[i]! x=false) (by omega) p2 (fun v h12 h13=>hx v i h12 h13 h8 h9) u h10 h11
   exact permIn_all d2 d3 mid b (fun x=>lexB lt x d2[p]! =false) (by rw[p2.1];exact hb) p3 (fun i h8 h9=>k2 i h8 h9 p h5 (by omega)) q (by omega) h7
theorem Crs.perm {a m b:Nat}{d d':Array (α×Nat)}(h:Crs a m b d)(ham:a≤m)(hb:b≤d.size){x y:Nat}(hx:a≤x)(hxy:x≤y)(hy:y≤m∨m≤x)(hyb:y≤b)(p:PermIn x y d d'):Crs a m b d':=by
 intro i j h1 h2 h3 h4;have k:∀u,u<i+1→i<u+1→d[i]!.2<d[j]!.2:=fun _ _ _=>h i j h1 h2 h3 h4;rcases hy with hy|hy
 ·rw[p.2.1 j (.inr (by omega))];by_cases q:x≤i∧i<y
  ·exact permIn_all d d' x y (fun z=>z.2<d[j]!.2) (by omega) p (fun u h5 h6=>h u j (by omega) (by omega) h3 h4) i q.1 q.2
  ·rw[p.2.1 i (by omega)];exact h i j h1 h2 h3 h4
 ·rw[p.2.1 i (.inl (by omega))];by_cases q:x≤j∧j<y
  ·exact permIn_all d d' x y (fun z=>d[i]!.2<z.2) (by omega) p (fun u h5 h6=>h i u h1 h2 (by omega) (by omega)) j q.1 q.2
  ·rw[p.2.1 j (by omega)];exact h i j h1 h2 h3 h4
theorem Srt.out {a b x y:Nat}{d d':Array (α×Nat)}(h:Srt lt a b d)(hy:y≤a∨b≤x)(p:PermIn x y d d'):Srt lt a b d':=by
 intro i j h1 h2 h3;rw[p.2.1 i (by omega),p.2.1 j (by omega)];exact h i j h1 h2 h3
end
end
end Go.Proofs.YtimffppffbideaaGreatDoor
