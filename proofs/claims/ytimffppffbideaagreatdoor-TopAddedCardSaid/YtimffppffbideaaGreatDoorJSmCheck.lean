import Derived.Test.YtimffppffbideaaGreatDoorSmBuild
set_option linter.unusedSimpArgs false
set_option linter.unusedVariables false
set_option maxRecDepth 100000
set_option maxHeartbeats 8000000
namespace Go.Proofs.YtimffppffbideaaGreatDoor
section
open Go.RowKit Go.Lib
open Mat
theorem mcheck_any {m:Mat.M}{cA rA lA:Option Addr}{gs:List (Gp Int)}(cc rc lc:Nat)(hz:Sz m){w:World}(hM:MRd m w cA gs rA lA):
  Calls Tryz.prog 132 #[.agg #[.slice cA m.cost.length cc,.slice rA m.row.length rc,.slice lA m.col.length lc]] w fun e w'=>e=.returned (.int .i64 0)∧Below w.heap.size w w':=by
 have hk8:=hz.k;have hn8:=hz.n;obtain⟨Y1,hY1⟩:∃Y,w.alloc (.cells #[.slice cA m.cost.length cc,.slice rA m.row.length rc,.slice lA m.col.length lc] 130)=Y:=⟨_,rfl⟩;have hb1:Below w.heap.size w Y1:=by rw[←hY1];exact(Below.refl _ w).al _
 have B1:Blk Y1 w.heap.size #[.slice cA m.cost.length cc,.slice rA m.row.length rc,.slice lA m.col.length lc] 130:=by rw[←hY1];exact Blk.new w _ _
 have HB1:=hid B1;have HBW:=hid hb1;have HM:=hid hM;have HZ:=hid hz;have HGL:Hid (gs.length=m.cost.length):=hid (by rw[←hM.cost,vals_len]);obtain⟨n,hn⟩:∃N,m.row.length=N:=⟨_,rfl⟩;obtain⟨k,hk⟩:∃a,m.col.length=a:=⟨_,rfl⟩;have hcl:m.cost.length=n:=by rw[hz.cost];exact hn
 have d0:=B1.cell 0 (v:=.slice cA m.cost.length cc) rfl;have d1:=B1.cell 1 (v:=.slice rA m.row.length rc) rfl;have d2:=B1.cell 2 (v:=.slice lA m.col.length lc) rfl;rw[hn]at d1;rw[hk]at d2;rw[hcl]at d0;have HN:=hid hn;have HK:=hid hk;have HCL:=hid hcl;have n8:n≤8:=by unfold Mat.M.n at hn8;omega
 have k8:k≤8:=by omega
 have q1:¬(8:Int)<(n:Int):=by omega
 have q2:¬(8:Int)<(k:Int):=by omega
 clear hM hz hb1 B1 hn hk hcl hk8 hn8;go_enter Tryz.func132,Tryz.ntmps132;go_wp2_with fail
 go_loopw [31] (fun si wx=>∃i:Nat,i≤n∧si=.int .i64 i∧Hid (Below Y1.heap.size Y1 wx)) (fun si _=>n-(RowKit.intOf si).toNat)
 case atStart=>exact⟨0,Nat.zero_le _,rfl,Below.refl _ _⟩
 case round=>
  obtain⟨wo,hwo⟩:∃wo,wo=wr:=⟨_,rfl⟩;obtain⟨i,hi,rfl,HB⟩:=hrel;rw[←hwo]at HB ⊢;clear hwo;have i0:(0:Int)≤(i:Int):=by omega
  by_cases hin:i<n
  ·have HI:=hid hin;have HMO:=hid (HM.out.rows.st (HBW.out.st HB.out));obtain⟨b,off,g,hA,hb,hg,hc,hr⟩:=HMO.out.at_ (i:=i) (by rw[HGL.out,HCL.out];exact hin);have hrow:m.cost[i]? =some g.l:=by rw[←HM.out.cost];exact vals_at hg
   have hgl:g.l.length=k:=by rw[←HK.out];exact HZ.out.row _ (List.mem_of_getElem? hrow)
   obtain⟨gA,gc,gl⟩:=g;simp only at hgl hc hr hrow;rw[hgl]at hc;subst hA;have HR:=hid hr;have HRC:Hid (∀(j:Nat) (x:Int),gl[j]? =some x→ -1≤x∧x≤450):=hid (fun j x hx=>by
    have e:m.c i j=x:=by
     unfold Mat.M.c;rw[List.getD_eq_getElem?_getD (l:=m.cost),hrow];show gl.getD j 0=x
     rw[List.getD_eq_getElem?_getD,hx];rfl
    rw[←e];exact⟨HZ.out.lo i j,HZ.out.b.cost i j⟩)
   have HGLL:=hid hgl;have hbY:=HB.out;have e2:wo.cell? ⟨w.heap.size,2,none⟩=some (.slice lA k lc):=(hbY.cell (p:=⟨w.heap.size,2,none⟩) HB1.out.lt).trans d2;have i1:(i:Int)<(n:Int):=by omega
   have i2:decide (i<n)=true:=decide_eq_true hin;clear hin hi hg hrow hgl hb hr hbY;go_wp2_with fail
   go_loopw [43] (fun sj wx=>∃j:Nat,j≤k∧sj=.int .i64 j∧Hid (Below wo.heap.size wo wx)) (fun sj _=>k-(RowKit.intOf sj).toNat)
   case atStart=>exact⟨0,Nat.zero_le _,rfl,Below.refl _ _⟩
   case round=>
    obtain⟨j,hj,rfl,HB2⟩:=hrel;have j0:(0:Int)≤(j:Int):=by omega
    by_cases hjk:j<k
    ·have HJ:=hid hjk;obtain⟨b9,o9,x,hA9,_,hx,cx⟩:=(HR.out.st HB2.out).i (i:=j) (by rw[HGLL.out];exact hjk);subst hA9;obtain⟨x1,x2⟩:=HRC.out j x hx;have r1:¬x< -1:=by omega
     have r2:¬(2147483648:Int)<x:=by omega
     have j1:(j:Int)<(k:Int):=by omega
     have j2:decide (j<k)=true:=decide_eq_true hjk;clear hjk hj hx x1 x2;go_wp2_with fail
     go_roundw
     case rel=>exact⟨j+1,HJ.out,by go_num,HB2⟩
     case measure=>exact meas3 HJ.out
    ·obtain rfl:j=k:=by omega
     have HBN:=hid (HB.out.st HB2.out);go_wp2_with fail
     go_roundw
     case rel=>exact⟨i+1,HI.out,by go_num,HBN⟩
     case measure=>exact meas3 HI.out
  ·obtain rfl:i=n:=by omega
   have hbY:=HB.out;have e1:wo.cell? ⟨w.heap.size,1,none⟩=some (.slice rA i rc):=(hbY.cell (p:=⟨w.heap.size,1,none⟩) HB1.out.lt).trans d1;have e2:wo.cell? ⟨w.heap.size,2,none⟩=some (.slice lA k lc):=(hbY.cell (p:=⟨w.heap.size,2,none⟩) HB1.out.lt).trans d2;obtain⟨V,hV⟩:∃V,wo.alloc (.cells #[.slice rA i rc,.slice lA k lc] 33)=V:=⟨_,rfl⟩;have HBV:Hid (Below w.heap.size w V):=hid (by rw[←hV];exact(HBW.out.st HB.out).al _);have HVB:Hid (Blk V wo.heap.size #[.slice rA i rc,.slice lA k lc] 33):=hid (by rw[←hV];exact Blk.new wo _ _);clear hin hi hbY;go_wp2_with fail
   go_loopw [61] (fun si wx=>∃q:Nat,q≤2∧si=.int .i64 q∧Hid (Below V.heap.size V wx)) (fun si _=>2-(RowKit.intOf si).toNat)
   case atStart=>exact⟨0,Nat.zero_le _,rfl,Below.refl _ _⟩
   case round=>
    obtain⟨w2,hw2⟩:∃w2,w2=wr:=⟨_,rfl⟩;obtain⟨q,hq,rfl,HBX⟩:=hrel;rw[←hw2]at HBX ⊢;clear hw2;by_cases hq2:q<2
    ·have HQ:=hid hq2;have hbl:=HVB.out.below HBX.out HVB.out.lt;have hh:∃xA xn xc xl,xn≤8∧w2.cell? ⟨wo.heap.size,q,none⟩=some (.slice xA xn xc)∧Hid (Rd encI 1 w2 w2.heap.size xA xl)∧Hid (xl.length=xn)∧Hid (∀x∈xl,0≤x∧x≤450):=by
      rcases(show q=0∨q=1 by omega)with rfl|rfl
      ·exact⟨rA,i,rc,m.row,n8,hbl.cell 0 rfl,HM.out.row.st (HBV.out.st HBX.out),HN.out,HZ.out.b.row⟩
      ·exact⟨lA,k,lc,m.col,k8,hbl.cell 1 rfl,HM.out.col.st (HBV.out.st HBX.out),HK.out,HZ.out.b.col⟩
     obtain⟨xA,xn,xc,xl,xn8,hx0,HR,HL,HRC⟩:=hh;have i0:(0:Int)≤(q:Int):=by omega
     have i1:(q:Int)<2:=by omega
     have i2:decide (q<2)=true:=decide_eq_true hq2;clear hq hq2 hbl;go_wp2_with fail
     go_loopw [67] (fun sj wx=>∃j:Nat,j≤xn∧sj=.int .i64 j∧Hid (Below w2.heap.size w2 wx)) (fun sj _=>xn-(RowKit.intOf sj).toNat)
     case atStart=>exact⟨0,Nat.zero_le _,rfl,Below.refl _ _⟩
     case round=>
      obtain⟨j,hj,rfl,HB2⟩:=hrel;have j0:(0:Int)≤(j:Int):=by omega
      by_cases hjk:j<xn
      ·have HJ:=hid hjk;obtain⟨b9,o9,x,hA9,_,hx,cx⟩:=(HR.out.st HB2.out).i (i:=j) (by rw[HL.out];exact hjk);subst hA9;obtain⟨x1,x2⟩:=HRC.out x (List.mem_of_getElem? hx);have r1:¬x<0:=by omega
       have r2:¬(2147483648:Int)<x:=by omega
       have j1:(j:Int)<(xn:Int):=by omega
       have j2:decide (j<xn)=true:=decide_eq_true hjk;clear hjk hj hx x1 x2;go_wp2_with fail
       go_roundw
       case rel=>exact⟨j+1,HJ.out,by go_num,HB2⟩
       case measure=>exact meas3 HJ.out
      ·obtain rfl:j=xn:=by omega
       have HBN:=hid (HBX.out.st HB2.out);go_wp2_with fail
       go_roundw
       case rel=>exact⟨q+1,HQ.out,by go_num,HBN⟩
       case measure=>exact meas3 HQ.out
    ·obtain rfl:q=2:=by omega
     have HBN:=hid (HBV.out.st HBX.out);go_wp2_with fail
     go_ret;exact⟨rfl,HBN.out⟩
end
section
open Go.RowKit Go.Lib
open Mat
theorem free_any {cA rA lA:Option Addr}(gl cc rc k lc:Nat){n:Nat}(hn:n≤8)(w:World):Calls Tryz.prog 134 #[.agg #[.slice cA gl cc,.slice rA n rc,.slice lA k lc]] w fun e w'=>∃A c,e=.returned (.slice A n c)∧Own 3 encI 1 w' w.heap.size A c (List.replicate n (-2))∧Below w.heap.size w w':=by
 obtain⟨Y,hY⟩:∃Y,w.alloc (.cells #[.slice cA gl cc,.slice rA n rc,.slice lA k lc] 130)=Y:=⟨_,rfl⟩;have hBY:Below w.heap.size w Y:=by rw[←hY];exact(Below.refl _ w).al _
 have hB1:Blk Y w.heap.size #[.slice cA gl cc,.slice rA n rc,.slice lA k lc] 130:=by rw[←hY];exact Blk.new w _ _
 have hs:w.heap.size≤Y.heap.size:=by rw[←hY];simp
 have c1:Y.cell? ⟨w.heap.size,1,none⟩=some (.slice rA n rc):=hB1.cell 1 rfl;obtain⟨g0,hg0⟩:∃g,Y.heap.size=g:=⟨_,rfl⟩;have HG0:=hid hg0;have HBY:=hid hBY;have HS0:=hid hs;clear hBY hB1 hs;go_enter Tryz.func134,Tryz.ntmps134;go_wp2_with(refine wpList_makeZ rfl (.tmp 7) (.tmp 7) tyI encI_ok rfl Y.heap.size 0 (.int .i64 0) (by kernel_rfl) rfl .i64 .i64 n rfl rfl (by omega) (by omega) (Nat.le_refl _) ?_;intro w7 hown hb7 hs7)
 rw[prt_zero (fun _=> -2)]at hown;rw[hg0]at hown hb7 hs7;clear hs7 hY c1;go_loopw [11] (fun sj wr=>∃j:Nat,j≤n∧sj=.int .i64 j∧Own 3 encI 1 wr g0 (some ⟨g0,0,none⟩) n (prt (fun _=> -2) n j)∧Below g0 Y wr) (fun sj _=>n-(RowKit.intOf sj).toNat)
 case atStart=>exact⟨0,Nat.zero_le _,rfl,hown,hb7⟩
 case round=>
  clear hown hb7;obtain⟨j,hj,rfl,hown,hb7⟩:=hrel;have i1:(0:Int)≤(j:Int):=by omega
  by_cases hi:j<n
  ·have c0:=hown.cells encI_ok rfl (i:=j) (prt_at (fun _=> -2) hi) (j:=0) rfl;have fz:=hown.frozen rfl j;have HS:Hid (Own 3 encI 1 (wr.setCell ⟨g0,j,none⟩ (.int .i64 (-2))) g0 (some ⟨g0,0,none⟩) n (prt (fun _=> -2) n (j+1))):=hid (by
    have:=hown.stored encI_ok rfl (prt_at (fun _=> -2) hi) (j:=0) (u:=.int .i64 (-2)) (y:= -2) (by omega) rfl
    rw[prt_set (fun _=> -2) hi]at this;simpa using this)
   have HBL:Hid (Below g0 Y (wr.setCell ⟨g0,j,none⟩ (.int .i64 (-2)))):=hid (hb7.setCell (p:=⟨g0,j,none⟩) (Nat.le_refl _) _);simp only[Nat.mul_one,Nat.add_zero]at c0;have i2:(j:Int)<(n:Int):=by omega
   have HI:=hid hi;clear hown hb7;go_wp2_with fail
   go_roundw
   case rel=>exact⟨j+1,HI.out,by go_num,HS.out,HBL.out⟩
   case measure=>have:=HI.out;simp[RowKit.intOf];omega
  ·obtain rfl:j=n:=by omega
   rw[rep_prt]at hown;have HO:=hid (hown.mono (show w.heap.size≤g0 by have:=HG0.out;have:=HS0.out;omega));have HB:=hid (HBY.out.trans (hb7.mono (show w.heap.size≤g0 by have:=HG0.out;have:=HS0.out;omega)));clear hown hb7;go_wp2_with fail
   go_ret;exact⟨_,_,rfl,HO.out,HB.out⟩
theorem beforeL_drop {a b:List Int}{t:Nat}{x y:Int}(ha:a[t]? =some x)(hb:b[t]? =some y):beforeL (a.drop t) (b.drop t)=if x≠y then decide (y<0)||(decide (0≤x)&&decide (x<y))else beforeL (a.drop (t+1)) (b.drop (t+1)):=by
 obtain⟨h1,h2⟩:=List.getElem?_eq_some_iff.1 ha;obtain⟨h3,h4⟩:=List.getElem?_eq_some_iff.1 hb;rw[List.drop_eq_getElem_cons h1,List.drop_eq_getElem_cons h3,h2,h4];rfl
theorem mbefore_any {aA bA:Option Addr}(ac bc:Nat){a b:List Int}(hl:a.length=b.length)(h8:a.length≤8){w:World}(ra:Rd encI 1 w w.heap.size aA a)(rb:Rd encI 1 w w.heap.size bA b):
  Calls Tryz.prog 154 #[.slice aA a.length ac,.slice bA b.length bc] w fun e w'=>e=.returned (.bool (beforeL a b))∧Below w.heap.size w w':=by
 have HRA:=hid ra;have HRB:=hid rb;obtain⟨n,hn⟩:∃n,a.length=n:=⟨_,rfl⟩;have hnb:b.length=n:=by rw[←hl,hn]
 have HN:=hid hn;have HNB:=hid hnb;rw[hn,hnb];clear ra rb hl hnb;have hn8:n≤8:=by omega
 obtain⟨r,hr⟩:∃r,beforeL a b=r:=⟨_,rfl⟩;rw[hr];have HRR:=hid hr;clear h8 hn hr;go_enter Tryz.func154,Tryz.ntmps154;go_wp2_with fail
 go_loopw [8] (fun sj wr=>∃j:Nat,j≤n∧sj=.int .i64 j∧Hid (beforeL a b=beforeL (a.drop j) (b.drop j))∧Hid (Below w.heap.size w wr)) (fun sj _=>n-(RowKit.intOf sj).toNat)
 case atStart=>exact⟨0,Nat.zero_le _,rfl,rfl,Below.refl _ _⟩
 case round=>
  obtain⟨j,hj,rfl,HE,HB⟩:=hrel;have i1:(0:Int)≤(j:Int):=by omega
  by_cases hi:j<n
  ·obtain⟨ab,ao,x,rfl,_,hx,cx⟩:=(HRA.out.keep HB.out).i (i:=j) (by rw[HN.out];exact hi);obtain⟨bb,bo,y,rfl,_,hy,cy⟩:=(HRB.out.keep HB.out).i (i:=j) (by rw[HNB.out];exact hi);have HD:=hid (HE.out.trans (beforeL_drop hx hy));have i2:(j:Int)<(n:Int):=by omega
   have i4:decide (j<n)=true:=decide_eq_true hi;have HI:=hid hi;have HB2:=hid (fun q=>below_drewN HB.out q);clear hx hy hi hj;by_cases hxy:x=y
   ·have hq:(x !=y)=false:=by simp[hxy]
    have HF:Hid (beforeL a b=beforeL (a.drop (j+1)) (b.drop (j+1))):=hid (by rw[HD.out,if_neg (by simp[hxy])]);clear hxy;go_wp2_with fail
    go_quiet(fail)
    go_wp2_with fail
    go_roundw
    case rel=>exact⟨j+1,HI.out,by go_num,HF,hid (HB2.out _)⟩
    case measure=>have:=HI.out;simp[RowKit.intOf];omega
   ·have hq:(x !=y)=true:=by simpa using hxy
    have HF:Hid (beforeL a b=(decide (y<0)||(decide (0≤x)&&decide (x<y)))):=hid (by rw[HD.out,if_pos hxy]);have HF:=hid (HRR.out.symm.trans HF.out);clear hxy HD;have hc:(decide (y<0)=true)∨(decide (y<0)=false∧decide (0≤x)=false)∨(decide (y<0)=false∧decide (0≤x)=true):=by
     by_cases h1:y<0<;>by_cases h2:0≤x<;>simp[h1,h2]
    rcases hc with h1|⟨h1,h2⟩|⟨h1,h2⟩
    ·rw[h1]at HF;go_wp2_with fail
     go_quiet(fail)
     go_wp2_with fail
     go_quiet(fail)
     go_wp2_with fail
     go_ret;exact⟨by rw[HF.out];rfl,below_drewN (HB2.out _) _⟩
    ·rw[h1,h2]at HF;go_wp2_with fail
     go_quiet(fail)
     go_wp2_with fail
     go_quiet(fail)
     go_wp2_with fail
     go_ret;exact⟨by rw[HF.out];rfl,below_drewN (HB2.out _) _⟩
    ·rw[h1,h2]at HF;go_wp2_with fail
     go_quiet(fail)
     go_wp2_with fail
     go_quiet(fail)
     go_wp2_with fail
     go_ret;exact⟨by rw[HF.out];rfl,below_drewN (HB2.out _) _⟩
  ·obtain rfl:j=n:=by omega
   have HF:Hid (beforeL a b=false):=hid (by
    rw[HE.out,List.drop_of_length_le (Nat.le_of_eq HN.out),List.drop_of_length_le (Nat.le_of_eq HNB.out)];rfl)
   have HF:=hid (HRR.out.symm.trans HF.out);go_wp2_with fail
   go_ret;exact⟨by rw[HF.out];rfl,HB.out⟩
end
section
open Go.RowKit Go.Lib
open Mat
theorem free_len (m:Mat.M):(free m).length=m.row.length:=by unfold free;rw[List.length_replicate];rfl
theorem fst_best {m:Mat.M}(hz:Sz m):fstL m (free m)=best m:=by
 unfold fstL best;rw[if_pos (tab_free hz.b.ok m.n 0 (Nat.le_refl _))]
theorem best_any {m:Mat.M}{cA rA lA:Option Addr}{gs:List (Gp Int)}(cc rc lc:Nat)(hz:Sz m){w:World}(hM:MRd m w cA gs rA lA):
  Calls Tryz.prog 99 #[.agg #[.slice cA m.cost.length cc,.slice rA m.row.length rc,.slice lA m.col.length lc]] w fun e w'=>∃A c,e=.returned (.tuple #[.slice A (best m).length c,.int .i64 (costM m),.int .i64 0])∧Own 3 encI 1 w' w.heap.size A c (best m)∧Below w.heap.size w w':=by
 have hn8:=hz.n;have hk8:=hz.k;obtain⟨Y1,hY1⟩:∃Y,w.alloc (.cells #[.slice cA m.cost.length cc,.slice rA m.row.length rc,.slice lA m.col.length lc] 130)=Y:=⟨_,rfl⟩;have hb1:Below w.heap.size w Y1:=by rw[←hY1];exact(Below.refl _ w).al _
 have B1:Blk Y1 w.heap.size #[.slice cA m.cost.length cc,.slice rA m.row.length rc,.slice lA m.col.length lc] 130:=by rw[←hY1];exact Blk.new w _ _
 have HB0:=hid B1;have HBW:=hid hb1;have HZ:=hid hz;have HFB:=hid (fst_best hz);have CK:=hid (mcheck_any cc rc lc hz (hM.st hb1));have CF:=hid (fun(X:World)=>free_any (cA:=cA) (rA:=rA) (lA:=lA) m.cost.length cc rc m.col.length lc (n:=m.row.length) hn8 X);have CB:=hid (fun(X:World) (hX:Below w.heap.size w X) (fA:Option Addr) (fc:Nat) (hF:Rd encI 1 X X.heap.size fA (free m))=>build_any cc rc lc fc hz (show Fx m (free m)from free_len m) (hM.st hX) hF);rw[free_len]at CB;have CI:=hid (fun(X:World) (tb fc Lc Wc:Nat) (fA LA WA:Option Addr) (ls ws:List (Gp Int)) (hS:TS m (free m) X tb cA cc gs rA rc lA lc fA fc) (hD:TD X tb (m.n+1) (2^m.col.length) LA Lc ls WA Wc ws) (hL:Tabs m (free m) ls)=>mfirst_any hz (show Fx m (free m)from free_len m) hS hD hL);rw[fst_best hz]at CI;have hcm:tab m (free m) m.n 0=costM m:=rfl;clear hb1 B1 hM hz;go_enter Tryz.func99,Tryz.ntmps99;go_wp2_with(first|(refine wpList_boxLoad rfl (ty:=130) (x:=.tmp 1) (cs:=#[.slice cA m.cost.length cc,.slice rA m.row.length rc,.slice lA m.col.length lc]) rfl HB0.out rfl ⟨_,Tryz.underlying130,by kernel_rfl⟩ ?_))
 with_reducible refine CK.out.mono ?_
 rintro e w1 ⟨rfl,hb⟩;have hbl:=HB0.out.below hb HB0.out.lt;have HB1:=hid (HBW.out.st hb);have HBL:=hid hbl;clear hb hbl CK hY1;go_upto_region 4 with fail
 refine wp_region_held_drew (S:=fun X=>Blk X w.heap.size #[.slice cA m.cost.length cc,.slice rA m.row.length rc,.slice lA m.col.length lc] 130) (by kernel_rfl) HBL.out.drew (fun hHeld=> ?_);have hSS:Blk w1.drew w.heap.size #[.slice cA m.cost.length cc,.slice rA m.row.length rc,.slice lA m.col.length lc] 130:=HBL.out.drew;have bD:Below w.heap.size w w1.drew:=HB1.out.drew;obtain⟨V0,hV0⟩:∃V,w1.drew=V:=⟨_,rfl⟩;rw[hV0]at hHeld hSS bD ⊢;clear hV0 HBL HB1;change wpAnyH _ _ _ _ _ 5 _ _ _;refine wpAnyH_take (i:=0) (v:=.agg #[.slice cA m.cost.length cc,.slice rA m.row.length rc,.slice lA m.col.length lc]) (by simp only[List.getElem?_toArray,List.getElem?_cons_zero,List.getElem?_cons_succ];rfl) (by kernel_rfl) (by kernel_rfl) (by kernel_rfl) (by intro _ _ _ h;exact h) (yieldsIf_boxLoad (by rfl) rfl rfl (fun _ hw=>hw) ⟨_,Tryz.underlying130,by kernel_rfl⟩) (by assumption) ?_;refine td (h:= ?_);refine wpAnyH_take (i:=1) (v:=.agg #[.slice cA m.cost.length cc,.slice rA m.row.length rc,.slice lA m.col.length lc]) (by simp only[List.getElem?_toArray,List.getElem?_cons_zero,List.getElem?_cons_succ];rfl) (by kernel_rfl) (by kernel_rfl) (by kernel_rfl) (by intro _ _ _ h;exact h) (yieldsIf_boxLoad (by rfl) rfl rfl (fun _ hw=>hw) ⟨_,Tryz.underlying130,by kernel_rfl⟩) (by assumption) ?_;refine td (h:= ?_);refine rd1 2 (h:=fun K hK=> ?_);rw[if_pos (by rfl)];go_wp2_with fail
 with_reducible refine(CF.out V0).mono ?_
 rintro e W6 ⟨fA,fc,rfl,hof,hbn⟩;have hSS6:=hSS.below hbn hSS.lt;have bD6:=bD.st hbn;have HOF:=hid hof;clear hbn hof;go_wp2_with fail
 refine hK.out _ _ hSS6 (fun hHeld=> ?_);clear hK K;refine td (h:= ?_);refine rd1 3 (h:=fun K hK=> ?_);rw[if_pos (by rfl)];go_wp2_with fail
 with_reducible refine(CB.out W6 bD6 fA fc (by have:=HOF.out.rd encI_ok;unfold free Mat.M.n;exact this)).mono ?_
 rintro e W7 ⟨tb,LA,Lc,ls,WA,Wc,ws,rfl,hts,htd,htl,hbn,htb⟩;have hSS7:=hSS6.below hbn hSS6.lt;have bD7:=bD6.st hbn;have HTS:=hid hts;have HTD:=hid htd;have HTL:=hid htl;clear hbn hts htd htl htb;go_wp2_with fail
 refine hK.out _ _ hSS7 (fun hHeld=> ?_);clear hK K;refine td (h:= ?_);refine tk 4 (h:= ?_);refine wpAnyH_done (by kernel_rfl) ?_ _;have HB7:=hid bD7;clear hHeld hSS hSS6 hSS7 bD bD6 bD7;go_wp2_with fail
 with_reducible refine(CI.out W7 tb fc Lc Wc fA LA WA ls ws HTS.out HTD.out HTL.out).mono ?_
 rintro e W8 ⟨A8,c8,rfl,ho8,hb8⟩;have HO8:=hid (ho8.mono HB7.out.size);have HB8:=hid (HB7.out.st hb8);have hd8:=HTD.out.keep HTS.out.lt hb8;obtain⟨lo,b0,k0,hLA,r0,_,_,xl,_⟩:=hd8.lAt (i:=0) (Nat.succ_pos _) (Nat.pos_of_ne_zero (by simp));have x0:=xl 0 (Nat.pos_of_ne_zero (by simp));rw[HTL.out 0 (Nat.zero_le _) 0 (Nat.pos_of_ne_zero (by simp)),Nat.sub_zero,hcm]at x0;have c4:=hd8.c4;rw[hLA]at c4;obtain⟨N,hN⟩:∃N,m.n+1=N:=⟨_,rfl⟩;obtain⟨all,hall⟩:∃N,2^m.col.length=N:=⟨_,rfl⟩;rw[hN]at c4;rw[hall]at r0;have n1:(0:Int)<(N:Int):=by omega
 have n2:decide (0<N)=true:=decide_eq_true (by omega);have ha:0<all:=by rw[←hall];exact Nat.pos_of_ne_zero (by simp)
 have n3:(0:Int)<(all:Int):=by omega
 have n4:decide (0<all)=true:=decide_eq_true ha;clear ho8 hb8 hd8 xl hN hall hcm;go_wp2_with fail
 go_quiet(fail)
 go_wp2_with fail
 go_ret3;exact⟨A8,c8,rfl,HO8.out,below_drewN HB8.out _⟩
end
section
open Go.RowKit Go.Lib
section
variable {α:Type}{enc:α→List Value}{k:Nat}{A:Option Addr}{c:Nat}{w:World}{P:Program}{t e bytes base:Nat}
theorem flat_drop (hE:Enc enc k):∀(n:Nat) (l0:List α),(l0.flatMap enc).drop (n*k)=(l0.drop n).flatMap enc:=by
 intro n;induction n with
 |zero=>intro l0;simp
 |succ n ih=>
  intro l0;cases l0 with
  |nil=>simp
  |cons x l=>
   have e:(n+1)*k=(enc x).length+n*k:=by rw[hE.1,Nat.succ_mul,Nat.add_comm]
   rw[List.flatMap_cons,e,List.drop_append,List.drop_of_length_le (by omega),List.nil_append,Nat.add_sub_cancel_left,ih];rfl
theorem run_copy_part (hE:Enc enc k)(T:TyS P t e k bytes){g:Nat}{l0:List α}(h:Own e enc k w base (some ⟨g,0,none⟩) c l0){B:Nat}{A2:Option Addr}{c2:Nat}{l:List α}(hr:Rd enc k w B A2 l)(hn:l.length≤l0.length)(sT ty:TypeId):
  ∃w',(Builtin.copy_ #[t,sT] ty #[.slice (some ⟨g,0,none⟩) l0.length c,.slice A2 l.length c2]).run P w=.ok (goInt l.length) w'∧Own e enc k w' base (some ⟨g,0,none⟩) c (l++l0.drop l.length)∧(∀B w0,B≤g→Below B w0 w→Below B w0 w')∧(∀b,b≠g→w'.heap[b]? =w.heap[b]?)∧w'.heap.size=w.heap.size:=by
 obtain⟨i,Z,hi,hz0,hsz,hby,hzs⟩:=T.info;have hmin:min l0.length l.length=l.length:=Nat.min_eq_right hn;have hmin2:min l.length l0.length=l.length:=Nat.min_eq_left hn;by_cases hne:l=[]
 ·subst hne;refine⟨w,?_,by simpa using h,fun _ _ _ hb=>hb,fun _ _=>rfl,rfl⟩;have hl:∀(x:Addr),(loadCells x 0).run P w=.ok #[] w:=fun x=>by simpa using run_loadCells_list (P:=P) w x [] (by simp)
  cases A2<;>simp[Builtin.copy_,run_underlying T.under,Builtin.lenOf,Builtin.firstCells,sizeOf,typeInfo,hi,storeCells,hl]
 ·obtain⟨b,off,rfl,_,_⟩:=hr hne;have hsrc:=rd_flat hE T.pos hr;have hl:=run_loadCells_list (P:=P) w ⟨b,off,none⟩ (l.flatMap enc) hsrc;rw[flat_length hE]at hl;have hfl0:=flat_length hE l0;have hle:l.length*k≤l0.length*k:=Nat.mul_le_mul_right k hn;have hc:∀j,j<(l.flatMap enc).length→(w.cell? ⟨g,0+0+j,none⟩).isSome=true∧w.frozen? ⟨g,0+0+j,none⟩=false:=fun j hj=>by
   rw[flat_length hE]at hj;have hj:j<(l0.flatMap enc).length:=by rw[hfl0];omega
   rw[show 0+0+j=j by omega];refine⟨?_,h.frozen rfl _⟩;rw[World.ownsRow.cellAt h j (by rw[←hfl0];exact hj),List.getElem?_eq_getElem hj];rfl
  have hst:=run_storeCells_cells (P:=P) g 0 (l.flatMap enc) 0 w (fun j hj=>(hc j hj).1) (fun j hj=>(hc j hj).2) (fun v hv=>by
   rw[List.mem_flatMap]at hv;obtain⟨y,_,hy⟩:=hv;exact hE.2 y v hy)
  have hown:=ownsRow_setCells (l.flatMap enc) 0 (show w.ownsRow base e k (.slice (some ⟨g,0,none⟩) l0.length c) l0.length (l0.flatMap enc)from h) (by rw[flat_length hE,flat_length hE];omega);rw[List.take_zero,List.nil_append,flat_length hE,Nat.zero_add,flat_drop hE,←List.flatMap_append]at hown;refine⟨w.setCells g 0 (l.flatMap enc),?_,?_,fun B w0 hB hb=>Below_setCs hb hB _ _,fun b hb=>setCells_other _ _ _ _ hb,setCells_sz _ _ _ _⟩
  ·simp[Builtin.copy_,run_underlying T.under,Builtin.lenOf,Builtin.firstCells,sizeOf,typeInfo,hi,hsz,hmin];rw[show l.length.min l0.length=l.length from hmin2,hl];simp[hst]
  ·unfold Own;rw[show(l++l0.drop l.length).length=l0.length by rw[List.length_append,List.length_drop];omega];exact hown
theorem wpList_copyPart {ops:Array Oper}{rest:List Oper}{o:Oper}{a:Act}{Q:Exit→Act→World→Prop}(hgd:o.guard=none)(d s:Operand)(T:TyS P t e k bytes)(hE:Enc enc k)
  (ho:o.op=.call {callee:=.builtin .copy,args:=#[d,s],argTypes:=#[t,t]}) {g:Nat} {l0:List α} {n m:Nat} (hd:a.eval d=.slice (some ⟨g,0,none⟩) n c) (hn:n=l0.length) (h:Own e enc k w base (some ⟨g,0,none⟩) c l0)
  {B:Nat} {A2:Option Addr} {c2:Nat} {l:List α} (hs:a.eval s=.slice A2 m c2) (hm:m=l.length) (hr:Rd enc k w B A2 l) (hll:l.length≤l0.length)
  (hK:∀w',Own e enc k w' base (some ⟨g,0,none⟩) c (l++l0.drop l.length)→(∀B w0,B≤g→Below B w0 w→Below B w0 w')→(∀b,b≠g→w'.heap[b]? =w.heap[b]?)→w'.heap.size=w.heap.size→wpList P ops Q rest (a.put o.dst (goInt l.length)) w'):wpList P ops Q (o::rest) a w:=by
 subst hn;subst hm;refine wpList_plain hgd fun K hK'=> ?_;obtain⟨w',hrun,h1,h2,h3,h4⟩:=run_copy_part hE T h hr hll t o.type (c2:=c2);unfold Oper.wp;simp only[execOp,ho,resolve,invoke,builtin,Sem.run_bind,Sem.run_pure,Result.andThen_ok,List.map_toArray,List.map_cons,List.map_nil,hd,hs,hrun];exact hK' _ _ (hK w' h1 h2 h3 h4)
end
end
section
open Go.RowKit Go.Lib
section
variable {α:Type}{enc:α→List Value}{k:Nat}{A:Option Addr}{l:List α}{P:Program}{t e bytes:Nat}{w:World}
theorem TyS.size (T:TyS P t e k bytes)(w:World):(Go.sizeOf e).run P w=.ok k w:=by
 obtain⟨i,z,hi,hz,hsz,hby,hzs⟩:=T.info;simp[Go.sizeOf,typeInfo,hi,hsz]
theorem Rd.drop {B:Nat}(h:Rd enc k w B A l)(j c:Nat)(hj:j≤l.length)(hc:l.length≤c):Rd enc k w B (if c=j then A else A.map (·.add (j*k))) (l.drop j):=by
 intro hne;have hlt:j<l.length:=by
  rcases Nat.lt_or_ge j l.length with q|q
  ·exact q
  ·exact absurd (List.drop_eq_nil_of_le q) hne
 obtain⟨b,off,hA,hb,hcell⟩:=h (fun q=>by rw[q]at hlt;cases hlt);rw[if_neg (by omega),hA];refine⟨b,off+j*k,by simp[Addr.add],hb,fun i x hi m u hu=> ?_⟩;rw[List.getElem?_drop]at hi;have:=hcell (j+i) x hi m u hu
 rw[show off+(j+i)*k+m=off+j*k+i*k+m by rw[Nat.add_mul];omega]at this;exact this
theorem wpList_sliceTo {ops:Array Oper}{rest:List Oper}{o:Oper}{a:Act}{Q:Exit→Act→World→Prop}(hgd:o.guard=none)(x y:Operand)(T:TyS P t e k bytes)
  (ho:o.op=.slice t x none (some y) none) {n c j:Nat} (hx:a.eval x=.slice A n c) (hy:a.eval y=.int .i64 j) (hj:j≤c)
  (h:wpList P ops Q rest (a.put o.dst (.slice A j c)) w):wpList P ops Q (o::rest) a w:=by
 refine wpList_plain hgd fun K hK=> ?_;have hT:P.underlying t=some (.slice (P.elem t)):=by unfold Program.elem;rw[T.under]
 have hE:P.elem t=e:=by unfold Program.elem;rw[T.under]
 have hr:(Instr.sliceAt t (.slice A n c) none (some (.int .i64 j)) none).run P w=.ok (.slice A j c) w:=by
  rw[run_sliceAt_slice w t _ _ _ _ hT,run_slice_h w t A n c hT .i64 j (by omega) (by omega),hE,T.size];simp only[Result.andThen,sliced,Int.toNat_natCast,Nat.zero_mul,Nat.sub_zero];congr 2;split
  ·rfl
  ·cases A with
   |none=>rfl
   |some q=>simp[Addr.add]
 unfold Oper.wp;simp[execOp,ho,hx,hy,hr,Result.andThen];exact hK _ _ h
end
end
end Go.Proofs.YtimffppffbideaaGreatDoor
