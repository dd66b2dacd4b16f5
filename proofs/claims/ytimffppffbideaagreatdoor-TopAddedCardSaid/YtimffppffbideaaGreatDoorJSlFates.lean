import Derived.Test.YtimffppffbideaaGreatDoorJDevRCheck
set_option linter.unusedSimpArgs false
set_option linter.unusedVariables false
set_option maxRecDepth 100000
set_option maxHeartbeats 16000000
namespace Go.Proofs.YtimffppffbideaaGreatDoor
section
open Go.RowKit Go.Lib Go.Sort
open Mat
theorem cmpDt_eqDt (x y:Dt):(cmpDt x y==0)=eqDt x y:=by
 rw[Bool.eq_iff_iff,beq_iff_eq,cmpDt_zero,eqDt_iff]
theorem cntD_snoc {d:Dt}{l:List Rj}{i:Nat}{x:Rj}(h:l[i]? =some x):cntD d ((l.take (i+1)).map Rj.d)=cntD d ((l.take i).map Rj.d)+if eqDt x.d d=true then 1 else 0:=by
 rw[List.take_add_one,h,Option.toList_some,List.map_append];unfold cntD;rw[List.countP_append];simp only[List.map_cons,List.map_nil,List.countP_cons,List.countP_nil,cmpDt_eqDt];simp
theorem cntD_le (d:Dt)(l:List Rj)(i:Nat):cntD d ((l.take i).map Rj.d)≤l.length:=by
 unfold cntD;refine Nat.le_trans List.countP_le_length ?_;rw[List.length_map,List.length_take];omega
theorem cntK_snoc {k:Src}{l:List Src}{i:Nat}{x:Src}(h:l[i]? =some x):cntK k (l.take (i+1))=cntK k (l.take i)+if(eqS x.1 k.1&&x.2==k.2)=true then 1 else 0:=by
 rw[List.take_add_one,h,Option.toList_some];unfold cntK;rw[List.countP_append];simp only[List.countP_cons,List.countP_nil];simp
theorem cntK_le (k:Src)(l:List Src):cntK k l≤l.length:=List.countP_le_length
def sumK (k:Src)(ps:List Pg)(i:Nat):Nat:=((ps.take i).map fun x=>cntK k x.v.src).sum
theorem sumK_succ {k:Src}{ps:List Pg}{i:Nat}{x:Pg}(h:ps[i]? =some x):sumK k ps (i+1)=sumK k ps i+cntK k x.v.src:=by
 unfold sumK;rw[List.take_add_one,h,Option.toList_some,List.map_append,List.sum_append];simp
theorem sumK_le {k:Src}{ps:List Pg}(h:∀x∈ps,x.v.src.length≤1000):∀i,sumK k ps i≤1000*i:=by
 intro i;induction i with
 |zero=>exact Nat.zero_le _
 |succ i ih=>
  cases hx:ps[i]? with
  |none=>
   have:sumK k ps (i+1)=sumK k ps i:=by unfold sumK;rw[List.take_add_one,hx];simp
   omega
  |some x=>
   rw[sumK_succ hx];have h1:=cntK_le k x.v.src;have h2:=h x (List.mem_of_getElem? hx);omega
theorem sumK_full (k:Src)(ps:List Pg):sumK k ps ps.length=(((ps.map Pg.v).map Pv.src).map (cntK k)).sum:=by
 unfold sumK;rw[List.take_length,List.map_map,List.map_map];rfl
theorem fates_any (d1 d4 d5:ByteArray)(d2 d3 d6 d7:Int){pA rA mA:Option Addr}(pc rc mc:Nat){ps:List Pg}{rs ms:List Rj}{w:World}(hp:Rd encPg 8 w w.heap.size pA ps)(hs:∀x∈ps,Rd encSr 2 w w.heap.size x.A x.v.src)
  (hr:Rd encRj 8 w w.heap.size rA rs) (hm:Rd encRj 8 w w.heap.size mA ms) (hpl:ps.length≤100000) (hsl:∀x∈ps,x.v.src.length≤1000) (hrl:rs.length≤100000) (hml:ms.length≤100000):
  Calls Tryz.prog 11 #[.agg #[.string d1,.int .i64 d2,.int .i64 d3,.string d4,.string d5,.int .i64 d6,.int .i64 d7],.slice pA ps.length pc,.slice rA rs.length rc,.slice mA ms.length mc] w fun e w'=>e=.returned (.int .i64 (fateV (⟨d1,d2,d3,d4,d5,d6,d7⟩:Dt) (ps.map Pg.v) rs ms))∧Below w.heap.size w w':=by
 obtain⟨Y1,hY1⟩:∃Y,w.alloc (.cells #[.string d1,.int .i64 d2,.int .i64 d3,.string d4,.string d5,.int .i64 d6,.int .i64 d7] 61)=Y:=⟨_,rfl⟩;have b1:Below w.heap.size w Y1:=by rw[←hY1];exact(Below.refl _ w).al _
 have HDB:Hid (Blk Y1 w.heap.size #[.string d1,.int .i64 d2,.int .i64 d3,.string d4,.string d5,.int .i64 d6,.int .i64 d7] 61):=hid (by rw[←hY1];exact Blk.new w _ _);have HP:=hid (hp.st b1);have HS:=hid (fun x hx=>(hs x hx).st b1);have HR:=hid (hr.st b1);have HM:=hid (hm.st b1);have HB1:=hid b1;have HSL:=hid hsl;have HFV:=hid (show fateV (⟨d1,d2,d3,d4,d5,d6,d7⟩:Dt) (ps.map Pg.v) rs ms=if 0<cntD (⟨d1,d2,d3,d4,d5,d6,d7⟩:Dt) (rs.map Rj.d)+cntD (⟨d1,d2,d3,d4,d5,d6,d7⟩:Dt) (ms.map Rj.d)then cntD (⟨d1,d2,d3,d4,d5,d6,d7⟩:Dt) (rs.map Rj.d)+cntD (⟨d1,d2,d3,d4,d5,d6,d7⟩:Dt) (ms.map Rj.d)else(((ps.map Pg.v).map Pv.src).map (cntK (d1,d2))).sum from rfl);have HCR:=hid (cntD_le (⟨d1,d2,d3,d4,d5,d6,d7⟩:Dt) rs);have HCM:=hid (cntD_le (⟨d1,d2,d3,d4,d5,d6,d7⟩:Dt) ms);obtain⟨fv,hfv⟩:∃v,fateV (⟨d1,d2,d3,d4,d5,d6,d7⟩:Dt) (ps.map Pg.v) rs ms=v:=⟨_,rfl⟩;rw[hfv]at HFV ⊢;obtain⟨pn,hpn⟩:∃n,ps.length=n:=⟨_,rfl⟩;obtain⟨rn,hrn⟩:∃n,rs.length=n:=⟨_,rfl⟩;obtain⟨mn,hmn⟩:∃n,ms.length=n:=⟨_,rfl⟩;have HPN:=hid hpn;have HRN:=hid hrn;have HMN:=hid hmn;rw[hpn]at hpl ⊢;rw[hrn]at hrl ⊢;rw[hmn]at hml ⊢;rw[hrn]at HCR;rw[hmn]at HCM;clear hp hs hr hm hsl b1 hfv hpn hrn hmn;go_enter Tryz.func11,Tryz.ntmps11;go_wp2_with fail
 go_loopw [9,10] (fun sn si wx=>∃i:Nat,i≤rn∧si=.int .i64 i∧sn=.int .i64 (cntD (⟨d1,d2,d3,d4,d5,d6,d7⟩:Dt) ((rs.take i).map Rj.d):Nat)∧Hid (Below Y1.heap.size Y1 wx)) (fun _ si _=>rn-(RowKit.intOf si).toNat)
 case atStart=>exact⟨0,Nat.zero_le _,rfl,rfl,Below.refl _ _⟩
 case round=>
  obtain⟨i,hi,rfl,rfl,HB⟩:=hrel;have i0:(0:Int)≤(i:Int):=by omega
  have hcn:=HCR.out i;by_cases hin:i<rn
  ·obtain⟨b,off,x,rfl,hb,hx,hc⟩:=(HR.out.st HB.out).at_ (i:=i) (by rw[HRN.out];exact hin);have HI:=hid hin;have HST:=hid (cntD_snoc (d:=(⟨d1,d2,d3,d4,d5,d6,d7⟩:Dt)) hx);have i1:(i:Int)<(rn:Int):=by omega
   have i2:decide (i<rn)=true:=decide_eq_true hin;obtain⟨⟨a1,a2,a3,a4,a5,a6,a7⟩,aw⟩:=x;simp only at HST;have e0:wr.cell? ⟨b,off+i*8,none⟩=some (.string a1):=by simpa using hc 0 _ rfl
   have e1:wr.cell? ⟨b,off+i*8+1,none⟩=some (.int .i64 a2):=hc 1 _ rfl;have e2:wr.cell? ⟨b,off+i*8+2,none⟩=some (.int .i64 a3):=hc 2 _ rfl;have e3:wr.cell? ⟨b,off+i*8+3,none⟩=some (.string a4):=hc 3 _ rfl;have e4:wr.cell? ⟨b,off+i*8+4,none⟩=some (.string a5):=hc 4 _ rfl;have e5:wr.cell? ⟨b,off+i*8+5,none⟩=some (.int .i64 a6):=hc 5 _ rfl;have e6:wr.cell? ⟨b,off+i*8+6,none⟩=some (.int .i64 a7):=hc 6 _ rfl;have BD:=HDB.out.below HB.out HDB.out.lt;have g0:=BD.cell 0 (v:=.string d1) rfl;have g1:=BD.cell 1 (v:=.int .i64 d2) rfl;have g2:=BD.cell 2 (v:=.int .i64 d3) rfl;have g3:=BD.cell 3 (v:=.string d4) rfl;have g4:=BD.cell 4 (v:=.string d5) rfl;have g5:=BD.cell 5 (v:=.int .i64 d6) rfl;have g6:=BD.cell 6 (v:=.int .i64 d7) rfl;have qe:=fun w1=>eqDt_run a1 d1 a4 d4 a5 d5 a2 a3 a6 a7 d2 d3 d6 d7 w1;generalize hq:eqDt ⟨a1,a2,a3,a4,a5,a6,a7⟩ (⟨d1,d2,d3,d4,d5,d6,d7⟩:Dt)=q at*;obtain⟨cn,hcn2⟩:∃c,cntD (⟨d1,d2,d3,d4,d5,d6,d7⟩:Dt) ((rs.take i).map Rj.d)=c:=⟨_,rfl⟩;rw[hcn2]at HST hcn ⊢;clear hc hb hx hi hin BD hq hcn2;cases q
   ·have HN9:=hid (HST.out.trans (by rw[if_neg (by simp)]));clear HST;go_wp2_with fail
    go_quiet(fail)
    generalize hY:wr.drewN _=Y;have HBN:Hid (Below Y1.heap.size Y1 Y):=hid (by rw[←hY];exact below_drewN HB.out _);clear hY e0 e1 e2 e3 e4 e5 e6 g0 g1 g2 g3 g4 g5 g6;go_wp2_with fail
    go_roundw
    case rel=>exact⟨i+1,HI.out,by go_num,by rw[HN9.out];first|done|(simp;done)|(simp;omega),HBN⟩
    case measure=>have:=HI.out;simp[RowKit.intOf];omega
   ·have HN9:=hid (HST.out.trans (by rw[if_pos rfl]));have w9:IntKind.i64.wrap ((cn:Int)+1)=(cn:Int)+1:=IntWalk.i64_in _ (by omega);clear HST;go_wp2_with fail
    go_quiet(fail)
    generalize hY:wr.drewN _=Y;have HBN:Hid (Below Y1.heap.size Y1 Y):=hid (by rw[←hY];exact below_drewN HB.out _);clear hY e0 e1 e2 e3 e4 e5 e6 g0 g1 g2 g3 g4 g5 g6;go_wp2_with fail
    go_roundw
    case rel=>exact⟨i+1,HI.out,by go_num,by rw[HN9.out];first|done|(simp;done)|(simp;omega),HBN⟩
    case measure=>have:=HI.out;simp[RowKit.intOf];omega
  ·obtain rfl:rn=i:=by omega
   have hfr:rs.take rn=rs:=List.take_of_length_le (Nat.le_of_eq HRN.out);rw[hfr]at hcn ⊢;obtain⟨c1,hc1⟩:∃c,cntD (⟨d1,d2,d3,d4,d5,d6,d7⟩:Dt) (rs.map Rj.d)=c:=⟨_,rfl⟩;rw[hc1]at hcn ⊢;have HC1:=hid hc1;obtain⟨w2,rfl⟩:∃x,x=wr:=⟨_,rfl⟩;clear hfr hi hin hc1 HCR;go_wp2_with fail
   go_loopw [9,11] (fun sn si wx=>∃i:Nat,i≤mn∧si=.int .i64 i∧sn=.int .i64 ((c1+cntD (⟨d1,d2,d3,d4,d5,d6,d7⟩:Dt) ((ms.take i).map Rj.d):Nat):Int)∧Hid (Below Y1.heap.size Y1 wx)) (fun _ si _=>mn-(RowKit.intOf si).toNat)
   case atStart=>exact⟨0,Nat.zero_le _,rfl,rfl,HB⟩
   case round=>
    clear HB;obtain⟨i,hi,rfl,rfl,HB⟩:=hrel;have i0:(0:Int)≤(i:Int):=by omega
    have hcm:=HCM.out i;by_cases hin:i<mn
    ·obtain⟨b,off,x,rfl,hb,hx,hc⟩:=(HM.out.st HB.out).at_ (i:=i) (by rw[HMN.out];exact hin);have HI:=hid hin;have HST:=hid (cntD_snoc (d:=(⟨d1,d2,d3,d4,d5,d6,d7⟩:Dt)) hx);have i1:(i:Int)<(mn:Int):=by omega
     have i2:decide (i<mn)=true:=decide_eq_true hin;obtain⟨⟨a1,a2,a3,a4,a5,a6,a7⟩,aw⟩:=x;simp only at HST;have e0:wr.cell? ⟨b,off+i*8,none⟩=some (.string a1):=by simpa using hc 0 _ rfl
     have e1:wr.cell? ⟨b,off+i*8+1,none⟩=some (.int .i64 a2):=hc 1 _ rfl;have e2:wr.cell? ⟨b,off+i*8+2,none⟩=some (.int .i64 a3):=hc 2 _ rfl;have e3:wr.cell? ⟨b,off+i*8+3,none⟩=some (.string a4):=hc 3 _ rfl;have e4:wr.cell? ⟨b,off+i*8+4,none⟩=some (.string a5):=hc 4 _ rfl;have e5:wr.cell? ⟨b,off+i*8+5,none⟩=some (.int .i64 a6):=hc 5 _ rfl;have e6:wr.cell? ⟨b,off+i*8+6,none⟩=some (.int .i64 a7):=hc 6 _ rfl;have BD:=HDB.out.below HB.out HDB.out.lt;have g0:=BD.cell 0 (v:=.string d1) rfl;have g1:=BD.cell 1 (v:=.int .i64 d2) rfl;have g2:=BD.cell 2 (v:=.int .i64 d3) rfl;have g3:=BD.cell 3 (v:=.string d4) rfl;have g4:=BD.cell 4 (v:=.string d5) rfl;have g5:=BD.cell 5 (v:=.int .i64 d6) rfl;have g6:=BD.cell 6 (v:=.int .i64 d7) rfl;have qe:=fun w1=>eqDt_run a1 d1 a4 d4 a5 d5 a2 a3 a6 a7 d2 d3 d6 d7 w1;generalize hq:eqDt ⟨a1,a2,a3,a4,a5,a6,a7⟩ (⟨d1,d2,d3,d4,d5,d6,d7⟩:Dt)=q at*;obtain⟨cn,hcn2⟩:∃c,cntD (⟨d1,d2,d3,d4,d5,d6,d7⟩:Dt) ((ms.take i).map Rj.d)=c:=⟨_,rfl⟩;rw[hcn2]at HST hcm ⊢;clear hc hb hx hi hin BD hq hcn2;cases q
     ·have HN9:=hid (HST.out.trans (by rw[if_neg (by simp)]));clear HST;go_wp2_with fail
      go_quiet(fail)
      generalize hY:wr.drewN _=Y;have HBN:Hid (Below Y1.heap.size Y1 Y):=hid (by rw[←hY];exact below_drewN HB.out _);clear hY e0 e1 e2 e3 e4 e5 e6 g0 g1 g2 g3 g4 g5 g6;go_wp2_with fail
      go_roundw
      case rel=>exact⟨i+1,HI.out,by go_num,by rw[HN9.out];first|done|(simp;done)|(simp;omega),HBN⟩
      case measure=>have:=HI.out;simp[RowKit.intOf];omega
     ·have HN9:=hid (HST.out.trans (by rw[if_pos rfl]));have w9:IntKind.i64.wrap (((c1+cn:Nat):Int)+1)=((c1+cn:Nat):Int)+1:=IntWalk.i64_in _ (by omega);clear HST;go_wp2_with fail
      go_quiet(fail)
      generalize hY:wr.drewN _=Y;have HBN:Hid (Below Y1.heap.size Y1 Y):=hid (by rw[←hY];exact below_drewN HB.out _);clear hY e0 e1 e2 e3 e4 e5 e6 g0 g1 g2 g3 g4 g5 g6;go_wp2_with fail
      go_roundw
      case rel=>exact⟨i+1,HI.out,by go_num,by rw[HN9.out];first|done|(simp;done)|(simp;omega),HBN⟩
      case measure=>have:=HI.out;simp[RowKit.intOf];omega
    ·obtain rfl:mn=i:=by omega
     have hfm:ms.take mn=ms:=List.take_of_length_le (Nat.le_of_eq HMN.out);rw[hfm]at hcm ⊢;obtain⟨c2,hc2⟩:∃c,c1+cntD (⟨d1,d2,d3,d4,d5,d6,d7⟩:Dt) (ms.map Rj.d)=c:=⟨_,rfl⟩;rw[hc2];have hcc:c2≤200000:=by omega
     have HFW:=hid (show fv=if 0<c2 then c2 else(((ps.map Pg.v).map Pv.src).map (cntK (d1,d2))).sum by rw[HFV.out,HC1.out,hc2]);obtain⟨w3,rfl⟩:∃x,x=wr:=⟨_,rfl⟩;clear hfm hi hin hc2 HCM hcm;by_cases hpos:0<c2
     ·have hpi:(0:Int)<(c2:Int):=by omega
      have HE:=hid (HFW.out.trans (if_pos hpos));clear hpos;go_wp2_with fail
      go_ret;exact⟨by rw[HE.out];rfl,HB1.out.st HB.out⟩
     ·obtain rfl:c2=0:=by omega
      have HE:=hid (HFW.out.trans (if_neg hpos));rw[←sumK_full,HPN.out]at HE;clear hpos HFW;have HKB:=hid (sumK_le (k:=(d1,d2)) HSL.out);go_wp2_with fail
      go_loopw [9,12] (fun sn si wx=>∃i:Nat,i≤pn∧si=.int .i64 i∧sn=.int .i64 (sumK (d1,d2) ps i:Nat)∧Hid (Below Y1.heap.size Y1 wx)) (fun _ si _=>pn-(RowKit.intOf si).toNat)
      case atStart=>exact⟨0,Nat.zero_le _,rfl,rfl,HB⟩
      case round=>
       clear HB;obtain⟨i,hi,rfl,rfl,HB⟩:=hrel;have i0:(0:Int)≤(i:Int):=by omega
       have hkb:=HKB.out i;by_cases hin:i<pn
       ·obtain⟨pb,po,x,rfl,hb,hx,hc⟩:=HP.out.at_ (i:=i) (by rw[HPN.out];exact hin);have HI:=hid hin;have HST:=hid (sumK_succ (k:=(d1,d2)) hx);have HSX:=hid (HS.out x (List.mem_of_getElem? hx));have hsl:=HSL.out x (List.mem_of_getElem? hx);have i1:(i:Int)<(pn:Int):=by omega
        have i2:decide (i<pn)=true:=decide_eq_true hin;obtain⟨m,hm⟩:∃n,x.v.src.length=n:=⟨_,rfl⟩;have HMM:=hid hm;have HC7:=hid (fun(X:World) (hX:Below Y1.heap.size Y1 X)=>show X.cell? ⟨pb,po+i*8+7,none⟩=some (.slice x.A m x.c) by rw[←hm];exact(HP.out.st hX).cellAt hx (j:=7) rfl);obtain⟨sv,hsv⟩:∃v,sumK (d1,d2) ps i=v:=⟨_,rfl⟩;rw[hm]at hsl;rw[hsv]at HST hkb ⊢;have hi9:i≤100000:=by omega
        clear hb hx hc hi hin hm hsv;go_wp2_with fail
        go_loopw [9,13] (fun sn sk wx=>∃k:Nat,k≤m∧sk=.int .i64 k∧sn=.int .i64 ((sv+cntK (d1,d2) (x.v.src.take k):Nat):Int)∧Hid (Below Y1.heap.size Y1 wx)) (fun _ sk _=>m-(RowKit.intOf sk).toNat)
        case atStart=>exact⟨0,Nat.zero_le _,rfl,rfl,HB⟩
        case round=>
         obtain⟨wo,rfl⟩:∃wo,wo=wr:=⟨_,rfl⟩;clear HB;obtain⟨k,hk,rfl,rfl,HBK⟩:=hrel;have k0:(0:Int)≤(k:Int):=by omega
         have hck:cntK (d1,d2) (x.v.src.take k)≤1000:=by have:=cntK_le (d1,d2) (x.v.src.take k);rw[List.length_take,HMM.out]at this;omega
         have h7:=HC7.out wo HBK.out;by_cases hkm:k<m
         ·obtain⟨sb,so,z,hA,hsb,hz,hzc⟩:=(HSX.out.st HBK.out).at_ (i:=k) (by rw[HMM.out];exact hkm);rw[hA]at h7;have HKI:=hid hkm;have HSK:=hid (cntK_snoc (k:=(d1,d2)) hz);obtain⟨z1,z2⟩:=z;simp only at HSK;have e0:wo.cell? ⟨sb,so+k*2,none⟩=some (.string z1):=by simpa using hzc 0 _ rfl
          have e1:wo.cell? ⟨sb,so+k*2+1,none⟩=some (.int .i64 z2):=hzc 1 _ rfl;have BD:=HDB.out.below HBK.out HDB.out.lt;have g0:=BD.cell 0 (v:=.string d1) rfl;have g1:=BD.cell 1 (v:=.int .i64 d2) rfl;have k1:(k:Int)<(m:Int):=by omega
          have k2:decide (k<m)=true:=decide_eq_true hkm;have te:(z1.toList==d1.toList)=eqS z1 d1:=rfl;obtain⟨cn,hcn⟩:∃c,cntK (d1,d2) (x.v.src.take k)=c:=⟨_,rfl⟩;rw[hcn]at HSK hck ⊢;clear hsb hz hzc BD hk hkm hcn hA;cases hq:eqS z1 d1
          ·rw[hq]at te;have HN9:=hid (HSK.out.trans (show cn+(if(eqS z1 d1&&z2==d2)=true then 1 else 0)=cn by rw[hq];simp));clear hq HSK;go_wp2_with fail
           go_quiet(fail)
           generalize hY:wo.drewN _=Y;have HBN:Hid (Below Y1.heap.size Y1 Y):=hid (by rw[←hY];exact below_drewN HBK.out _);clear hY e0 e1 g0 g1 h7;go_wp2_with fail
           go_roundw
           case rel=>exact⟨k+1,HKI.out,by go_num,by rw[HN9.out];first|done|(simp;done)|(simp;omega),HBN⟩
           case measure=>have:=HKI.out;simp[RowKit.intOf];omega
          ·rw[hq]at te;by_cases hz2:z2=d2
           ·have hzb:(z2==d2)=true:=by simp[hz2]
            have HN9:=hid (HSK.out.trans (by rw[hq,hzb,Bool.and_self,if_pos rfl]));have w9:IntKind.i64.wrap (((sv+cn:Nat):Int)+1)=((sv+cn:Nat):Int)+1:=IntWalk.i64_in _ (by omega);clear hq hz2 HSK;go_wp2_with fail
            go_quiet(fail)
            generalize hY:wo.drewN _=Y;have HBN:Hid (Below Y1.heap.size Y1 Y):=hid (by rw[←hY];exact below_drewN HBK.out _);clear hY e0 e1 g0 g1 h7;go_wp2_with fail
            go_roundw
            case rel=>exact⟨k+1,HKI.out,by go_num,by rw[HN9.out];first|done|(simp;done)|(simp;omega),HBN⟩
            case measure=>have:=HKI.out;simp[RowKit.intOf];omega
           ·have hzb:(z2==d2)=false:=by simp[hz2]
            have HN9:=hid (HSK.out.trans (show cn+(if(eqS z1 d1&&z2==d2)=true then 1 else 0)=cn by rw[hq,hzb];simp));clear hq hz2 HSK;go_wp2_with fail
            go_quiet(fail)
            generalize hY:wo.drewN _=Y;have HBN:Hid (Below Y1.heap.size Y1 Y):=hid (by rw[←hY];exact below_drewN HBK.out _);clear hY e0 e1 g0 g1 h7;go_wp2_with fail
            go_roundw
            case rel=>exact⟨k+1,HKI.out,by go_num,by rw[HN9.out];first|done|(simp;done)|(simp;omega),HBN⟩
            case measure=>have:=HKI.out;simp[RowKit.intOf];omega
         ·obtain rfl:m=k:=by omega
          have HN9:=hid (show sumK (d1,d2) ps (i+1)=sv+cntK (d1,d2) (x.v.src.take m) by rw[HST.out,List.take_of_length_le (Nat.le_of_eq HMM.out)]);clear hk hkm HST;go_wp2_with fail
          go_roundw
          case rel=>exact⟨i+1,HI.out,by go_num,by rw[HN9.out],HBK⟩
          case measure=>have:=HI.out;simp[RowKit.intOf];omega
       ·obtain rfl:pn=i:=by omega
        clear hi hin;go_wp2_with fail
        go_ret;exact⟨by rw[HE.out];rfl,HB1.out.st HB.out⟩
end
section
open Go.RowKit Go.Lib
theorem corW_ok {l:List Dv}{d:Dt}(h:corW l d=0)(hr:d.dev.size≤30∧d.tag.size≤30∧d.pl.size≤30):SnOk (corS l d):=by
 have hs:corS l d=corSn (corX l d) d:=by unfold corS;rw[if_pos h]
 rw[hs];unfold corW corOf at h;by_cases h1:(findD l d.dev).isSome=false
 ·rw[if_pos h1]at h;omega
 rw[if_neg h1]at h;by_cases h2:d.seq<0∨2147483648<d.seq∨d.sc<0∨1000<d.sc∨fitsB (corX l d).kind d=false
 ·rw[if_pos h2]at h;omega
 rw[if_neg h2]at h;by_cases h3:clockB (corX l d) d.time=false
 ·rw[if_pos h3]at h;omega
 clear h h1;have hc:clockB (corX l d) d.time=true:=by simpa using h3
 have ht:0≤clockN (corX l d) d.time∧clockN (corX l d) d.time≤68719476736:=by
  unfold clockN;rw[if_pos hc];unfold clockB at hc;simp only[Bool.and_eq_true,decide_eq_true_eq]at hc;omega
 have hf:fitsB (corX l d).kind d=true:=by
  cases hq:fitsB (corX l d).kind d
  ·exact absurd (Or.inr (Or.inr (Or.inr (Or.inr hq)))) h2
  ·rfl
 have hk:(corX l d).kind=1∨(corX l d).kind=2∨(corX l d).kind=3:=by
  unfold fitsB at hf;by_cases k1:(corX l d).kind=1
  ·exact Or.inl k1
  by_cases k2:(corX l d).kind=2
  ·exact Or.inr (Or.inl k2)
  by_cases k3:(corX l d).kind=3
  ·exact Or.inr (Or.inr k3)
  rw[if_neg k1,if_neg k2,if_neg k3]at hf;cases hf
 exact⟨ht.1,ht.2,by show 0≤d.sc;omega,by show d.sc≤1000;omega,by show 0≤d.seq;omega,by show d.seq≤2147483648;omega,by show d.pl.size≤32;omega,by show d.dev.size≤100;omega,by show d.tag.size≤100;omega,hk⟩
theorem sift_ok {l:List Dv}{ds:List Dt}{S:List Sn}{R:List Rj}(h:SiftOf l ds S R)(hr:RepOk ds):∀x∈S,SnOk x:=fun x hx=>by
 obtain⟨d,hd,hw,rfl⟩:=(h.2.2.1 x).1 hx;refine corW_ok ?_ (hr d hd);unfold whyF at hw;split at hw
 ·omega
 ·exact hw
theorem ps_src {c:Cf}{S:List Sn}(hk:Kinds S){ps:List Pg}(hp:ps.map Pg.v=allPs c S):∀x∈ps,x.v.src.length≤S.length:=fun x hx=>by
 have hm:x.v.src∈(allPs c S).map Pv.src:=by rw[←hp];exact List.mem_map.2 ⟨x.v,List.mem_map.2 ⟨x,hx,rfl⟩,rfl⟩
 obtain⟨g,hg,he⟩:=List.mem_map.1 ((all_ps c S).mem_iff.1 hm);have h1:x.v.src.length=g.length:=by rw[←he];unfold srcsV;rw[ord_len cmpSr_pre,List.length_map]
 have h2:=(all_perm c hk).length_eq;have h3:=(mem_flat hg).length_le;rw[List.length_append]at h2;omega
theorem repOk_sz {ds:List Dt}(hr:RepOk ds):∀x∈ds,SzD x:=fun x hx=>by
 have:=hr x hx
 refine⟨?_,?_,?_⟩<;>omega
def SeqOk (d:Dt):Prop:=(Lit.int .i64 d.seq).wf=true
theorem SeqOk.src {d:Dt}(h:SeqOk d)(hz:SzD d):SrcOk (srcOf d):=⟨hz.1,h⟩
end
section
open Go.RowKit Go.Lib Go.Sort
open Mat
theorem topseen_any (v2 v8 v9 v10 v11 v12 v13 v14 v15 v16 v17 v18 v19 v20 v21 v22 v23 v24:Value){pA lA dA kA gA B:Option Addr}(pc lc dc kc gc bc:Nat){pts:List Pt}{lks:List Net.Lk}{dvs:List Dv}{ks:List Cl}{gs:List Tg}{ds:List Dt}(gap weak:Int){w:World}(hp:Rd encPt 3 w w.heap.size pA pts)(hk:Rd Net.encLk 4 w w.heap.size lA lks)
  (hd:Rd encD 6 w w.heap.size dA dvs) (hz:DsOk w dvs) (hc:Rd encCl 3 w w.heap.size kA ks) (hg:Rd encTg 3 w w.heap.size gA gs) (hb:Rd encDt 7 w w.heap.size B ds) (hq:∀x∈ds,SeqOk x)
  (hl1:pts.length≤9223372036854775807) (hl2:lks.length≤9223372036854775807) (hl3:dvs.length≤9223372036854775807) (hl4:ks.length≤9223372036854775807) (hl5:gs.length≤9223372036854775807) (hl6:ds.length≤9223372036854775807) (h10:P10 w):
  Calls Tryz.prog 3 #[.agg #[.slice pA pts.length pc,.slice lA lks.length lc,v2,.slice dA dvs.length dc,.slice kA ks.length kc,.slice gA gs.length gc,.int .i64 gap,.int .i64 weak,v8,v9,v10,v11,v12,v13,v14,v15,v16,v17,v18,v19,v20,v21,v22,v23,v24],.slice B ds.length bc] w fun e w'=>e=.returned (.bool true)∧Below w.heap.size w w':=by
 obtain⟨pn,hpn⟩:∃n,pts.length=n:=⟨_,rfl⟩;obtain⟨ln,hln⟩:∃n,lks.length=n:=⟨_,rfl⟩;obtain⟨dn,hdn⟩:∃n,dvs.length=n:=⟨_,rfl⟩;obtain⟨kn,hkn⟩:∃n,ks.length=n:=⟨_,rfl⟩;obtain⟨gn,hgn⟩:∃n,gs.length=n:=⟨_,rfl⟩;obtain⟨bn,hbn⟩:∃n,ds.length=n:=⟨_,rfl⟩;have CD:=hid (fun(X:World) (hX:Below w.heap.size w X)=>devices_any v2 v8 v9 v10 v11 v12 v13 v14 v15 v16 v17 v18 v19 v20 v21 v22 v23 v24 pc lc dc kc gc gap weak (hp.st hX) (hk.st hX) (hd.st hX) (hz.st hX) (hc.st hX) (hg.st hX) hl1 hl2 hl3 hl4 hl5);rw[hpn,hln,hdn,hkn,hgn]at CD;have CR:=hid (fun(X:World) (hX:Below w.heap.size w X)=>reports_any bc 30 (hb.st hX) hl6);rw[hbn]at CR;have CS:=hid (fun(X:World) (hX:Below w.heap.size w X) (hs:dvs.length≤40∧∀y∈dvs,y.os.length≤8∧y.ds.length≤8) (hr:RepOk ds) (hn:bn≤30)=>sift_any dc bc (hd.st hX) (hz.st hX) (fun y hy=>by have:=hs.2 y hy;omega) (by omega) (hb.st hX) (by omega) (repOk_sz hr) (fun x hx=>(hq x hx).src (repOk_sz hr x hx)));rw[hdn,hbn]at CS;have CL:=hid (fun(X:World)=>lens_any (.slice pA pn pc) (.slice lA ln lc) v2 (.slice dA dn dc) v8 v9 v10 v11 v12 v13 v14 v15 v16 v17 v18 v19 v20 v21 v22 v23 v24 (kA:=kA) (gA:=gA) kc gc (ks:=ks) (gs:=gs) gap weak X);rw[hkn,hgn]at CL;have CA:=hid (fun(X:World) (hX:Below w.heap.size w X) {A:Option Addr} {S:List Sn} (c:Nat) (hr:Rd encSn 11 X X.heap.size A S) (hk9:kn≤9) (hg9:gn≤12) (hgap:gap≤3600) (hok:∀x∈S,SnOk x) (hnd:(S.map keyS).Nodup) (hl:S.length≤50)=>all_any (S:=S) (.slice none 0 0) (.slice none 0 0) (.slice none 0 0) (.slice none 0 0) (.slice none 0 0) (.int .i64 0) (.slice none 0 0) (.slice none 0 0) (.slice none 0 0) (.slice none 0 0) (.slice none 0 0) (.slice none 0 0) (.slice none 0 0) (.slice none 0 0) (.slice none 0 0) (.slice none 0 0) (.slice none 0 0) (.slice none 0 0) (.int .i64 0) (.slice none 0 0) (.string ⟨#[]⟩) (kA:=kA) (gA:=gA) kc gc c (ks:=ks) (gs:=gs) gap weak hr (hc.st hX) (hg.st hX) (by omega) (by omega) (by omega) hok hnd hl (p10_st h10 hX));rw[hkn,hgn]at CA;have CW:=hid (fun(X:World) (hX:Below w.heap.size w X)=>awake08_any X (p10_st h10 hX));obtain⟨Y1,hY1⟩:∃Y,w.alloc (.cells #[.slice pA pn pc,.slice lA ln lc,v2,.slice dA dn dc,.slice kA kn kc,.slice gA gn gc,.int .i64 gap,.int .i64 weak,v8,v9,v10,v11,v12,v13,v14,v15,v16,v17,v18,v19,v20,v21,v22,v23,v24] 46)=Y:=⟨_,rfl⟩;have HB1:=hid (show Below w.heap.size w Y1 by rw[←hY1];exact(Below.refl _ w).al _);have HC1:=hid (show Blk Y1 w.heap.size #[.slice pA pn pc,.slice lA ln lc,v2,.slice dA dn dc,.slice kA kn kc,.slice gA gn gc,.int .i64 gap,.int .i64 weak,v8,v9,v10,v11,v12,v13,v14,v15,v16,v17,v18,v19,v20,v21,v22,v23,v24] 46 by rw[←hY1];exact Blk.new w _ _);have HD:=hid hb;have HBN:=hid hbn;have HDN:=hid hdn;have HKN:=hid hkn;have HGN:=hid hgn;rw[hpn,hln,hdn,hkn,hgn,hbn];clear hp hk hd hz hc hg hq hl1 hl2 hl3 hl4 hl5 hl6 h10 hpn hln hdn hkn hgn hbn hb;go_enter Tryz.func3,Tryz.ntmps3;have HCX:=HC1;have CD1:=hid (CD.out Y1 HB1.out);clear CD;go_wp2_with(refine wpList_boxLoad rfl (ty:=46) (x:=.tmp 2) (cs:=#[.slice pA pn pc,.slice lA ln lc,v2,.slice dA dn dc,.slice kA kn kc,.slice gA gn gc,.int .i64 gap,.int .i64 weak,v8,v9,v10,v11,v12,v13,v14,v15,v16,v17,v18,v19,v20,v21,v22,v23,v24]) rfl HCX.out rfl ⟨_,Tryz.underlying46,by kernel_rfl⟩ ?_)
 have CF:=CD1.out;with_reducible refine CF.mono ?_
 rintro e W2 ⟨⟨b,rfl,hgood⟩,hb2⟩;have HB2:=hid (HB1.out.st hb2);have HC2:=hid (HC1.out.below hb2 HC1.out.lt);clear CD1 CF HCX HC1 hb2;have HGD:=hid hgood;clear hgood;cases b
 ·have CW1:=hid (CW.out W2 HB2.out);clear CW CL CS CR CA;go_wp2_with fail
  have CF:=CW1.out;with_reducible refine CF.mono ?_
  rintro e W3 ⟨rfl,hb3⟩;have HB3:=hid (HB2.out.st hb3);clear CF CW1 hb3;go_wp2_with fail
  go_ret;exact⟨rfl,HB3.out⟩
 ·have CR1:=hid (CR.out W2 HB2.out);have HGE:=hid (HGD.out rfl);clear CR HGD;go_wp2_with fail
  have CF:=CR1.out;with_reducible refine CF.mono ?_
  rintro e W3 ⟨⟨b,rfl,hgood⟩,hb3⟩;have HB3:=hid (HB2.out.st hb3);have HC3:=hid (HC2.out.below hb3 HC2.out.lt);have HRG:=hid hgood;clear CR1 CF HC2 hb3 hgood;cases b
  ·have CW1:=hid (CW.out W3 HB3.out);clear CW CL CS CA;go_wp2_with fail
   have CF:=CW1.out;with_reducible refine CF.mono ?_
   rintro e W4 ⟨rfl,hb4⟩;have HB4:=hid (HB3.out.st hb4);clear CF CW1 hb4;go_wp2_with fail
   go_ret;exact⟨rfl,HB4.out⟩
  ·have HRH:=hid (HRG.out rfl);clear HRG;have hbl:(bn:Int)≤30:=by have:=HRH.out.2;rw[HBN.out]at this;exact this
   have HQ9:=hid (show kn≤9∧gn≤12∧gap≤3600 from⟨HGE.out.k,HGE.out.g,HGE.out.gap.2⟩);have CS1:=hid (CS.out W3 HB3.out ⟨by have:=HGE.out.n;rw[HDN.out]at this;exact this,HGE.out.s⟩ HRH.out.1 (by omega));have c3:=HC3.out.cell 3 (v:=.slice dA dn dc) rfl;clear CS;go_upto_region 4 with fail
   have CF:=CS1.out;with_reducible refine CF.mono ?_
   rintro e W4 ⟨S,R,As,Ar,cs,cr,hof,hSl,hRl,rfl,rs,rr,hb4⟩;have HB4:=hid (HB3.out.st hb4);have HC4:=hid (HC3.out.below hb4 HC3.out.lt);have hSl:S.length≤bn:=by rw[←HBN.out];exact hSl
   have hRl:R.length≤bn:=by rw[←HBN.out];exact hRl
   have HOF:=hid hof;have HRS:=hid rs;have HRR:=hid rr;obtain⟨sn,hsn⟩:∃n,S.length=n:=⟨_,rfl⟩;obtain⟨rn,hrn⟩:∃n,R.length=n:=⟨_,rfl⟩;have HSN:=hid hsn;have HRN:=hid hrn;rw[hsn]at hSl ⊢;rw[hrn]at hRl ⊢;have CL1:=hid (CL.out W4);have HCX:=HC4;clear CS1 CF HC3 hb4 hof rs rr hsn hrn c3 CL;go_wp2_with(refine wpList_boxLoad rfl (ty:=46) (x:=.tmp 2) (cs:=#[.slice pA pn pc,.slice lA ln lc,v2,.slice dA dn dc,.slice kA kn kc,.slice gA gn gc,.int .i64 gap,.int .i64 weak,v8,v9,v10,v11,v12,v13,v14,v15,v16,v17,v18,v19,v20,v21,v22,v23,v24]) rfl HCX.out rfl ⟨_,Tryz.underlying46,by kernel_rfl⟩ ?_)
   have CF:=CL1.out;with_reducible refine CF.mono ?_
   rintro e W5 ⟨rfl,hb5⟩;have HB5:=hid (HB4.out.st hb5);have CA1:=CA.out W5 HB5.out cs (HRS.out.st hb5) HQ9.out.1 HQ9.out.2.1 HQ9.out.2.2 (sift_ok HOF.out HRH.out.1) (sift_keys HOF.out) (by rw[HSN.out];omega);rw[HSN.out]at CA1;have CA1:=hid CA1;have HRR5:=hid (HRR.out.st hb5);clear CL1 CF HCX HC4 hb5 HRR CA;go_wp2_with fail
   have CF:=CA1.out;with_reducible refine CF.mono ?_
   rintro e W6 ⟨⟨qA,qc,ps,mA,mc,ms,rfl,hrp,hps,hsx,hrm,hms,hpl,hml⟩,hb6⟩;have HB6:=hid (HB5.out.st hb6);have HR6:=hid (HRR5.out.st hb6);obtain⟨qn,hqn⟩:∃n,ps.length=n:=⟨_,rfl⟩;obtain⟨mn,hmn⟩:∃n,ms.length=n:=⟨_,rfl⟩;have hsrc:∀x∈ps,x.v.src.length≤1000:=fun x hx=>Nat.le_trans (ps_src (kinds_ok (sift_ok HOF.out HRH.out.1)) hps x hx) (by rw[HSN.out];omega);have CX:=hid (fun(X:World) (hX:Below W6.heap.size W6 X) (d1 d4 d5:ByteArray) (d2 d3 d6 d7:Int)=>fates_any d1 d4 d5 d2 d3 d6 d7 qc cr mc (hrp.st hX) (fun x hx=>(hsx x hx).st hX) (HR6.out.st hX) (hrm.st hX) (by omega) hsrc (by rw[HRN.out];omega) (by omega));rw[hqn,hmn,HRN.out,hps,hms]at CX;have HFT:=hid (fun(d:Dt) (hd:d∈ds)=>seen_fate ⟨gs,ks,gap,weak⟩ HOF.out (kinds_ok (sift_ok HOF.out HRH.out.1)) hd);have HD6:=hid (HD.out.st HB6.out);rw[hqn,hmn];clear CA1 CF HRR5 hb6 hrp hps hsx hrm hms hpl hml hsrc hqn hmn HR6;go_wp2_with fail
   go_loopw [9] (fun si wx=>∃i:Nat,i≤bn∧si=.int .i64 i∧Hid (Below W6.heap.size W6 wx)) (fun si _=>bn-(RowKit.intOf si).toNat)
   case atStart=>exact⟨0,Nat.zero_le _,rfl,Below.refl _ _⟩
   case round=>
    obtain⟨i,hi,rfl,HB⟩:=hrel;have i0:(0:Int)≤(i:Int):=by omega
    by_cases hin:i<bn
    ·obtain⟨b,off,x,rfl,hbl,hx,hc⟩:=(HD6.out.st HB.out).at_ (i:=i) (by rw[HBN.out];exact hin);have HI:=hid hin;have i1:(i:Int)<(bn:Int):=by omega
     have i2:decide (i<bn)=true:=decide_eq_true hin;have HF:=HFT.out x (List.mem_of_getElem? hx);obtain⟨a1,a2,a3,a4,a5,a6,a7⟩:=x;have e0:wr.cell? ⟨b,off+i*7,none⟩=some (.string a1):=by simpa using hc 0 _ rfl
     have e1:wr.cell? ⟨b,off+i*7+1,none⟩=some (.int .i64 a2):=hc 1 _ rfl;have e2:wr.cell? ⟨b,off+i*7+2,none⟩=some (.int .i64 a3):=hc 2 _ rfl;have e3:wr.cell? ⟨b,off+i*7+3,none⟩=some (.string a4):=hc 3 _ rfl;have e4:wr.cell? ⟨b,off+i*7+4,none⟩=some (.string a5):=hc 4 _ rfl;have e5:wr.cell? ⟨b,off+i*7+5,none⟩=some (.int .i64 a6):=hc 5 _ rfl;have e6:wr.cell? ⟨b,off+i*7+6,none⟩=some (.int .i64 a7):=hc 6 _ rfl;have CX1:=CX.out wr HB.out a1 a4 a5 a2 a3 a6 a7;rw[HF]at CX1;have CX1:=hid CX1;clear hc hbl hx hi hin HF;go_wp2_with fail
     have CF:=CX1.out;with_reducible refine CF.mono ?_
     rintro e W7 ⟨rfl,hb7⟩;have HB7:=hid (HB.out.st hb7);clear CF CX1 hb7 e0 e1 e2 e3 e4 e5 e6;go_wp2_with fail
     go_roundw
     case rel=>exact⟨i+1,HI.out,by go_num,HB7⟩
     case measure=>have:=HI.out;simp[RowKit.intOf];omega
    ·obtain rfl:bn=i:=by omega
     have HB7:=hid (HB6.out.st HB.out);have CW1:=hid (CW.out wr HB7.out);clear hi hin CW CX;go_wp2_with fail
     have CF:=CW1.out;with_reducible refine CF.mono ?_
     rintro e W8 ⟨rfl,hb8⟩;have HB8:=hid (HB7.out.st hb8);clear CF CW1 hb8;go_wp2_with fail
     go_ret;exact⟨rfl,HB8.out⟩
end
section
open Go.ChangeShapes Go.WideShapes Go.ChangeAt Go.RowKit Go.Lib Go.Deep
section
variable {H:Type}{encH:TypeId×Value→H}{P:Program}{w:World}{base:Nat}{spare:Nat→Bool}{held:Bool}{α:Type}{enc:α→List Value}{k t e:Nat}
theorem cell_lt {a:Addr}{v:Value}(h:w.cell? a=some v):a.block<w.heap.size:=by
 rcases Nat.lt_or_ge a.block w.heap.size with hlt|hge
 ·exact hlt
 ·unfold World.cell? at h;rw[Array.getElem?_eq_none hge]at h;cases h
theorem add_lit' (a:Addr)(i:Nat)(ha:a.spot=none):a.add i=⟨a.block,a.off+i,none⟩:=by
 obtain⟨b,off,spot⟩:=a;simp only at ha;subst ha;unfold Addr.add;split<;>simp_all
theorem add_add' (a:Addr)(i j:Nat):(a.add i).add j=a.add (i+j):=by
 unfold Addr.add;by_cases hi:i=0<;>by_cases hj:j=0<;>simp[hi,hj,Nat.add_assoc]
def Opens (encH:TypeId×Value→H)(P:Program)(w:World)(base:Nat)(spare:Nat→Bool)(held:Bool)(e:Nat)(enc:α→List Value)(OK:α→Prop):Prop:=
 ∀(fuel:Nat) (cs:List Value) (x:DataW H×List MemPlace),DataW.trod encH P w base spare held fuel e cs=some x→∃a:α,cs=enc a∧OK a
theorem open_list {OK:α→Prop}(ht:P.underlying t=some (.slice e))(hC:P.cellsOf e=k)(hk0:0<k)(hE:∀x,(enc x).length=k)(ho:Opens encH P w base spare held e enc OK)
  {fuel:Nat} {cs:List Value} {x:DataW H×List MemPlace} (h:DataW.trod encH P w base spare held fuel t cs=some x):
  ∃(A:Option Addr) (cap:Nat) (l:List α),cs=[.slice A l.length cap]∧l.length≤cap∧cap≤maxLen∧Rd enc k w w.heap.size A l∧∀a∈l,OK a:=by
 rcases open_slice ht h with⟨rfl,_⟩|⟨a,len,cap,m,n,D,Pl,rfl,_,hlc,hcm,hmm,_,hi⟩
 ·exact⟨none,0,[],rfl,Nat.le_refl _,Nat.zero_le _,Rd.nil,by simp⟩
 ·have hlm:len≤m:=by rw[hmm];split<;>omega
  have hel:∀i,i<len→∃y:α,OK y∧∀j u,(enc y)[j]? =some u→w.cell? (a.add (i*k+j))=some u:=by
   intro i hil;obtain⟨cs',hc,ht'⟩:=hi i (by omega);obtain⟨y,hy,hok⟩:=ho _ _ _ ht';obtain⟨_,hcl,hat⟩:=World.cells?_some hc;refine⟨y,hok,fun j u hu=> ?_⟩;have hj:j<k:=by have:=(List.getElem?_eq_some_iff.1 hu).1;rwa [hE]at this
   have:=hat j (by rw[hC];exact hj)
   rw[add_add',hC]at this;rw[this,hy];exact hu
  obtain⟨f,hf⟩:∃f:(i:Nat)→i<len→α,∀i hi,OK (f i hi)∧∀j u,(enc (f i hi))[j]? =some u→w.cell? (a.add (i*k+j))=some u:=
   ⟨fun i hi=>(hel i hi).choose,fun i hi=>(hel i hi).choose_spec⟩
  let l:List α:=(List.finRange len).map fun i=>f i.1 i.2
  have hl:l.length=len:=by simp[l]
  refine⟨some a,cap,l,by rw[hl],by rw[hl];exact hlc,hcm,?_,?_⟩
  ·intro hne;have h0:0<len:=by
    rcases Nat.eq_zero_or_pos len with h0|h0
    ·exact absurd (List.eq_nil_of_length_eq_zero (by rw[hl];exact h0)) hne
    ·exact h0
   have hc0:∃u,w.cell? (a.add 0)=some u:=by
    have hl0:0<(enc (f 0 h0)).length:=by rw[hE];exact hk0
    exact⟨_,by simpa using(hf 0 h0).2 0 _ (List.getElem?_eq_getElem hl0)⟩
   obtain⟨u0,hu0⟩:=hc0;rw[show a.add 0=a by simp[Addr.add]]at hu0;have hsp:=World.cell?_spot hu0;have hb:=cell_lt hu0;refine⟨a.block,a.off,by obtain⟨b,o,s⟩:=a;simp only at hsp;subst hsp;rfl,hb,fun i x hx j u hu=> ?_⟩;have hil:i<len:=by have:=(List.getElem?_eq_some_iff.1 hx).1;rwa [hl]at this
   have hxe:x=f i hil:=by
    have:=(List.getElem?_eq_some_iff.1 hx).2
    rw[←this];simp[l]
   subst hxe;have:=(hf i hil).2 j u hu
   rw[add_lit' a _ hsp,←Nat.add_assoc]at this;exact this
  ·intro y hy;simp only[l,List.mem_map]at hy;obtain⟨i,_,rfl⟩:=hy;exact(hf i.1 i.2).1
theorem pieces (cs:List Value)(o s o':Nat)(h:o'=o+s):cs.drop o=(cs.drop o).take s++cs.drop o':=by
 subst h;rw[←List.drop_drop,List.take_append_drop]
end
end
section
open Go.ChangeShapes Go.WideShapes Go.ChangeAt Go.RowKit Go.Lib Go.Deep
def Sized {H:Type}(P:Program)(t:TypeId)(d:DataW H):Prop:=∀n∈d.weights P t,n≤reachBytes
section
variable {H:Type}{encH:TypeId×Value→H}{P:Program}{w:World}{base:Nat}{spare:Nat→Bool}{held:Bool}{α:Type}{enc:α→List Value}{k t e:Nat}
theorem Sized.of {ts:List TypeId}{ds:List (DataW H)}(h:(DataW.weightsEach P ts ds).all (· ≤reachBytes)=true){j:Nat}{t:TypeId}{d:DataW H}(ht:ts[j]? =some t)(hd:ds[j]? =some d):Sized P t d:=fun n hn=>by
 have:=List.all_eq_true.1 h _ (DataW.weights_mem_each ht hd n hn)
 simpa using this
theorem Sized.each {ts:List TypeId}{ds:List (DataW H)}(h:∀n∈DataW.weightsEach P ts ds,n≤reachBytes){j:Nat}{t:TypeId}{d:DataW H}(ht:ts[j]? =some t)(hd:ds[j]? =some d):Sized P t d:=fun n hn=>h n (DataW.weights_mem_each ht hd n hn)
theorem weightsAll_mem {e:TypeId}:∀{l:List (DataW H)} {d:DataW H},d∈l→∀n∈d.weights P e,n∈DataW.weightsAll P e l
 |x::l,d,hd,n,hn=>by
  simp only[DataW.weightsAll,List.mem_append];rcases List.mem_cons.1 hd with rfl|hd
  ·exact Or.inl hn
  ·exact Or.inr (weightsAll_mem hd n hn)
theorem Sized.field {fs:Array Field}(ht:P.underlying t=some (.struct fs)){ds:List (DataW H)}(h:Sized P t (.agg ds)){i:Nat}{f:Field}(hf:fs[i]? =some f){d:DataW H}(hd:ds[i]? =some d):Sized P f.type d:=
 Sized.each (ts:=fs.toList.map (·.type)) (ds:=ds) (j:=i) (fun n hn=>h n (by simp only[DataW.weights,ht];exact hn)) (by simp[hf]) hd
theorem Sized.len (ht:P.underlying t=some (.slice e)){es sp:List (DataW H)}(h:Sized P t (.slice es sp)):es.length*P.bytesOf e≤reachBytes:=by
 have:=h ((es.length+sp.length)*P.bytesOf e) (by simp only[DataW.weights,ht];exact List.mem_cons_self ..)
 exact Nat.le_trans (Nat.mul_le_mul_right _ (Nat.le_add_right _ _)) this
theorem Sized.elem (ht:P.underlying t=some (.slice e)){es sp:List (DataW H)}(h:Sized P t (.slice es sp)){d:DataW H}(hd:d∈es):Sized P e d:=fun n hn=>
 h n (by simp only[DataW.weights,ht];exact List.mem_cons_of_mem _ (List.mem_append_left _ (weightsAll_mem hd n hn)))
def OpensS (encH:TypeId×Value→H)(P:Program)(w:World)(base:Nat)(spare:Nat→Bool)(held:Bool)(e:Nat)(enc:α→List Value)(OK:α→Prop):Prop:=
 ∀(fuel:Nat) (cs:List Value) (x:DataW H×List MemPlace),DataW.trod encH P w base spare held fuel e cs=some x→Sized P e x.1→∃a:α,cs=enc a∧OK a
theorem Opens.s {OK:α→Prop}(h:Opens encH P w base spare held e enc OK):OpensS encH P w base spare held e enc OK:=fun fuel cs x hx _=>h fuel cs x hx
end
end
end Go.Proofs.YtimffppffbideaaGreatDoor
