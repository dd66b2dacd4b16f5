import Derived.Test.YtimffppffbideaaGreatDoorJSmCheck
import Derived.Test.YtimffppffbideaaGreatDoorSfDivide
set_option linter.unusedSimpArgs false
set_option linter.unusedVariables false
set_option maxRecDepth 100000
set_option maxHeartbeats 8000000
namespace Go.Proofs.YtimffppffbideaaGreatDoor
section
open Go.RowKit Go.Lib
open Mat
theorem fix_set {n i:Nat}{b:List Int}{j:Int}(h:b.length=n)(hi:i<n):((b.take i)++(List.replicate n (-2)).drop (b.take i).length).set i j=fixAt n b i j:=by
 have hl:(b.take i).length=i:=by rw[List.length_take];omega
 rw[List.set_append_right _ _ (by omega),hl,Nat.sub_self,List.drop_replicate,show n-i=n-(i+1)+1 by omega,List.replicate_succ];rfl
theorem colsAll_at {k t:Nat}(h:t<k+1):(colsAll k)[t]? =some ((t:Int)-1):=by
 unfold colsAll;cases t with
 |zero=>rfl
 |succ t=>
  rw[List.getElem?_cons_succ,List.getElem?_map,List.getElem?_range (by omega)];show some (Int.ofNat t)=some (((t+1:Nat):Int)-1)
  congr 1;show(t:Int)=_
  omega
theorem colsAll_len (k:Nat):(colsAll k).length=k+1:=by unfold colsAll;simp
theorem fold_take {α β:Type}(f:β→α→β){l:List α}{t:Nat}{x:α}(h:l[t]? =some x)(s:β):(l.take (t+1)).foldl f s=f ((l.take t).foldl f s) x:=by
 rw[List.take_add_one,h,List.foldl_append];rfl
theorem fold_range {β:Type}(f:β→Nat→β)(i:Nat)(s:β):(List.range (i+1)).foldl f s=f ((List.range i).foldl f s) i:=by
 rw[List.range_succ,List.foldl_append];rfl
theorem fst_len {m:Mat.M}{fixed:List Int}(h:0≤tab m fixed m.n 0):(fstL m fixed).length=m.row.length∧fstL m fixed=firstFrom m fixed m.n 0:=by
 unfold fstL;rw[if_pos h];exact⟨(first_asg m.n 0 h).1,rfl⟩
theorem second_any {m:Mat.M}{cA rA lA:Option Addr}{gs:List (Gp Int)}(cc rc lc:Nat)(hz:Sz m){w:World}(hM:MRd m w cA gs rA lA):
  Calls Tryz.prog 128 #[.agg #[.slice cA m.cost.length cc,.slice rA m.row.length rc,.slice lA m.col.length lc]] w fun e w'=>∃A n c,e=.returned (.tuple #[.slice A n c,.int .i64 (second m).least,.bool (second m).ok])∧Below w.heap.size w w':=by
 have hn8:=hz.n;have hk8:=hz.k;obtain⟨Y1,hY1⟩:∃Y,w.alloc (.cells #[.slice cA m.cost.length cc,.slice rA m.row.length rc,.slice lA m.col.length lc] 130)=Y:=⟨_,rfl⟩;have hb1:Below w.heap.size w Y1:=by rw[←hY1];exact(Below.refl _ w).al _
 have B1:Blk Y1 w.heap.size #[.slice cA m.cost.length cc,.slice rA m.row.length rc,.slice lA m.col.length lc] 130:=by rw[←hY1];exact Blk.new w _ _
 have HB0:=hid B1;have HBW:=hid hb1;have HZ:=hid hz;have CBE:=hid (best_any cc rc lc hz (hM.st hb1));have CF:=hid (fun(X:World)=>free_any (cA:=cA) (rA:=rA) (lA:=lA) m.cost.length cc rc m.col.length lc (n:=m.row.length) hn8 X);have HM:=hid hM;have CI:=hid (fun(X:World) (tb fc Lc Wc:Nat) (fA LA WA:Option Addr) (ls ws:List (Gp Int)) (fixed:List Int) (hx:fixed.length=m.row.length) (hS:TS m fixed X tb cA cc gs rA rc lA lc fA fc) (hD:TD X tb (m.n+1) (2^m.col.length) LA Lc ls WA Wc ws) (hL:Tabs m fixed ls)=>mfirst_any hz (show Fx m fixed from hx) hS hD hL);have hbl0:(best m).length=m.row.length:=(best_asg hz.b.ok).1;have HSD:=hid (show second m=(List.range (best m).length).foldl (secRow m (best m)) ⟨[],0,false⟩from rfl);obtain⟨bl,hbl⟩:∃b,best m=b:=⟨_,rfl⟩;rw[hbl]at CBE hbl0 HSD;obtain⟨nb,hnb⟩:∃n,bl.length=n:=⟨_,rfl⟩;rw[hnb]at CBE HSD;have HNB:=hid hnb;have HNR:Hid (m.row.length=nb):=hid (by omega);have nb8:nb≤8:=by unfold Mat.M.n at hn8;omega
 clear hb1 B1 hM hz hbl hnb;go_enter Tryz.func128,Tryz.ntmps128;go_wp2_with(first|(refine wpList_boxLoad rfl (ty:=130) (x:=.tmp 1) (cs:=#[.slice cA m.cost.length cc,.slice rA m.row.length rc,.slice lA m.col.length lc]) rfl HB0.out rfl ⟨_,Tryz.underlying130,by kernel_rfl⟩ ?_))
 with_reducible refine CBE.out.mono ?_
 rintro e w1 ⟨A1,c1,rfl,ho,hb⟩;have HB1:=hid (HBW.out.st hb);have HBL:=hid (HB0.out.below hb HB0.out.lt);have HO1:=hid (ho.rd encI_ok);have hcap:=ho.cap;rw[HNB.out]at hcap;clear ho hb CBE hY1 hbl0 hn8;go_wp2_with fail
 go_loopw [28,8,9,10] (fun si s8 s9 s10 wx=>∃(i:Nat) (FA:Option Addr) (FC:Nat) (fd:List Int) (lst:Int) (ok:Bool),i≤nb∧si=.int .i64 i∧s8=.slice FA fd.length FC∧s9=.int .i64 lst∧s10=.bool ok∧Hid ((⟨fd,lst,ok⟩:Sec)=(List.range i).foldl (secRow m bl) ⟨[],0,false⟩)∧Hid (Rd encI 1 wx wx.heap.size FA fd)∧Hid (ok=true→fd.length=nb)∧Hid (Below w1.heap.size w1 wx)) (fun si _ _ _ _=>nb-(RowKit.intOf si).toNat)
 case atStart=>exact⟨0,none,0,[],0,false,Nat.zero_le _,rfl,rfl,rfl,rfl,rfl,Rd.nil,(fun h=>by cases h),Below.refl _ _⟩
 case round=>
  obtain⟨wo,hwo⟩:∃wo,wo=wr:=⟨_,rfl⟩;obtain⟨i,FA0,FC0,fd0,lst0,ok0,hi,rfl,rfl,rfl,rfl,HS0,HF0,HK0,HBX⟩:=hrel;rw[←hwo]at HF0 HBX ⊢;clear hwo;have i0:(0:Int)≤(i:Int):=by omega
  by_cases hin:i<nb
  ·have HI:=hid hin;have i1:(i:Int)<(nb:Int):=by omega
   have i2:decide (i<nb)=true:=decide_eq_true hin;have i3:(i:Int)<(m.row.length:Int):=by rw[HNR.out];omega
   have i4:decide (i<m.row.length)=true:=decide_eq_true (by rw[HNR.out];omega);have hci:i≤c1:=by omega
   obtain⟨x,hx⟩:∃x,bl[i]? =some x:=⟨_,List.getElem?_eq_getElem (by rw[HNB.out];exact hin)⟩;have HXB:Hid (bl.getD i 0=x):=hid (by rw[List.getD_eq_getElem?_getD,hx];rfl);have HX:=hid hx;have HSR:=hid ((fold_range (secRow m bl) i ⟨[],0,false⟩).trans (congrArg (fun s=>secRow m bl s i) HS0.out.symm));clear hin hi hx;go_wp2_with fail
   go_loopw [12,8,9,10] (fun sj s8 s9 s10 wx=>∃(t:Nat) (FA:Option Addr) (FC:Nat) (fd:List Int) (lst:Int) (ok:Bool),t≤m.col.length+1∧sj=.int .i64 ((t:Int)-1)∧s8=.slice FA fd.length FC∧s9=.int .i64 lst∧s10=.bool ok∧Hid ((⟨fd,lst,ok⟩:Sec)=((colsAll m.col.length).take t).foldl (secStep m bl i) ⟨fd0,lst0,ok0⟩)∧Hid (Rd encI 1 wx wx.heap.size FA fd)∧Hid (ok=true→fd.length=nb)∧Hid (Below wo.heap.size wo wx)) (fun sj _ _ _ _=>m.col.length+1-(RowKit.intOf sj+1).toNat)
   case atStart=>exact⟨0,FA0,FC0,fd0,lst0,ok0,Nat.zero_le _,rfl,rfl,rfl,rfl,rfl,HF0,HK0,Below.refl _ _⟩
   case round=>
    obtain⟨t,FA,FC,fd,lst,ok,ht,rfl,rfl,rfl,rfl,HS,HF,HK,HB⟩:=hrel;have hBX:=HBX.out.st HB.out;have hbl:Blk wr w.heap.size #[.slice cA m.cost.length cc,.slice rA m.row.length rc,.slice lA m.col.length lc] 130:=HBL.out.below hBX HBL.out.lt;have HBLR:=hid hbl;have d2:=hbl.cell 2 (v:=.slice lA m.col.length lc) rfl;have HBXR:=hid hBX;by_cases htk:t<m.col.length+1
    ·have HT:=hid htk;have hct:=colsAll_at htk;have HFT:=hid ((fold_take (secStep m bl i) hct ⟨fd0,lst0,ok0⟩).trans (congrArg (fun s=>secStep m bl i s ((t:Int)-1)) HS.out.symm));obtain⟨j,hj⟩:∃j:Int,(t:Int)-1=j:=⟨_,rfl⟩;have HJM:Hid ((m.col.length+1-(RowKit.intOf (.int .i64 (j+1))+1).toNat)<(m.col.length+1-(RowKit.intOf (.int .i64 j)+1).toNat)):=hid (by simp only[RowKit.intOf];omega);have HJN:Hid (((t+1:Nat):Int)-1=j+1):=hid (by omega);rw[hj]at HFT ⊢;have j1:j<(m.col.length:Int):=by omega
     have j2:IntKind.i64.wrap (j+1)=j+1:=IntWalk.i64_in _ (by omega);obtain⟨b9,o9,x9,hA9,hb9,hx9,cx⟩:=(HO1.out.st hBX).i (i:=i) (by rw[HNB.out];exact HI.out);rw[HX.out]at hx9;injection hx9 with hx9;subst hx9;have HOA:=hid (HO1.out.st hBX);have HAA:=hid hA9;rw[hA9];clear hj hct htk ht hbl hBX hA9;by_cases hjx:j=x
     ·have hq:(j==x)=true:=by simpa using hjx
      have HE:Hid ((⟨fd,lst,ok⟩:Sec)=((colsAll m.col.length).take (t+1)).foldl (secStep m bl i) ⟨fd0,lst0,ok0⟩):=hid (by rw[HFT.out];unfold secStep;rw[HXB.out,if_pos hjx]);clear hjx HFT;go_wp2_with fail
      go_roundw
      case rel=>exact⟨t+1,FA,FC,fd,lst,ok,HT.out,by rw[HJN.out],rfl,rfl,rfl,HE,HF,HK,HB⟩
      case measure=>exact HJM.out
     ·have hq:(j==x)=false:=by simpa using hjx
      have HJX:=hid hjx;clear hjx;go_wp2_with(first|(refine wpList_boxLoad rfl (ty:=130) (x:=.tmp 1) (cs:=#[.slice cA m.cost.length cc,.slice rA m.row.length rc,.slice lA m.col.length lc]) rfl HBLR.out rfl ⟨_,Tryz.underlying130,by kernel_rfl⟩ ?_))
      with_reducible refine(CF.out wr).mono ?_
      rintro e w2 ⟨A2,c2,rfl,ho2,hb2⟩;obtain⟨fb,rfl,hfb,_⟩:=ho2.exB (by intro e;have h:=congrArg List.length e;rw[List.length_replicate,List.length_nil,HNR.out]at h;have:=HI.out;omega);have HB2:=hid hb2;have HO2:=hid ho2;have HFB:=hid hfb;have HTK:Hid ((bl.take i).length=i):=hid (by rw[List.length_take,HNB.out];have:=HI.out;omega);have HRT:Hid (Rd encI 1 w2 w2.heap.size (some ⟨b9,o9,none⟩) (bl.take i)):=hid (by
       have h:=(HOA.out.st hb2);rw[HAA.out]at h;intro hne;obtain⟨b,off,hA,hbb,hcell⟩:=h (by intro e;rw[e]at hne;simp at hne);refine⟨b,off,hA,hbb,fun q y hy=>hcell q y ?_⟩;rw[List.getElem?_take]at hy;split at hy
       ·exact hy
       ·cases hy)
      clear ho2 hb2 hfb cx hb9 d2;have HL3:Hid (((bl.take i)++(List.replicate m.row.length (-2)).drop (bl.take i).length)[i]? =some (-2:Int)):=hid (by
       rw[List.getElem?_append_right (by rw[HTK.out];exact Nat.le_refl _),HTK.out,Nat.sub_self,List.getElem?_drop,Nat.add_zero,List.getElem?_replicate,if_pos (by rw[HNR.out];exact HI.out)])
      obtain⟨fx,hfx⟩:∃f,fixAt m.n bl i j=f:=⟨_,rfl⟩;have HFX:=hid hfx;have HLEN:Hid (fx.length=m.row.length):=hid (by rw[←hfx];exact fixAt_len (HNB.out.trans HNR.out.symm) (by unfold Mat.M.n;rw[HNR.out];exact HI.out));have HSET:Hid (((bl.take i)++(List.replicate m.row.length (-2)).drop (bl.take i).length).set i j=fx):=hid (by rw[←hfx];exact fix_set (HNB.out.trans HNR.out.symm) (by rw[HNR.out];exact HI.out));have hfbw:w.heap.size≤fb:=Nat.le_trans HB1.out.size (Nat.le_trans HBXR.out.size HFB.out);have HFBW:=hid hfbw;have HBLT:Hid (w.heap.size<fb):=hid (Nat.lt_of_lt_of_le HBL.out.lt (Nat.le_trans HBXR.out.size HFB.out));have HWR:Hid (wo.heap.size≤fb):=hid (Nat.le_trans HB.out.size HFB.out);clear hfx hfbw;go_wp2_with(first|(refine wpList_sliceTo rfl (.tmp 47) (.tmp 48) tyI rfl rfl rfl hci ?_)|(refine wpList_copyPart rfl (.tmp 46) (.tmp 49) tyI encI_ok rfl rfl List.length_replicate.symm HO2.out rfl HTK.out.symm HRT.out (by rw[HTK.out,List.length_replicate,HNR.out];exact Nat.le_of_lt HI.out) ?_;intro w3 own3 hbw3 hf3 hs3;have h3:=own3.cells encI_ok rfl HL3.out (j:=0) rfl;rw[Nat.mul_one,Nat.add_zero]at h3;have z3:=own3.frozen rfl i;obtain⟨X3,hX3⟩:∃X,w3.setCell ⟨fb,i,none⟩ (.int .i64 j)=X:=⟨_,rfl⟩;have hst3:=own3.stored encI_ok rfl HL3.out (j:=0) (y:=j) (u:=.int .i64 j) (by omega) rfl;rw[Nat.mul_one,Nat.add_zero,hX3,HSET.out]at hst3;have HO3:=hid hst3;have hbx3:Below wo.heap.size wo X3:=(by rw[←hX3];exact(hbw3 _ _ HWR.out (HB.out.trans (HB2.out.mono HB.out.size))).setCell (p:=⟨fb,i,none⟩) HWR.out _);have HB3:=hid hbx3;have HBR3:Hid (Below wr.heap.size wr X3):=hid (by rw[←hX3];exact(hbw3 _ _ HFB.out HB2.out).setCell (p:=⟨fb,i,none⟩) HFB.out _);have HBL3:=hid ((HBL.out.below HBX.out HBL.out.lt).below hbx3 (HBL.out.below HBX.out HBL.out.lt).lt);clear own3 hbw3 hf3 hs3 hst3 hbx3)|(refine wpList_boxLoad rfl (ty:=130) (x:=.tmp 1) (cs:=#[.slice cA m.cost.length cc,.slice rA m.row.length rc,.slice lA m.col.length lc]) rfl HBL3.out rfl ⟨_,Tryz.underlying130,by kernel_rfl⟩ ?_))
      have HBW3:=hid (HB1.out.st (HBX.out.st HB3.out));have CB4:=build_any (fixed:=fx) cc rc lc c2 HZ.out HLEN.out (HM.out.st HBW3.out) (HO3.out.rd encI_ok);rw[HLEN.out]at CB4;with_reducible refine CB4.mono ?_
      rintro e w5 ⟨tb,LA,Lc,ls,WA,Wc,ws,rfl,hts,htd,htl,hb5,_⟩;have HTS:=hid hts;have HTD:=hid htd;have HTL:=hid htl;have HB5:=hid (HB3.out.st hb5);have HBR5:=hid (HBR3.out.st hb5);have CI5:=CI.out w5 tb c2 Lc Wc _ LA WA ls ws fx HLEN.out hts htd htl;clear hts htd htl hb5 CB4 h3 z3;obtain⟨T,hT⟩:∃T,tab m fx m.n 0=T:=⟨_,rfl⟩;rw[hT]at CI5;have HTT:=hid hT;have HST:Hid (((colsAll m.col.length).take (t+1)).foldl (secStep m bl i) ⟨fd0,lst0,ok0⟩=if 0≤T∧(ok=false∨T<lst∨(T=lst∧beforeL (firstFrom m fx m.n 0) fd=true))then⟨firstFrom m fx m.n 0,T,true⟩else⟨fd,lst,ok⟩):=hid (by
       rw[HFT.out];unfold secStep;rw[HXB.out,if_neg HJX.out,HFX.out,HTT.out])
      have HFL:Hid (0≤T→(fstL m fx).length=nb∧fstL m fx=firstFrom m fx m.n 0):=hid (fun h=>by
       have:=fst_len (m:=m) (fixed:=fx) (by rw[HTT.out];exact h)
       rw[HNR.out]at this;exact this)
      obtain⟨ff,hff⟩:∃l,fstL m fx=l:=⟨_,rfl⟩;rw[hff]at CI5 HFL;clear hT hff HFT;have hp0:0<2^m.col.length:=Nat.pos_of_ne_zero (by simp);obtain⟨N,hN⟩:∃N,m.n+1=N:=⟨_,rfl⟩;obtain⟨all,hall⟩:∃N,2^m.col.length=N:=⟨_,rfl⟩;have n1:(0:Int)<(N:Int):=by omega
      have n2:decide (0<N)=true:=decide_eq_true (by omega);have ha:0<all:=by rw[←hall];exact hp0
      have n3:(0:Int)<(all:Int):=by omega
      have n4:decide (0<all)=true:=decide_eq_true ha;have HX6:=hid (fun(X:World) (hX:Below w5.heap.size w5 X)=>show∃lo b0 k0,X.cell? ⟨tb,4,none⟩=some (.slice (some ⟨lo,0,none⟩) N Lc)∧X.cell? ⟨lo,0,none⟩=some (.slice (some ⟨b0,0,none⟩) all k0)∧X.cell? ⟨b0,0,none⟩=some (.int .i64 T)from by
       have hd8:=HTD.out.keep HTS.out.lt hX;obtain⟨lo,b0,k0,hLA,r0,_,_,xl,_⟩:=hd8.lAt (i:=0) (Nat.succ_pos _) hp0;have x0:=xl 0 hp0;rw[HTL.out 0 (Nat.zero_le _) 0 hp0,Nat.sub_zero,HTT.out]at x0;have c4:=hd8.c4;rw[hLA,hN]at c4;rw[hall]at r0;exact⟨lo,b0,k0,c4,r0,x0⟩)
      clear hN hall hp0 ha;obtain⟨is,his⟩:∃b,decide (0≤T)=b:=⟨_,rfl⟩;rw[his]at CI5;have HIS:=hid his;clear his;go_wp2_with fail
      with_reducible refine CI5.mono ?_
      rintro e w6 ⟨A6,c6,rfl,ho6,hb6⟩;have HO6:=hid (ho6.rd encI_ok);have HB6:=hid (HB5.out.st hb6);have HF6:Hid (Rd encI 1 w6 w6.heap.size FA fd):=hid (HF.out.st (HBR5.out.st hb6));obtain⟨lo,b0,k0,c4,r0,x0⟩:=HX6.out w6 hb6;clear ho6 hb6 CI5 HX6;cases his:is
      ·have HE:Hid ((⟨fd,lst,ok⟩:Sec)=((colsAll m.col.length).take (t+1)).foldl (secStep m bl i) ⟨fd0,lst0,ok0⟩):=hid (by
        rw[HST.out,if_neg];rintro⟨h,_⟩;have:=HIS.out
        rw[his,decide_eq_true h]at this;cases this)
       subst his;go_wp2_with fail
       go_roundw
       case rel=>exact⟨t+1,FA,FC,fd,lst,ok,HT.out,by rw[HJN.out],rfl,rfl,rfl,HE,HF6,HK,HB6⟩
       case measure=>exact HJM.out
      ·have HT0:Hid (0≤T):=hid (by have:=HIS.out;rw[his]at this;exact of_decide_eq_true this);subst his;have HLN:=hid (HFL.out HT0.out);cases hok:ok
       ·have HE:Hid ((⟨ff,T,true⟩:Sec)=((colsAll m.col.length).take (t+1)).foldl (secStep m bl i) ⟨fd0,lst0,ok0⟩):=hid (by
         rw[HST.out,if_pos ⟨HT0.out,.inl hok⟩,HLN.out.2])
        subst hok;go_wp2_with fail
        go_roundw
        case rel=>exact⟨t+1,A6,c6,ff,T,true,HT.out,by rw[HJN.out],rfl,rfl,rfl,HE,HO6,fun _=>HLN.out.1,HB6⟩
        case measure=>exact HJM.out
       ·have HKL:=hid (HK.out hok);by_cases hlt:T<lst
        ·have HE:Hid ((⟨ff,T,true⟩:Sec)=((colsAll m.col.length).take (t+1)).foldl (secStep m bl i) ⟨fd0,lst0,ok0⟩):=hid (by
          rw[HST.out,if_pos ⟨HT0.out,.inr (.inl hlt)⟩,HLN.out.2])
         subst hok;go_wp2_with fail
         go_roundw
         case rel=>exact⟨t+1,A6,c6,ff,T,true,HT.out,by rw[HJN.out],rfl,rfl,rfl,HE,HO6,fun _=>HLN.out.1,HB6⟩
         case measure=>exact HJM.out
        ·have hlt1:decide (T<lst)=false:=decide_eq_false hlt;by_cases heq:T=lst
         ·have heq1:(T==lst)=true:=by simpa using heq
          have HBF:=hid (mbefore_any c6 FC (HLN.out.1.trans (HK.out hok).symm) (by rw[HLN.out.1];exact nb8) HO6.out HF6.out);obtain⟨bf,hbf⟩:∃b,beforeL ff fd=b:=⟨_,rfl⟩;rw[hbf]at HBF;have HBV:=hid hbf;have HEQ:=hid heq;have HLT:=hid hlt;have HOK:=hid hok;clear heq hlt hbf;cases hbv:bf
          ·have HE:Hid ((⟨fd,lst,ok⟩:Sec)=((colsAll m.col.length).take (t+1)).foldl (secStep m bl i) ⟨fd0,lst0,ok0⟩):=hid (by
            rw[HST.out,if_neg];rintro⟨_,h|h|h⟩
            ·rw[hok]at h;cases h
            ·exact HLT.out h
            ·have:=h.2
             rw[←HLN.out.2,HBV.out,hbv]at this;cases this)
           subst hbv hok;go_wp2_with(with_reducible refine HBF.out.mono ?_;rintro e w7 ⟨rfl,hb7⟩;have HB7:=hid (HB6.out.st hb7);have HF7:=hid (HF6.out.st hb7);clear hb7)
           go_roundw
           case rel=>exact⟨t+1,FA,FC,fd,lst,true,HT.out,by rw[HJN.out],rfl,rfl,rfl,HE,HF7,fun _=>HKL.out,HB7⟩
           case measure=>exact HJM.out
          ·have HE:Hid ((⟨ff,T,true⟩:Sec)=((colsAll m.col.length).take (t+1)).foldl (secStep m bl i) ⟨fd0,lst0,ok0⟩):=hid (by
            rw[HST.out,if_pos ⟨HT0.out,.inr (.inr ⟨HEQ.out,by rw[←HLN.out.2,HBV.out,hbv]⟩)⟩,HLN.out.2])
           subst hbv hok;go_wp2_with(with_reducible refine HBF.out.mono ?_;rintro e w7 ⟨rfl,hb7⟩;have HB7:=hid (HB6.out.st hb7);have HO7:=hid (HO6.out.st hb7);clear hb7)
           go_roundw
           case rel=>exact⟨t+1,A6,c6,ff,T,true,HT.out,by rw[HJN.out],rfl,rfl,rfl,HE,HO7,fun _=>HLN.out.1,HB7⟩
           case measure=>exact HJM.out
         ·have heq1:(T==lst)=false:=by simpa using heq
          have HE:Hid ((⟨fd,lst,ok⟩:Sec)=((colsAll m.col.length).take (t+1)).foldl (secStep m bl i) ⟨fd0,lst0,ok0⟩):=hid (by
           rw[HST.out,if_neg];rintro⟨_,h|h|h⟩
           ·rw[hok]at h;cases h
           ·exact hlt h
           ·exact heq h.1)
          clear heq hlt;subst hok;go_wp2_with fail
          go_roundw
          case rel=>exact⟨t+1,FA,FC,fd,lst,true,HT.out,by rw[HJN.out],rfl,rfl,rfl,HE,HF6,fun _=>HKL.out,HB6⟩
          case measure=>exact HJM.out
    ·obtain rfl:t=m.col.length+1:=by omega
     rw[show(((m.col.length+1:Nat):Int)-1)=(m.col.length:Int) by omega];have HE:Hid ((⟨fd,lst,ok⟩:Sec)=(List.range (i+1)).foldl (secRow m bl) ⟨[],0,false⟩):=hid (by
      rw[HSR.out,HS.out,List.take_of_length_le (by rw[colsAll_len];exact Nat.le_refl _)];rfl)
     have HB2:=hid (HBX.out.st HB.out);clear htk ht hbl hBX;go_wp2_with fail
     go_roundw
     case rel=>exact⟨i+1,FA,FC,fd,lst,ok,HI.out,by go_num,rfl,rfl,rfl,HE,HF,HK,HB2⟩
     case measure=>exact meas3 HI.out
  ·obtain rfl:i=nb:=by omega
   have HE:Hid ((⟨fd0,lst0,ok0⟩:Sec)=second m):=hid (HS0.out.trans HSD.out.symm);have HB2:=hid (HB1.out.st HBX.out);go_wp2_with fail
   go_ret3;refine⟨FA0,fd0.length,FC0,?_,HB2.out⟩;rw[←HE.out];rfl
end
section
open Go.RowKit Go.Lib Go.Sort
open Mat
theorem parts_sn {f:List Sn}(hok:∀x∈f,SnOk x):(∀g∈tagsOf f,g≠[]∧g.length≤f.length∧∀x∈g,SnOk x)∧(∀g∈platesOf f,g≠[]∧g.length≤f.length∧∀x∈g,SnOk x)∧(∀x∈loopsOf f,SnOk x):=by
 have hm:∀g∈mergeV (srtS f),g≠[]∧g.length≤f.length∧∀x∈g,SnOk x:=by
  intro g hg;refine⟨groups_ne _ _ _ hg,?_,fun x hx=> ?_⟩
  ·refine Nat.le_trans (groups_mem hg).1 (Nat.le_trans (List.length_filter_le _ _) ?_);rw[srtS_len,srtS_len];exact Nat.le_refl _
  ·have:=(List.mem_filter.1 ((groups_mem hg).2 x hx)).1
   exact hok x ((srtS_perm f).mem_iff.1 ((srtS_perm _).mem_iff.1 this))
 refine⟨fun g hg=>hm g (List.mem_filter.1 hg).1,fun g hg=>hm g (List.mem_filter.1 hg).1,fun x hx=>hok x ((srtS_perm f).mem_iff.1 (List.mem_filter.1 hx).1)⟩
theorem blocked_sz {f:List Sn}(h:blockedB f=false):f.length≤24∧(tagsOf f).length≤8∧(platesOf f).length≤8∧(loopsOf f).length≤8:=by
 unfold blockedB at h;simp only[Bool.or_eq_false_iff,decide_eq_false_iff_not]at h;omega
theorem asgM_sz {f:List Sn}(h:blockedB f=false)(hok:∀x∈f,SnOk x):Sz (asgM f):=by
 obtain⟨_,h2,h3,_⟩:=blocked_sz h;obtain⟨p1,p2,_⟩:=parts_sn hok;exact matV_sz h2 h3 (fun g hg=>(p1 g hg).2.2) (fun g hg=>(p2 g hg).2.2)
theorem MOwn.keepL {m:Mat.M}{w w':World}{base cc rc lc:Nat}{cA rA lA:Option Addr}{gs:List (Gp Int)}(h:MOwn m w base cA cc gs rA rc lA lc)(hk:∀b,base≤b→b<w.heap.size→w'.heap[b]? =w.heap[b]?):MOwn m w' base cA cc gs rA rc lA lc:=
 ⟨h.cost,⟨h.rows.out.keepB fun g hg hgl=>hk g (h.rows.out.lt2 hg).1 hgl,fun g hg=>(h.rows.ins g hg).keepB fun b hb hbl=>hk b ((h.rows.ins g hg).lt2 hb).1 hbl,h.rows.ap⟩,h.row.keepB fun g hg hgl=>hk g (h.row.lt2 hg).1 hgl,h.col.keepB fun g hg hgl=>hk g (h.col.lt2 hg).1 hgl⟩
theorem assign_any {aA lA tA pA:Option Addr}(an ac lN lc tc pc:Nat){ts ps:List (Gp Sn)}{f:List Sn}(hb:blockedB f=false)(hok:∀x∈f,SnOk x){w:World}(hP:PartsR w lA tA ts pA ps f):
  Calls Tryz.prog 97 #[.agg #[.slice aA an ac,.slice lA lN lc,.slice tA ts.length tc,.slice pA ps.length pc]] w fun e w'=>∃cA cc gs rA rc mA mc jA jc,e=.returned (.agg #[.slice cA ts.length cc,.slice rA ts.length rc,.slice mA ps.length mc,.slice jA ts.length jc,.int .i64 (costM (asgM f)),.int .i64 (marginV (asgM f))])∧MOwn (asgM f) w' w.heap.size cA cc gs rA rc mA mc∧Own 3 encI 1 w' w.heap.size jA jc (best (asgM f))∧Below w.heap.size w w':=by
 obtain⟨p1,p2,p3⟩:=parts_sn hok;obtain⟨z0,z1,z2,z3⟩:=blocked_sz hb;have hz:=asgM_sz hb hok;have ht:(tagsOf f).length=ts.length:=by rw[←show vals ts=_ from hP.t,vals_len]
 have hp:(platesOf f).length=ps.length:=by rw[←show vals ps=_ from hP.p,vals_len]
 have hT:∀g∈ts,g.l.length≤1000∧∀x∈g.l,SnOk x:=fun g hg=>by
  have:=p1 g.l (by rw[←show vals ts=_ from hP.t];exact List.mem_map.2 ⟨g,hg,rfl⟩)
  exact⟨by omega,this.2.2⟩
 have hQ:∀g∈ps,g.l.length≤1000∧∀x∈g.l,SnOk x:=fun g hg=>by
  have:=p2 g.l (by rw[←show vals ps=_ from hP.p];exact List.mem_map.2 ⟨g,hg,rfl⟩)
  exact⟨by omega,this.2.2⟩
 have hbl:(best (asgM f)).length=ts.length:=by rw[(asg_tags f).1,ht]
 obtain⟨Y1,hY1⟩:∃Y,w.alloc (.cells #[.slice aA an ac,.slice lA lN lc,.slice tA ts.length tc,.slice pA ps.length pc] 134)=Y:=⟨_,rfl⟩;obtain⟨Y2,hY2⟩:∃Y,Y1.alloc (.cells #[.slice none 0 0,.slice none 0 0,.slice none 0 0,.slice none 0 0,.int .i64 0,.int .i64 0] 132)=Y:=⟨_,rfl⟩;have s1:Y1.heap.size=w.heap.size+1:=by rw[←hY1];simp
 have s2:Y2.heap.size=w.heap.size+2:=by rw[←hY2];simp[s1]
 have b1:Below w.heap.size w Y2:=by rw[←hY2,←hY1];exact((Below.refl _ w).al _).al _
 have B1:Blk Y2 w.heap.size #[.slice aA an ac,.slice lA lN lc,.slice tA ts.length tc,.slice pA ps.length pc] 134:=by rw[←hY2,←hY1];exact(Blk.new w _ _).alloc _
 have B2:Blk Y2 (w.heap.size+1) #[.slice none 0 0,.slice none 0 0,.slice none 0 0,.slice none 0 0,.int .i64 0,.int .i64 0] 132:=by rw[←s1,←hY2];exact Blk.new Y1 _ _
 have hP2:=hP.st b1;have y2:=B1.cell 2 (v:=.slice tA ts.length tc) rfl;have y3:=B1.cell 3 (v:=.slice pA ps.length pc) rfl;have CM:=matrix_any tc pc hP2.tags hP2.plates hT hQ (by omega) (by omega);rw[show vals ts=tagsOf f from hP.t,show vals ps=platesOf f from hP.p]at CM;have CM:=hid CM;have hc1:(asgM f).cost.length=ts.length:=by show(List.map _ _).length=_;rw[List.length_map,ht]
 have hc2:(asgM f).row.length=ts.length:=by show(List.replicate _ _).length=_;rw[List.length_replicate,ht]
 have hc3:(asgM f).col.length=ps.length:=by show(List.replicate _ _).length=_;rw[List.length_replicate,hp]
 have BEA:=hid (fun(cA rA mA:Option Addr) (cc rc mc:Nat) (gs:List (Gp Int)) (X:World) (hX:MRd (asgM f) X cA gs rA mA)=>best_any cc rc mc hz hX);have SEA:=hid (fun(cA rA mA:Option Addr) (cc rc mc:Nat) (gs:List (Gp Int)) (X:World) (hX:MRd (asgM f) X cA gs rA mA)=>second_any cc rc mc hz hX);rw[hc1,hc2,hc3]at BEA SEA;rw[hbl]at BEA;have HZ:=hid hz;have HB1:=hid b1;have HB2:=hid B2;have HBL:=hid hbl;have HS2:=hid s2;have hmr:=second_rng hz;have hcr:=costM_rng hz;unfold LeR at hmr;have HMV:=hid (show marginV (asgM f)=if(second (asgM f)).ok=true then(second (asgM f)).least-costM (asgM f)else-1 from rfl);clear hc1 hc2 hc3 p1 p2 p3 z0 z1 z2 z3 hz ht hp hT hQ hbl hP hP2 b1 B1 B2 hok hb;go_enter Tryz.func97,Tryz.ntmps97;go_wp2_with fail
 with_reducible refine CM.out.mono ?_
 rintro e w3 ⟨cA,cc,gs,rA,rc,mA,mc,rfl,hm,hbm⟩;have HM3:=hid hm.rd;have HMO:=hid hm;have HBW3:=hid (HB1.out.st hbm);have B23:=HB2.out.below hbm HB2.out.lt;have HS3:Hid (w.heap.size+2≤w3.heap.size):=hid (by rw[←HS2.out];exact hbm.size);obtain⟨q,hq⟩:∃q,w3.heap.size=q:=⟨_,rfl⟩;obtain⟨Y4,hY4⟩:∃Y,w3.alloc (.cells #[.slice cA ts.length cc,.slice rA ts.length rc,.slice mA ps.length mc,.slice none 0 0,.int .i64 0,.int .i64 (-1)] 132)=Y:=⟨_,rfl⟩;have hb4:Below w3.heap.size w3 Y4:=by rw[←hY4];exact(Below.refl _ w3).al _
 have B4:Blk Y4 q #[.slice cA ts.length cc,.slice rA ts.length rc,.slice mA ps.length mc,.slice none 0 0,.int .i64 0,.int .i64 (-1)] 132:=by rw[←hq,←hY4];exact Blk.new w3 _ _
 have x0:=B4.cell 0 (v:=.slice cA ts.length cc) rfl;have x1:=B4.cell 1 (v:=.slice rA ts.length rc) rfl;have x2:=B4.cell 2 (v:=.slice mA ps.length mc) rfl;have HM4:=hid (HM3.out.st hb4);have HBW4:=hid (HBW3.out.st hb4);have HR4:=hid (B23.below hb4 B23.lt);have HB4:=hid B4;have BEA:=hid (BEA.out cA rA mA cc rc mc gs Y4 HM4.out);have HB34:=hid hb4;clear hm hbm CM HB2 B23 hb4 B4 y2 y3;go_wp2_with fail
 with_reducible refine BEA.out.mono ?_
 rintro e w5 ⟨jA,jc,rfl,hO,hb5⟩;have B5:=HB4.out.below hb5 HB4.out.lt;have HR5:=HR4.out.below hb5 HR4.out.lt;obtain⟨X6,hX6⟩:∃X,w5.setCell ⟨q,3,none⟩ (.slice jA ts.length jc)=X:=⟨_,rfl⟩;obtain⟨X7,hX7⟩:∃X,X6.setCell ⟨q,4,none⟩ (.int .i64 (costM (asgM f)))=X:=⟨_,rfl⟩;have y3:=B5.cell 3 (v:=.slice none 0 0) rfl;have z3:=B5.frozen 3;have B6:Blk X6 q #[.slice cA ts.length cc,.slice rA ts.length rc,.slice mA ps.length mc,.slice jA ts.length jc,.int .i64 0,.int .i64 (-1)] 132:=by rw[←hX6];simpa using B5.set 3 (.slice jA ts.length jc)
 have y4:=B6.cell 4 (v:=.int .i64 0) rfl;have z4:=B6.frozen 4;have B7:Blk X7 q #[.slice cA ts.length cc,.slice rA ts.length rc,.slice mA ps.length mc,.slice jA ts.length jc,.int .i64 (costM (asgM f)),.int .i64 (-1)] 132:=by rw[←hX7];simpa using B6.set 4 (.int .i64 (costM (asgM f)))
 have hwq:w3.heap.size≤q:=Nat.le_of_eq hq;have hb7:Below q Y4 X7:=by rw[←hX7,←hX6];exact((hb5.mono (Nat.le_of_lt HB4.out.lt)).setCell (p:=⟨q,3,none⟩) (Nat.le_refl _) _).setCell (p:=⟨q,4,none⟩) (Nat.le_refl _) _
 have hoth:∀b,b≠q→X7.heap[b]? =w5.heap[b]? :=fun b hb=>by rw[←hX7,←hX6,setCell_other _ ⟨q,4,none⟩ _ hb,setCell_other _ ⟨q,3,none⟩ _ hb]
 have hO7:Own 3 encI 1 X7 Y4.heap.size jA jc (best (asgM f)):=hO.keepB fun b hb _=>hoth b (by have:=(hO.lt2 hb).1;have:=HB4.out.lt;omega);have hq7:Below q w3 X7:=by rw[←hq];rw[←hq]at hb7;exact HB34.out.trans hb7
 have SEA:=hid (SEA.out cA rA mA cc rc mc gs X7 (HM3.out.st (by rw[hq];exact hq7)));have HQ:Hid (w3.heap.size=q):=hid hq;have HY4:Hid (q<Y4.heap.size):=hid HB4.out.lt;have HO7:=hid hO7;have HQ7:=hid hq7;have HB7:=hid B7;have HR7:Hid (Blk X7 (w.heap.size+1) #[.slice none 0 0,.slice none 0 0,.slice none 0 0,.slice none 0 0,.int .i64 0,.int .i64 0] 132):=hid ((hoth (w.heap.size+1) (by have:=HS3.out;omega)).trans HR5);have HBW7:Hid (Below w.heap.size w X7):=hid (HBW3.out.trans (hq7.mono (by have:=HS3.out;omega)));have x0:=B7.cell 0 (v:=.slice cA ts.length cc) rfl;have x1:=B7.cell 1 (v:=.slice rA ts.length rc) rfl;have x2:=B7.cell 2 (v:=.slice mA ps.length mc) rfl;clear B5 HR5 B6 B7 hwq hb7 hoth hO hO7 hq7 hb5 BEA HB34 HM4 HBW4 HR4;go_wp2_with fail
 with_reducible refine SEA.out.mono ?_
 rintro e w8 ⟨sA,sn,sc,rfl,hb8⟩;have B8:=HB7.out.below hb8 HB7.out.lt;have HB8:=hid B8;have HR8:=hid (HR7.out.below hb8 HR7.out.lt);have HO8:=hid (HO7.out.keep hb8 (Nat.le_refl _));have HQ8:=hid (HQ7.out.trans (hb8.mono (Nat.le_of_lt HB7.out.lt)));have HBW8:=hid (HBW7.out.st hb8);have y4:=B8.cell 4 (v:=.int .i64 (costM (asgM f))) rfl;have y5:=B8.cell 5 (v:=.int .i64 (-1)) rfl;have z5:=B8.frozen 5;clear hb8 B8 SEA x0 x1 x2 y3 z3 z4 hX6 hX7 hY1 hY2 hY4 s1 s2 hq HB7 HR7 HO7 HQ7 HBW7;cases hk:(second (asgM f)).ok
 ·have HMM:Hid (marginV (asgM f)= -1):=hid (by rw[HMV.out,hk];rfl);go_wp2_with(first|(refine wpList_boxLoad rfl (ty:=132) (x:=.tmp 3) (cs:=#[.slice cA ts.length cc,.slice rA ts.length rc,.slice mA ps.length mc,.slice jA ts.length jc,.int .i64 (costM (asgM f)),.int .i64 (-1)]) rfl HB8.out rfl ⟨_,Tryz.underlying132,by kernel_rfl⟩ ?_)|(refine wpList_boxStore rfl (ty:=132) (x:=.tmp 2) (y:=.tmp 35) (cells:=#[.slice cA ts.length cc,.slice rA ts.length rc,.slice mA ps.length mc,.slice jA ts.length jc,.int .i64 (costM (asgM f)),.int .i64 (-1)]) rfl HR8.out rfl rfl (by kernel_rfl) rfl (by kernel_rfl) ?_;intro wz BZ hoz hbz))
  (try simp only[Exit.inBlock,Exit.then])
  have hMZ:=HMO.out.keepL (w':=wz) (fun b h1 h2=>(hoz b (by have:=HS2.out;omega)).trans (HQ8.out.block b (by have:=HQ.out;omega)));have hJZ:=HO8.out.keepB (w':=wz) (fun b hb _=>hoz b (by have h1:=(HO8.out.lt2 hb).1;have h2:=HY4.out;have h3:=HQ.out;have h4:=HS3.out;omega));refine bodyPost_ret (v:=.agg #[.slice cA ts.length cc,.slice rA ts.length rc,.slice mA ps.length mc,.slice jA ts.length jc,.int .i64 (costM (asgM f)),.int .i64 (-1)]) ?_ rfl ⟨cA,cc,gs,rA,rc,mA,mc,jA,jc,by rw[HMM.out],hMZ.mono (by have:=HS2.out;omega),hJZ.mono (by have h2:=HY4.out;have h3:=HQ.out;have h4:=HS3.out;omega),hbz _ _ (Nat.le_succ _) HBW8.out⟩;exact results_box Tryz.results97 _ rfl BZ ⟨_,Tryz.underlying132,by kernel_rfl⟩
 ·have HMM:Hid (marginV (asgM f)=(second (asgM f)).least-costM (asgM f)):=hid (by rw[HMV.out,hk];rfl);have wm:IntKind.i64.wrap ((second (asgM f)).least-costM (asgM f))=(second (asgM f)).least-costM (asgM f):=IntWalk.i64_in _ (by omega);obtain⟨X9,hX9⟩:∃X,w8.setCell ⟨q,5,none⟩ (.int .i64 ((second (asgM f)).least-costM (asgM f)))=X:=⟨_,rfl⟩;have HB9:Hid (Blk X9 q #[.slice cA ts.length cc,.slice rA ts.length rc,.slice mA ps.length mc,.slice jA ts.length jc,.int .i64 (costM (asgM f)),.int .i64 ((second (asgM f)).least-costM (asgM f))] 132):=hid (by rw[←hX9];simpa using HB8.out.set 5 (.int .i64 ((second (asgM f)).least-costM (asgM f))));have HR9:Hid (Blk X9 (w.heap.size+1) #[.slice none 0 0,.slice none 0 0,.slice none 0 0,.slice none 0 0,.int .i64 0,.int .i64 0] 132):=hid (by rw[←hX9];exact HR8.out.other (p:=⟨q,5,none⟩) (by show w.heap.size+1≠q;have h1:=HS3.out;have h2:=HQ.out;omega) _);have HO9:Hid (Own 3 encI 1 X9 Y4.heap.size jA jc (best (asgM f))):=hid (by rw[←hX9];exact HO8.out.other (p:=⟨q,5,none⟩) HY4.out _);have HQ9:Hid (Below q w3 X9):=hid (by rw[←hX9];exact HQ8.out.setCell (p:=⟨q,5,none⟩) (Nat.le_refl _) _);have HBW9:Hid (Below w.heap.size w X9):=hid (by rw[←hX9];exact HBW8.out.setCell (p:=⟨q,5,none⟩) (by show w.heap.size≤q;have h1:=HS3.out;have h2:=HQ.out;omega) _);go_wp2_with(first|(refine wpList_boxLoad rfl (ty:=132) (x:=.tmp 3) (cs:=#[.slice cA ts.length cc,.slice rA ts.length rc,.slice mA ps.length mc,.slice jA ts.length jc,.int .i64 (costM (asgM f)),.int .i64 ((second (asgM f)).least-costM (asgM f))]) rfl HB9.out rfl ⟨_,Tryz.underlying132,by kernel_rfl⟩ ?_)|(refine wpList_boxStore rfl (ty:=132) (x:=.tmp 2) (y:=.tmp 35) (cells:=#[.slice cA ts.length cc,.slice rA ts.length rc,.slice mA ps.length mc,.slice jA ts.length jc,.int .i64 (costM (asgM f)),.int .i64 ((second (asgM f)).least-costM (asgM f))]) rfl HR9.out rfl rfl (by kernel_rfl) rfl (by kernel_rfl) ?_;intro wz BZ hoz hbz))
  (try simp only[Exit.inBlock,Exit.then])
  have hMZ:=HMO.out.keepL (w':=wz) (fun b h1 h2=>(hoz b (by have:=HS2.out;omega)).trans (HQ9.out.block b (by have:=HQ.out;omega)));have hJZ:=HO9.out.keepB (w':=wz) (fun b hb _=>hoz b (by have h1:=(HO9.out.lt2 hb).1;have h2:=HY4.out;have h3:=HQ.out;have h4:=HS3.out;omega));refine bodyPost_ret (v:=.agg #[.slice cA ts.length cc,.slice rA ts.length rc,.slice mA ps.length mc,.slice jA ts.length jc,.int .i64 (costM (asgM f)),.int .i64 ((second (asgM f)).least-costM (asgM f))]) ?_ rfl ⟨cA,cc,gs,rA,rc,mA,mc,jA,jc,by rw[HMM.out],hMZ.mono (by have:=HS2.out;omega),hJZ.mono (by have h2:=HY4.out;have h3:=HQ.out;have h4:=HS3.out;omega),hbz _ _ (Nat.le_succ _) HBW9.out⟩;exact results_box Tryz.results97 _ rfl BZ ⟨_,Tryz.underlying132,by kernel_rfl⟩
end
section
open Go.RowKit Go.Lib Go.Sort
open Mat
def encTg (x:Tg):List Value:=[.string x.tag,.int .i64 x.frm,.int .i64 x.st]
theorem encTg_ok:Enc encTg 3:=⟨fun _=>rfl,fun x u hu=>by simp[encTg]at hu;rcases hu with rfl|rfl|rfl<;>rfl⟩
theorem stLast_snoc {tag:ByteArray}{t:Int}{l:List Tg}{j:Nat}{x:Tg}(h:l[j]? =some x):stLast tag t (l.take (j+1))=if eqS x.tag tag=true∧x.frm≤t then x.st else stLast tag t (l.take j):=by
 have:l.take (j+1)=l.take j++[x]:=by rw[List.take_add_one,h];rfl
 rw[this];unfold stLast;rw[List.foldl_append];rfl
theorem state_any {A:Option Addr}(c:Nat){l:List Tg}(tag:ByteArray)(t:Int)(hl:l.length≤100000){w:World}(hR:Rd encTg 3 w w.heap.size A l):
  Calls Tryz.prog 130 #[.slice A l.length c,.string tag,.int .i64 t] w fun e w'=>e=.returned (.int .i64 (stateV l tag t))∧Below w.heap.size w w':=by
 have HR:=hid hR;obtain⟨k,hk⟩:∃k,l.length=k:=⟨_,rfl⟩;have HN:=hid hk;have CT:=hid (fun(X:World)=>tagcheck_any tag X);rw[hk]at hl ⊢;clear hR hk;cases ht:tagB tag
 ·have R:=hid (show stateV l tag t=0 by unfold stateV;rw[ht];rfl);rw[ht]at CT;rw[R.out];clear ht HR;go_enter Tryz.func130,Tryz.ntmps130;go_wp2_with fail
  with_reducible refine(CT.out _).mono ?_
  rintro e wn ⟨rfl,hbn⟩;go_wp2_with fail
  go_ret;exact⟨rfl,hbn⟩
 ·obtain⟨r,hr⟩:∃r,stateV l tag t=r:=⟨_,rfl⟩;have HRR:=hid (show stLast tag t l=r by rw[←hr];unfold stateV;rw[ht];rfl);rw[ht]at CT;rw[hr];clear ht hr;go_enter Tryz.func130,Tryz.ntmps130;go_wp2_with fail
  with_reducible refine(CT.out _).mono ?_
  rintro e wn ⟨rfl,hbn⟩;have HBN:=hid hbn;clear hbn CT;go_wp2_with fail
  go_loopw [7,15] (fun ss sj wx=>∃j:Nat,j≤k∧sj=.int .i64 j∧ss=.int .i64 (stLast tag t (l.take j))∧Hid (Below w.heap.size w wx)) (fun _ sj _=>k-(RowKit.intOf sj).toNat)
  case atStart=>exact⟨0,Nat.zero_le _,rfl,rfl,HBN⟩
  case round=>
   obtain⟨j,hj,rfl,rfl,HB⟩:=hrel;have j0:(0:Int)≤(j:Int):=by omega
   by_cases hi:j<k
   ·obtain⟨b,off,x,rfl,hbl,hx,hc⟩:=(HR.out.st HB.out).at_ (i:=j) (by rw[HN.out];exact hi);have HI:=hid hi;have HST:=hid (stLast_snoc (tag:=tag) (t:=t) hx);have j1:(j:Int)<(k:Int):=by omega
    have j2:decide (j<k)=true:=decide_eq_true hi;obtain⟨s1,s2,s3⟩:=x;have e0:wr.cell? ⟨b,off+j*3,none⟩=some (.string s1):=by simpa using hc 0 _ rfl
    have e1:wr.cell? ⟨b,off+j*3+1,none⟩=some (.int .i64 s2):=hc 1 _ rfl;have e2:wr.cell? ⟨b,off+j*3+2,none⟩=some (.int .i64 s3):=hc 2 _ rfl;have HBN2:=hid (fun o=>HB.out.al o);have te:(s1.toList==tag.toList)=eqS s1 tag:=rfl;simp only at HST;generalize hv:stLast tag t (l.take j)=v at*;clear hc hbl hx hi hj hv;cases hq:eqS s1 tag
    ·rw[hq]at te HST;have HF:=hid (HST.out.trans (if_neg (by simp)));clear HST hq;go_wp2_with fail
     go_roundw
     case rel=>exact⟨j+1,HI.out,by go_num,by rw[HF.out],hid (HBN2.out _)⟩
     case measure=>have:=HI.out;simp[RowKit.intOf];omega
    ·rw[hq]at te HST;by_cases h1:s2≤t
     ·have HF:=hid (HST.out.trans (if_pos ⟨rfl,h1⟩));clear HST hq;go_wp2_with fail
      go_roundw
      case rel=>exact⟨j+1,HI.out,by go_num,by rw[HF.out],hid (HBN2.out _)⟩
      case measure=>have:=HI.out;simp[RowKit.intOf];omega
     ·have HF:=hid (HST.out.trans (if_neg (by simp[h1])));clear HST hq;go_wp2_with fail
      go_roundw
      case rel=>exact⟨j+1,HI.out,by go_num,by rw[HF.out],hid (HBN2.out _)⟩
      case measure=>have:=HI.out;simp[RowKit.intOf];omega
   ·obtain rfl:j=k:=by omega
    have HE:=hid (show stLast tag t (l.take j)=r by rw[List.take_of_length_le (Nat.le_of_eq HN.out)];exact HRR.out);rw[HE.out];clear hi hj;go_wp2_with fail
    go_ret;exact⟨rfl,HB.out⟩
end
end Go.Proofs.YtimffppffbideaaGreatDoor
