import Derived.Test.YtimffppffbideaaGreatDoorJStabOwn
set_option linter.unusedSimpArgs false
set_option linter.unusedVariables false
set_option maxRecDepth 100000
set_option maxHeartbeats 8000000
namespace Go.Proofs.YtimffppffbideaaGreatDoor
open Go.RowKit Go.Lib Go.Sort Go.Shelf
open Mat
theorem tyG:TyS Tryz.prog 91 51 1 24:=TyS.mk' (z:=.slice none 0 0) Tryz.underlying91 (by kernel_rfl) rfl (by omega)
theorem sne:84≠51:=by decide
theorem merge_step (l:List Sn)(s:Sn):groups mgTk ((l++[s]).filter tcB)=if tcB s=true then into mgTk s (groups mgTk (l.filter tcB))else groups mgTk (l.filter tcB):=by
 rw[List.filter_append];split
 ·rename_i h;rw[List.filter_cons,if_pos h,List.filter_nil,groups_snoc]
 ·rename_i h;rw[List.filter_cons,if_neg h,List.filter_nil,List.append_nil]
theorem vals_set (gs:List (Gp Sn))(i:Nat)(g:Gp Sn):vals (gs.set i g)=(vals gs).set i g.l:=by unfold vals;rw[List.map_set]
theorem vals_snoc (gs:List (Gp Sn))(g:Gp Sn):vals (gs++[g])=vals gs++[g.l]:=by unfold vals;rw[List.map_append];rfl
theorem ix_into {tk:List Sn→Sn→Bool}{s:Sn}{gs:List (Gp Sn)}{i:Nat}{g:Gp Sn}(hi:gs[i]? =some g)(ht:tk g.l s=true)(hn:∀(j:Nat) (g':Gp Sn),j<i→gs[j]? =some g'→tk g'.l s=false):into tk s (vals gs)=(vals gs).set i (g.l++[s]):=by
 refine into_hit (vals_at hi) (fun j l hj hl=> ?_) ht;unfold vals at hl;rw[List.getElem?_map]at hl;cases h:gs[j]? with
 |none=>rw[h]at hl;cases hl
 |some g'=>
  rw[h]at hl;injection hl with hl;subst hl;exact hn j g' hj h
theorem ix_none {tk:List Sn→Sn→Bool}{s:Sn}{gs:List (Gp Sn)}(h:∀g∈gs,tk g.l s=false):into tk s (vals gs)=vals gs++[[s]]:=by
 refine into_miss fun l hl=> ?_;obtain⟨g,hg,rfl⟩:=List.mem_map.1 hl;exact h g hg
def GrpR (gs:List (Gp Sn))(ls:List (List Sn)):Prop:=vals gs=ls
theorem merge_any {A:Option Addr}(c:Nat){l:List Sn}{w:World}(hr:Rd encSn 11 w w.heap.size A l)(hok:∀x∈l,SnOk x)(hl:l.length≤100):
  Calls Tryz.prog 126 #[.slice A l.length c] w fun e w'=>∃A' c' gs,e=.returned (.slice A' gs.length c')∧GrpR gs (mergeV l)∧OwnG 51 84 encSn 11 w' w.heap.size A' c' gs∧Below w.heap.size w w':=by
 have hown:=Own.lit (e:=84) (cs:=#[]) w w.heap.size ([]:List Sn) (g:=w.heap.size) encSn_ok rfl rfl (Nat.le_refl _) (by simp);have hb0:=(Below.refl w.heap.size w).al (.cells #[] 84);have hr0:=hr.st hb0;have hbs:w.heap.size≤(w.alloc (.cells #[] 84)).heap.size:=by simp
 have HOK:=hid hok;obtain⟨n,hn⟩:∃n,l.length=n:=⟨_,rfl⟩;have HN:=hid hn;have hl2:l.length≤100:=hl;rw[hn]at hl ⊢;clear hr hok;go_enter Tryz.func126,Tryz.ntmps126;go_wp2_with(first|(at_builtin;refine wpList_appS rfl (.tmp 8) (.tmp 9) tySn encSn_ok rfl _ rfl (by first|rfl|simp) hown l rfl (by first|rfl|simp|omega) hr0 (by first|omega|(simp;done)|(simp;omega)) (by first|omega|(simp;done)|(simp;omega)) hbs ?_;intro A4 c4 w4 hown4 hb4 hs4 hf4))
 rw[List.nil_append]at hown4;have hb5:=hb0.trans hb4;have hbz:w.heap.size≤w4.heap.size:=hb5.size;have CS:=srtSn_any hown4 hbz (by omega);rw[hn]at CS;have CS:=hid CS;have HB5:=hid hb5;have HSL:=hid ((srtS_len l).trans hn);have HSO:=hid (show∀x∈srtS l,SnOk x from fun x hx=>HOK.out x ((ordS_ok cmpSn_pre.swo l).perm.mem_iff.1 hx));clear hown4 hb4 hs4 hf4 hb5 hbz hb0 hown hr0 hbs;refine CS.out.mono ?_;rintro e w5 ⟨rfl,hown,hb,-,-⟩;have HBW:=hid (HB5.out.trans hb);have HR:=hid (hown.rd encSn_ok);obtain⟨sl,hsl⟩:∃sl,srtS l=sl:=⟨_,rfl⟩;have HM:=hid (show mergeV l=groups mgTk (sl.filter tcB) by rw[←hsl];rfl);rw[hsl]at HR HSL HSO;clear hown hb CS HB5 hsl hn HN HOK;go_wp2_with fail
 go_loopw [15,4] (fun si sg wx=>∃(k:Nat) (A:Option Addr) (c:Nat) (gs:List (Gp Sn)),k≤n∧si=.int .i64 k∧sg=.slice A gs.length c∧Hid (GrpR gs (groups mgTk ((sl.take k).filter tcB)))∧Hid (OwnG 51 84 encSn 11 wx w5.heap.size A c gs)∧Hid (Below w5.heap.size w5 wx)) (fun si _ _=>n-(RowKit.intOf si).toNat)
 case atStart=>exact⟨0,none,0,[],Nat.zero_le _,rfl,rfl,rfl,OwnG.nil _ _,Below.refl _ _⟩
 case round=>
  obtain⟨k,A9,c9,gs,hk,rfl,rfl,HG,HO,HB⟩:=hrel;have k1:(0:Int)≤(k:Int):=by omega
  by_cases hi:k<n
  ·obtain⟨b,off,x,hA,hbl,hx,hc⟩:=(HR.out.keep HB.out).at_ (i:=k) (by rw[HSL.out];exact hi);have HI:=hid hi;have HX:=hid hx;have HXO:=hid (HSO.out x (List.mem_of_getElem? hx));have HST:=hid (merge_step (sl.take k) x);rw[←take_snoc hx]at HST;have HGL:=hid (show gs.length≤n by rw[←vals_len,show vals gs=_ from HG.out];refine Nat.le_trans (groups_len _) (Nat.le_trans (List.length_filter_le _ _) ?_);rw[List.length_take];omega);have HGO:=hid (show∀g∈gs,g.l≠[]∧g.l.length≤n∧∀y∈g.l,SnOk y from fun g hg=>by
    have hm:g.l∈groups mgTk ((sl.take k).filter tcB):=by rw[←show vals gs=_ from HG.out];exact List.mem_map.2 ⟨g,hg,rfl⟩
    refine⟨groups_ne _ _ _ hm,?_,fun y hy=> ?_⟩
    ·refine Nat.le_trans (groups_mem hm).1 (Nat.le_trans (List.length_filter_le _ _) ?_);rw[List.length_take];omega
    ·exact HSO.out y (List.mem_of_mem_take (List.mem_filter.1 ((groups_mem hm).2 y hy)).1))
   have k2:(k:Int)<(n:Int):=by omega
   subst hA;obtain⟨sx,hsx⟩:∃sx,sx=x:=⟨_,rfl⟩;have HXV:=hid hsx;obtain⟨⟨s1,s2,s3,s4,s5,s6,s7⟩,s8,s9,s10,s11⟩:=x;have e0:wr.cell? ⟨b,off+k*11,none⟩=some (.string s1):=by simpa using hc 0 _ rfl
   have e1:wr.cell? ⟨b,off+k*11+1,none⟩=some (.int .i64 s2):=hc 1 _ rfl;have e2:wr.cell? ⟨b,off+k*11+2,none⟩=some (.int .i64 s3):=hc 2 _ rfl;have e3:wr.cell? ⟨b,off+k*11+3,none⟩=some (.string s4):=hc 3 _ rfl;have e4:wr.cell? ⟨b,off+k*11+4,none⟩=some (.string s5):=hc 4 _ rfl;have e5:wr.cell? ⟨b,off+k*11+5,none⟩=some (.int .i64 s6):=hc 5 _ rfl;have e6:wr.cell? ⟨b,off+k*11+6,none⟩=some (.int .i64 s7):=hc 6 _ rfl;have e7:wr.cell? ⟨b,off+k*11+7,none⟩=some (.int .i64 s8):=hc 7 _ rfl;have e8:wr.cell? ⟨b,off+k*11+8,none⟩=some (.string s9):=hc 8 _ rfl;have e9:wr.cell? ⟨b,off+k*11+9,none⟩=some (.int .i64 s10):=hc 9 _ rfl;have e10:wr.cell? ⟨b,off+k*11+10,none⟩=some (.int .i64 s11):=hc 10 _ rfl;obtain⟨Y,hY⟩:∃Y,wr.alloc (.cells #[.string s1,.int .i64 s2,.int .i64 s3,.string s4,.string s5,.int .i64 s6,.int .i64 s7,.int .i64 s8,.string s9,.int .i64 s10,.int .i64 s11] 84)=Y:=⟨_,rfl⟩;have BS:Blk Y wr.heap.size #[.string s1,.int .i64 s2,.int .i64 s3,.string s4,.string s5,.int .i64 s6,.int .i64 s7,.int .i64 s8,.string s9,.int .i64 s10,.int .i64 s11] 84:=by rw[←hY];exact Blk.new wr _ _
   have z10:=BS.cell 10 (v:=.int .i64 s11) rfl;have HBS:=hid BS;have HBY:Hid (Below wr.heap.size wr Y):=hid (by rw[←hY];exact(Below.refl _ wr).al _);have HOY:Hid (OwnG 51 84 encSn 11 Y w5.heap.size A9 c9 gs):=hid (by rw[←hY];exact HO.out.alloc _);clear hc hbl hx hi hk BS hsx;by_cases hkd:s11=1∨s11=2
   ·have HT:=hid (show tcB ⟨⟨s1,s2,s3,s4,s5,s6,s7⟩,s8,s9,s10,s11⟩=true by unfold tcB;simp;omega);have F:(s11 !=1)=false∨((s11 !=1)=true∧(s11 !=2)=false):=by
     rcases hkd with h|h
     ·left;simp[h]
     ·right;simp[h]
    have eg:∀args w,(callFunc 150 args).run Tryz.prog w=.ok (.enter 150 args) w:=enters_of Tryz.func150 (by kernel_rfl) rfl;have CI:=hid (idxG_any c9 (fun g=>mgTk g sx) 150 #[.pointer (some ⟨wr.heap.size,0,none⟩)] eg (w:=Y) (by have:=HGL.out;omega) (HOY.out.out.rd encG_ok)
     (
      fun W hW g hg=>by
      obtain⟨g1,g2,g3⟩:=HGO.out g hg;exact mg1_any g.c sx (((HOY.out.ins g hg).rd encSn_ok).st hW) g1 g3 (by rw[HXV.out];exact HXO.out) (by rw[HXV.out];exact HBS.out.below hW HBS.out.lt)))
    clear hkd eg;rcases F with f1|⟨f1,f2⟩
    all_goals
     go_wp2_with fail
     refine CI.out.mono ?_;rintro e W6 ⟨⟨r,rfl,hix⟩,hb6⟩;have HB6:=hid (HB.out.st (HBY.out.st hb6));have HO6:=hid (HOY.out.keep hb6 (Nat.le_refl _));have HS6:=hid (HBS.out.below hb6 HBS.out.lt);clear hb6 CI e0 e1 e2 e3 e4 e5 e6 e7 e8 e9 e10 z10 hY HBS HBY HOY;rcases hix with⟨rfl,hno⟩|⟨i,g,rfl,hgi,hpt,hbf⟩
     ·have HIN:=hid (show vals (gs++[⟨some ⟨W6.heap.size,0,none⟩,1,[sx]⟩])=groups mgTk ((sl.take (k+1)).filter tcB) by
       rw[HST.out,HT.out,if_pos rfl,vals_snoc,←show vals gs=_ from HG.out,HXV.out];rw[HXV.out]at hno;exact(ix_none hno).symm)
      obtain⟨V1,hV1⟩:∃V,W6.alloc (.cells #[.string s1,.int .i64 s2,.int .i64 s3,.string s4,.string s5,.int .i64 s6,.int .i64 s7,.int .i64 s8,.string s9,.int .i64 s10,.int .i64 s11] 84)=V:=⟨_,rfl⟩;have sV:V1.heap.size=W6.heap.size+1:=by rw[←hV1];simp
      have hbs:w5.heap.size≤W6.heap.size:=HB6.out.size;have HLit:Hid (Own 84 encSn 11 V1 w5.heap.size (some ⟨W6.heap.size,0,none⟩) 1 [sx]):=hid (by
       have:=Own.lit (e:=84) (cs:=#[.string s1,.int .i64 s2,.int .i64 s3,.string s4,.string s5,.int .i64 s6,.int .i64 s7,.int .i64 s8,.string s9,.int .i64 s10,.int .i64 s11]) W6 w5.heap.size [sx] (g:=W6.heap.size) encSn_ok (by rw[HXV.out];rfl) rfl hbs (by simp)
       rwa [hV1]at this)
      have HBV:Hid (Below w5.heap.size w5 V1):=hid (by rw[←hV1];exact HB6.out.al _);have HOV:Hid (OwnG 51 84 encSn 11 V1 w5.heap.size A9 c9 gs):=hid (by rw[←hV1];exact HO6.out.alloc _);have hbs1:w5.heap.size≤V1.heap.size:=by omega
      have hgl:=HGL.out;have HAP:Hid (∀g'∈gs,Ap g'.A (some ⟨W6.heap.size,0,none⟩)):=hid (fun g' hg' x hx e=>by
       have:=(HO6.out.ins g' hg').lt2 hx
       injection e with e;injection e with e;omega)
      clear hno;go_wp2_with(first|(refine wpList_boxLoad rfl (ty:=84) (x:=.tmp 6) (cs:=#[.string s1,.int .i64 s2,.int .i64 s3,.string s4,.string s5,.int .i64 s6,.int .i64 s7,.int .i64 s8,.string s9,.int .i64 s10,.int .i64 s11]) rfl HS6.out rfl ⟨_,Tryz.underlying84,by kernel_rfl⟩ ?_)|(at_builtin;refine wpList_app1b rfl (.tmp 32) (.tmp 35) tyG encG_ok rfl (⟨some ⟨W6.heap.size,0,none⟩,1,[sx]⟩:Gp Sn) rfl _ rfl (by simp) HOV.out.out rfl (by first|rfl|assumption|simp) (by first|omega|(simp;omega)) (by first|omega|(simp;omega)) hbs1 ?_;intro A7 c7 w7 hown7 hb7 hs7 hf7;have hbel7:=(HBV.out).trans hb7))
      have HP:=hid (HOV.out.push sne (g:=⟨some ⟨W6.heap.size,0,none⟩,1,[sx]⟩) HLit.out HAP.out hown7 hf7);have HB7:=hid hbel7;clear hown7 hb7 hs7 hf7 hbel7 hV1;go_roundw
      case rel=>exact⟨k+1,A7,c7,gs++[(⟨some ⟨W6.heap.size,0,none⟩,1,[sx]⟩:Gp Sn)],HI.out,by go_num,by simp,HIN.out,HP.out,HB7.out⟩
      case measure=>have:=HI.out;simp[RowKit.intOf];omega
     ·have HIN:=hid (fun(A2:Option Addr) (c2:Nat)=>show vals (gs.set i ⟨A2,c2,g.l++[sx]⟩)=groups mgTk ((sl.take (k+1)).filter tcB) by
       rw[HST.out,HT.out,if_pos rfl,vals_set,←show vals gs=_ from HG.out];rw[←HXV.out];exact(ix_into hgi hpt hbf).symm)
      have hil:=(List.getElem?_eq_some_iff.1 hgi).1;obtain⟨ob,hA9,hob1,hob2⟩:=HO6.out.out.exB (by intro q;rw[q]at hil;simp at hil);subst hA9;have HGI:=hid hgi;have HIL:=hid hil;have hgll:=(HGO.out g (List.mem_of_getElem? hgi)).2.1;have y0:W6.drew.cell? ⟨ob,i,none⟩=some (.slice g.A g.l.length g.c):=by simpa using HO6.out.out.cells encG_ok rfl hgi (j:=0) rfl
      have HO6:Hid (OwnG 51 84 encSn 11 W6.drew w5.heap.size (some ⟨ob,0,none⟩) c9 gs):=hid (HO6.out.drewN 1);have HB6:=hid HB6.out.drew;have HS6:Hid (Blk W6.drew wr.heap.size #[.string s1,.int .i64 s2,.int .i64 s3,.string s4,.string s5,.int .i64 s6,.int .i64 s7,.int .i64 s8,.string s9,.int .i64 s10,.int .i64 s11] 84):=hid HS6.out.drew;have i1:(0:Int)≤(i:Int):=by omega
      have i2:(i:Int)<(gs.length:Int):=by omega
      have i3:¬(i:Int)<0:=by omega
      have i4:decide (i<gs.length)=true:=decide_eq_true hil;have hgll2:g.l.length≤100:=by omega
      clear hgi hpt hbf;go_upto_region 11 with fail
      refine wp_region_held_drew (S:=fun X=>Blk X wr.heap.size #[.string s1,.int .i64 s2,.int .i64 s3,.string s4,.string s5,.int .i64 s6,.int .i64 s7,.int .i64 s8,.string s9,.int .i64 s10,.int .i64 s11] 84) (by kernel_rfl) HS6.out (fun hHeld=> ?_);have hSS:=HS6.out;generalize W6.drew=V0 at*;change wpAnyH _ _ _ _ _ 11 _ _ _;refine tk 0 (h:= ?_);refine tk 1 (h:= ?_);refine tk 2 (h:= ?_);refine tk 3 (h:= ?_);refine tk 4 (h:= ?_);refine wpAnyH_take (i:=6) (v:=.agg #[.string s1,.int .i64 s2,.int .i64 s3,.string s4,.string s5,.int .i64 s6,.int .i64 s7,.int .i64 s8,.string s9,.int .i64 s10,.int .i64 s11]) (by simp only[List.getElem?_toArray,List.getElem?_cons_zero,List.getElem?_cons_succ];rfl) (by kernel_rfl) (by kernel_rfl) (by kernel_rfl) (by intro _ _ _ h;exact h) (yieldsIf_boxLoad (by rfl) rfl rfl (fun _ hw=>hw) ⟨_,Tryz.underlying84,by kernel_rfl⟩) (by assumption) ?_;refine td (h:= ?_);have HXA:=hid (fun x (hx:g.A=some ⟨x,0,none⟩)=>((HO.out.ins g (List.mem_of_getElem? HGI.out)).lt2 hx).2);obtain⟨V1,hV1⟩:∃V,V0.alloc (.cells #[.string s1,.int .i64 s2,.int .i64 s3,.string s4,.string s5,.int .i64 s6,.int .i64 s7,.int .i64 s8,.string s9,.int .i64 s10,.int .i64 s11] 84)=V:=⟨_,rfl⟩;have sV:V1.heap.size=V0.heap.size+1:=by rw[←hV1];simp
      have HO1:Hid (OwnG 51 84 encSn 11 V1 w5.heap.size (some ⟨ob,0,none⟩) c9 gs):=hid (by rw[←hV1];exact HO6.out.alloc _);have HB1:Hid (Below w5.heap.size w5 V1):=hid (by rw[←hV1];exact HB6.out.al _);have BL1:Hid (Blk V1 V0.heap.size #[.string s1,.int .i64 s2,.int .i64 s3,.string s4,.string s5,.int .i64 s6,.int .i64 s7,.int .i64 s8,.string s9,.int .i64 s10,.int .i64 s11] 84):=hid (by rw[←hV1];exact Blk.new V0 _ _);have hSS1:Blk V1 wr.heap.size #[.string s1,.int .i64 s2,.int .i64 s3,.string s4,.string s5,.int .i64 s6,.int .i64 s7,.int .i64 s8,.string s9,.int .i64 s10,.int .i64 s11] 84:=by rw[←hV1];exact hSS.alloc _
      have y1:V1.cell? ⟨ob,i,none⟩=some (.slice g.A g.l.length g.c):=by simpa using HO1.out.out.cells encG_ok rfl HGI.out (j:=0) rfl
      have hbs1:w5.heap.size≤V1.heap.size:=HB1.out.size;have hXV:(encSn sx)=[.string s1,.int .i64 s2,.int .i64 s3,.string s4,.string s5,.int .i64 s6,.int .i64 s7,.int .i64 s8,.string s9,.int .i64 s10,.int .i64 s11]:=by rw[HXV.out];rfl
      refine rd2 5 7 (h:=fun K hK=> ?_) (h2:=fun K hK=> ?_)
      ·rw[if_pos (by rfl)];go_wp2_with fail
       refine hK.out _ _ hSS (fun hHeld=> ?_);clear hK K;refine td (h:= ?_);refine rd1 7 (h:=fun K hK=> ?_);rw[if_pos (by rfl)];go_wp2_with fail
       refine hK.out _ _ hSS1 (fun hHeld=> ?_);clear hK K;refine td (h:= ?_);refine rd1 8 (h:=fun K hK=> ?_);rw[if_pos (by rfl)];refine wp_appL (.tmp 42) (.tmp 44) tySn encSn_ok rfl sx hXV.symm w5.heap.size rfl rfl (HO1.out.ins g (List.mem_of_getElem? HGI.out)) rfl BL1.out (by omega) (by omega) hbs1 ?_;intro A2 c2 w2 own2 hb2 hs2 hf2 hl2;have hSS2:Blk w2 wr.heap.size #[.string s1,.int .i64 s2,.int .i64 s3,.string s4,.string s5,.int .i64 s6,.int .i64 s7,.int .i64 s8,.string s9,.int .i64 s10,.int .i64 s11] 84:=(hf2 _ hSS1.lt (fun x hx=>Nat.ne_of_gt (HXA.out x hx))).trans hSS1;have hOo:Own 51 encG 1 w2 w5.heap.size (some ⟨ob,0,none⟩) c9 gs:=HO1.out.out.keepB (fun x hx hxl=>hf2 x hxl (fun y hy=>(HO1.out.apart sne (List.mem_of_getElem? HGI.out) hx hy).symm));have y2:w2.cell? ⟨ob,i,none⟩=some (.slice g.A g.l.length g.c):=(by simpa using hOo.cells encG_ok rfl HGI.out (j:=0) rfl);have z2:=hOo.frozen rfl i;have HP:=hid (HO1.out.put sne HGI.out own2 hf2 hl2 rfl);have HB2:=hid ((HB1.out.trans hb2).setCell (p:=⟨ob,i,none⟩) hob1 (.slice A2 (g.l++[sx]).length c2));have hSS3:Blk (w2.setCell ⟨ob,i,none⟩ (.slice A2 (g.l.length+1) c2)) wr.heap.size #[.string s1,.int .i64 s2,.int .i64 s3,.string s4,.string s5,.int .i64 s6,.int .i64 s7,.int .i64 s8,.string s9,.int .i64 s10,.int .i64 s11] 84:=hSS2.other (by show wr.heap.size≠ob;have:=(HO.out.out.lt2 rfl).2;omega) _;refine hK.out _ _ hSS2 (fun hHeld=> ?_);clear hK K;refine td (h:= ?_);refine tk 9 (h:= ?_);refine rd1 10 (h:=fun K hK=> ?_);rw[if_pos (by rfl)];go_wp2_with fail;refine hK.out _ _ hSS3 (fun hHeld=> ?_);clear hK K;refine td (h:= ?_);refine wpAnyH_done (by kernel_rfl) ?_ _;clear hHeld hSS hSS1 hSS2 hSS3 own2 hb2 hs2 hf2 hl2 hOo y0 y1 y2 z2;go_wp2_with fail;go_roundw;(case rel=>exact⟨k+1,_,c9,gs.set i (⟨A2,c2,g.l++[sx]⟩:Gp Sn),HI.out,by go_num,by rw[List.length_set],HIN.out A2 c2,by rw[List.length_append]at HP;exact HP.out,by rw[List.length_append]at HB2;exact HB2.out⟩);(case measure=>have:=HI.out;simp[RowKit.intOf];omega)
      ·rw[if_pos (by rfl)];go_wp2_with fail
       refine hK.out _ _ hSS1 (fun hHeld=> ?_);clear hK K;refine td (h:= ?_);refine rd1 5 (h:=fun K hK=> ?_);rw[if_pos (by rfl)];go_wp2_with fail
       refine hK.out _ _ hSS1 (fun hHeld=> ?_);clear hK K;refine td (h:= ?_);refine rd1 8 (h:=fun K hK=> ?_);rw[if_pos (by rfl)];refine wp_appL (.tmp 42) (.tmp 44) tySn encSn_ok rfl sx hXV.symm w5.heap.size rfl rfl (HO1.out.ins g (List.mem_of_getElem? HGI.out)) rfl BL1.out (by omega) (by omega) hbs1 ?_;intro A2 c2 w2 own2 hb2 hs2 hf2 hl2;have hSS2:Blk w2 wr.heap.size #[.string s1,.int .i64 s2,.int .i64 s3,.string s4,.string s5,.int .i64 s6,.int .i64 s7,.int .i64 s8,.string s9,.int .i64 s10,.int .i64 s11] 84:=(hf2 _ hSS1.lt (fun x hx=>Nat.ne_of_gt (HXA.out x hx))).trans hSS1;have hOo:Own 51 encG 1 w2 w5.heap.size (some ⟨ob,0,none⟩) c9 gs:=HO1.out.out.keepB (fun x hx hxl=>hf2 x hxl (fun y hy=>(HO1.out.apart sne (List.mem_of_getElem? HGI.out) hx hy).symm));have y2:w2.cell? ⟨ob,i,none⟩=some (.slice g.A g.l.length g.c):=(by simpa using hOo.cells encG_ok rfl HGI.out (j:=0) rfl);have z2:=hOo.frozen rfl i;have HP:=hid (HO1.out.put sne HGI.out own2 hf2 hl2 rfl);have HB2:=hid ((HB1.out.trans hb2).setCell (p:=⟨ob,i,none⟩) hob1 (.slice A2 (g.l++[sx]).length c2));have hSS3:Blk (w2.setCell ⟨ob,i,none⟩ (.slice A2 (g.l.length+1) c2)) wr.heap.size #[.string s1,.int .i64 s2,.int .i64 s3,.string s4,.string s5,.int .i64 s6,.int .i64 s7,.int .i64 s8,.string s9,.int .i64 s10,.int .i64 s11] 84:=hSS2.other (by show wr.heap.size≠ob;have:=(HO.out.out.lt2 rfl).2;omega) _;refine hK.out _ _ hSS2 (fun hHeld=> ?_);clear hK K;refine td (h:= ?_);refine tk 9 (h:= ?_);refine rd1 10 (h:=fun K hK=> ?_);rw[if_pos (by rfl)];go_wp2_with fail;refine hK.out _ _ hSS3 (fun hHeld=> ?_);clear hK K;refine td (h:= ?_);refine wpAnyH_done (by kernel_rfl) ?_ _;clear hHeld hSS hSS1 hSS2 hSS3 own2 hb2 hs2 hf2 hl2 hOo y0 y1 y2 z2;go_wp2_with fail;go_roundw;(case rel=>exact⟨k+1,_,c9,gs.set i (⟨A2,c2,g.l++[sx]⟩:Gp Sn),HI.out,by go_num,by rw[List.length_set],HIN.out A2 c2,by rw[List.length_append]at HP;exact HP.out,by rw[List.length_append]at HB2;exact HB2.out⟩);(case measure=>have:=HI.out;simp[RowKit.intOf];omega)
   ·have f1:(s11 !=1)=true:=by simp;omega
    have f2:(s11 !=2)=true:=by simp;omega
    have HT:=hid (show tcB ⟨⟨s1,s2,s3,s4,s5,s6,s7⟩,s8,s9,s10,s11⟩=false by unfold tcB;simp;omega);clear hkd;go_wp2_with fail
    go_roundw
    case rel=>exact⟨k+1,A9,c9,gs,HI.out,by go_num,rfl,by have:=HST.out;rw[HT.out,if_neg (by simp)]at this;unfold Hid GrpR;rw[this];exact HG.out,HOY.out,HB.out.st HBY.out⟩
    case measure=>have:=HI.out;simp[RowKit.intOf];omega
  ·obtain rfl:k=n:=by omega
   have R:=hid (show GrpR gs (mergeV l) by have h:=HG.out;rw[←HSL.out,List.take_length]at h;rw[HM.out];exact h);have HF:=hid (HBW.out.trans (HB.out.mono HBW.out.size));have HO2:=hid (HO.out.mono HBW.out.size);clear hi hk HG HO HB;go_wp2_with fail
   go_ret;exact⟨A9,c9,gs,rfl,R.out,HO2.out,HF.out⟩
end Go.Proofs.YtimffppffbideaaGreatDoor
