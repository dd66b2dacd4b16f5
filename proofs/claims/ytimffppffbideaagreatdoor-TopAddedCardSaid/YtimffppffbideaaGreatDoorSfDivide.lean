import Derived.Test.YtimffppffbideaaGreatDoorSnMerge
import Derived.Test.YtimffppffbideaaGreatDoorJSnProb
set_option linter.unusedSimpArgs false
set_option linter.unusedVariables false
set_option maxRecDepth 100000
set_option maxHeartbeats 8000000
namespace Go.Proofs.YtimffppffbideaaGreatDoor
open Go.RowKit Go.Lib Go.Sort
open Mat
structure PartsR (w:World)(lA:Option Addr)(tA:Option Addr)(ts:List (Gp Sn))(pA:Option Addr)(ps:List (Gp Sn))(f:List Sn):Prop where
 loops:Rd encSn 11 w w.heap.size lA (loopsOf f)
 tags:RdG encSn 11 w w.heap.size tA ts
 plates:RdG encSn 11 w w.heap.size pA ps
 t:GrpR ts (tagsOf f)
 p:GrpR ps (platesOf f)
theorem PartsR.st {w w':World}{lA tA pA:Option Addr}{ts ps:List (Gp Sn)}{f:List Sn}(h:PartsR w lA tA ts pA ps f)(hb:Below w.heap.size w w'):PartsR w' lA tA ts pA ps f:=
 ⟨h.loops.st hb,h.tags.st hb,h.plates.st hb,h.t,h.p⟩
def DivNo (f:List Sn)(e:Ending):Prop:=blockedB f=true∧e=.returned (.tuple #[.agg #[.slice none 0 0,.slice none 0 0,.slice none 0 0,.slice none 0 0],.bool false])
def DivYes (B:Nat)(f:List Sn)(e:Ending)(w':World):Prop:=blockedB f=false∧∃aA an ac lA lc tA tc ts pA pc ps,e=.returned (.tuple #[.agg #[.slice aA an ac,.slice lA (loopsOf f).length lc,.slice tA ts.length tc,.slice pA ps.length pc],.bool true])∧∀W':World,(∀b,B≤b→b<w'.heap.size→W'.heap[b]? =w'.heap[b]?)→w'.heap.size≤W'.heap.size→PartsR W' lA tA ts pA ps f
theorem filt_snoc {α:Type}(p:α→Bool){l:List α}{j:Nat}{x:α}(h:l[j]? =some x):(l.take (j+1)).filter p=(l.take j).filter p++if p x=true then[x]else[]:=by
 rw[List.take_add_one,h,Option.toList_some,List.filter_append];congr 1;by_cases q:p x=true
 ·rw[if_pos q,List.filter_cons_of_pos q];rfl
 ·rw[if_neg q,List.filter_cons_of_neg q];rfl
theorem filt_len {α:Type}(p:α→Bool)(l:List α)(j:Nat):((l.take j).filter p).length≤l.length:=Nat.le_trans (List.length_filter_le _ _) (by rw[List.length_take];omega)
structure PartsO (w:World)(B:Nat)(lA:Option Addr)(lc:Nat)(ls:List Sn)(tA:Option Addr)(tc:Nat)(ts:List (Gp Sn))(pA:Option Addr)(pc:Nat)(ps:List (Gp Sn))(gA:Option Addr)(gc:Nat)(gs:List (Gp Sn)):Prop where
 l:Own 84 encSn 11 w B lA lc ls
 t:Own 51 encG 1 w B tA tc ts
 p:Own 51 encG 1 w B pA pc ps
 g:OwnG 51 84 encSn 11 w B gA gc gs
 st:∀g∈ts,g∈gs
 sp:∀g∈ps,g∈gs
section
variable {w w':World}{B lc tc pc gc:Nat}{lA tA pA gA:Option Addr}{ls:List Sn}{ts ps gs:List (Gp Sn)}
theorem PartsO.keep (h:PartsO w B lA lc ls tA tc ts pA pc ps gA gc gs)(hk:∀b,B≤b→b<w.heap.size→w'.heap[b]? =w.heap[b]?):PartsO w' B lA lc ls tA tc ts pA pc ps gA gc gs:=
 ⟨
  h.l.keepB fun x hx hl=>hk x (h.l.lt2 hx).1 hl,h.t.keepB fun x hx hl=>hk x (h.t.lt2 hx).1 hl,h.p.keepB fun x hx hl=>hk x (h.p.lt2 hx).1 hl,
  ⟨h.g.out.keepB fun x hx hl=>hk x (h.g.out.lt2 hx).1 hl,fun y hy=>(h.g.ins y hy).keepB fun x hx hl=>hk x ((h.g.ins y hy).lt2 hx).1 hl,h.g.ap⟩,h.st,h.sp⟩
theorem PartsO.rd (h:PartsO w B lA lc ls tA tc ts pA pc ps gA gc gs){f:List Sn}(h1:ls=loopsOf f)(h2:GrpR ts (tagsOf f))(h3:GrpR ps (platesOf f)):PartsR w lA tA ts pA ps f:=
 ⟨h1▸h.l.rd encSn_ok,⟨h.t.rd encG_ok,fun g hg=>(h.g.ins g (h.st g hg)).rd encSn_ok⟩,⟨h.p.rd encG_ok,fun g hg=>(h.g.ins g (h.sp g hg)).rd encSn_ok⟩,h2,h3⟩
end
theorem vals_filter (p:List Sn→Bool)(gs:List (Gp Sn)):vals (gs.filter fun g=>p g.l)=(vals gs).filter p:=by
 unfold vals;rw[List.filter_map];rfl
theorem divide_any {A:Option Addr}(c:Nat){f:List Sn}{w:World}(hr:Rd encSn 11 w w.heap.size A f)(hok:∀x∈f,SnOk x)(hne:f≠[])(hl:f.length≤100):
  Calls Tryz.prog 96 #[.slice A f.length c] w fun e w'=>(DivNo f e∨DivYes w.heap.size f e w')∧Below w.heap.size w w':=by
 obtain⟨Y1,hY1⟩:∃Y,w.alloc (.cells #[.slice none 0 0,.slice none 0 0,.slice none 0 0,.slice none 0 0] 134)=Y:=⟨_,rfl⟩;have s1:Y1.heap.size=w.heap.size+1:=by rw[←hY1];simp
 obtain⟨tb,htb⟩:∃t,Y1.heap.size=t:=⟨_,rfl⟩;obtain⟨Y2,hY2⟩:∃Y,Y1.alloc (.cells #[.slice none 0 0,.slice none 0 0,.slice none 0 0,.slice none 0 0] 134)=Y:=⟨_,rfl⟩;have b1:Below w.heap.size w Y1:=by rw[←hY1];exact(Below.refl _ w).al _
 have b2:Below tb Y1 Y2:=by rw[←hY2,←htb];exact(Below.refl _ Y1).al _
 have BT:Blk Y2 tb #[.slice none 0 0,.slice none 0 0,.slice none 0 0,.slice none 0 0] 134:=by rw[←hY2,←htb];exact Blk.new Y1 _ _
 have BZ:Blk Y2 w.heap.size #[.slice none 0 0,.slice none 0 0,.slice none 0 0,.slice none 0 0] 134:=by have:Blk Y1 w.heap.size #[.slice none 0 0,.slice none 0 0,.slice none 0 0,.slice none 0 0] 134:=by{rw[←hY1];exact Blk.new w _ _};exact this.below b2 (by omega)
 have s2:Y2.heap.size=tb+1:=by rw[←hY2];simp[htb]
 have y0:=BT.cell 0 (v:=.slice none 0 0) rfl;have z0:=BT.frozen 0;have hb2:Below w.heap.size w Y2:=b1.trans (b2.mono (by omega));have hr2:=hr.st hb2;have hown:=Own.nil (α:=Sn) (e:=84) (enc:=encSn) (k:=11) Y2 (tb+1);have hbs:tb+1≤Y2.heap.size:=by omega
 obtain⟨n,hn⟩:∃n,f.length=n:=⟨_,rfl⟩;have HW:Hid (w.heap.size+1=tb):=hid (by omega);have HB2:=hid hb2;have HBT:=hid BT;have HBZ:=hid BZ;have HOK:=hid hok;have HNE:Hid (0<n):=hid (by rw[←hn];exact List.length_pos_iff.2 hne);rw[hn]at hl ⊢;have hl2:f.length≤100:=by omega
 clear hr hok hne b1 b2 BZ BT hb2 s1;go_enter Tryz.func96,Tryz.ntmps96;go_wp2_with(first|(at_builtin;refine wpList_appS rfl (.tmp 12) (.tmp 13) tySn encSn_ok rfl (tb+1) rfl (by first|rfl|simp) hown f rfl (by first|rfl|simp|omega) hr2 (by first|omega|(simp;done)|(simp;omega)) (by first|omega|(simp;done)|(simp;omega)) hbs ?_;intro A4 c4 w4 hown4 hb4 hs4 hf4;have B4:=HBT.out.below hb4 (Nat.lt_succ_self tb);have y4:=B4.cell 0 (v:=.slice none 0 0) rfl;have z4:=B4.frozen 0))
 rw[List.nil_append]at hown4;obtain⟨X1,hX1⟩:∃X,w4.setCell ⟨tb,0,none⟩ (.slice A4 n c4)=X:=⟨_,rfl⟩;rw[hX1];have BX1:Blk X1 tb #[.slice A4 n c4,.slice none 0 0,.slice none 0 0,.slice none 0 0] 134:=by rw[←hX1];have:=(HBT.out.below hb4 (Nat.lt_succ_self tb)).set 0 (.slice A4 n c4);simpa using this
 have hoX:Own 84 encSn 11 X1 (tb+1) A4 c4 f:=by rw[←hX1];exact hown4.other (p:=⟨tb,0,none⟩) (Nat.lt_succ_self tb) _
 have hbX:Below tb Y2 X1:=by rw[←hX1];exact(hb4.mono (Nat.le_succ tb)).setCell (p:=⟨tb,0,none⟩) (Nat.le_refl _) _
 have hbs1:tb+1≤X1.heap.size:=Nat.le_trans hbs hbX.size;have CS:=srtSn_any hoX hbs1 (by omega);rw[hn]at CS;have CS:=hid CS;have HBX:=hid hbX;have HB1:=hid BX1;have HSL:=hid ((srtS_len f).trans hn);have HSO:=hid (show∀x∈srtS f,SnOk x from fun x hx=>HOK.out x ((srtS_perm f).mem_iff.1 hx));have HDL:=hid (show loopsOf f=(srtS f).filter loopB from rfl);have HDT:=hid (show tagsOf f=(mergeV (srtS f)).filter tagG from rfl);have HDP:=hid (show platesOf f=(mergeV (srtS f)).filter (fun g=> !tagG g)from rfl);have HDB0:=hid (show blockedB f=(decide (24<n)||decide (8<(tagsOf f).length)||decide (8<(platesOf f).length)||decide (8<(loopsOf f).length)||(srtS f).any fun s=> !eqS s.pt ((srtS f).headD default).pt) by rw[←hn];rfl);obtain⟨sl,hsl⟩:∃sl,srtS f=sl:=⟨_,rfl⟩;rw[hsl]at CS HSL HSO HDL HDT HDP HDB0;clear hown4 hb4 hs4 hf4 y4 z4 hown hbs hoX hbX hbs1 BX1 hX1 hr2 y0 z0 hsl hn HOK hl2 s2;with_reducible refine CS.out.mono ?_
 rintro e w5 ⟨rfl,hoA,hbA,-,hfA⟩;have HB5:=hid (HB1.out.below hbA (Nat.lt_succ_self tb));have HBX5:=hid (HBX.out.trans (hbA.mono (Nat.le_succ tb)));have HOA:=hid hoA;have y0:=HB5.out.cell 0 (v:=.slice A4 n c4) rfl;have HBS5:Hid (tb<w5.heap.size):=hid HB5.out.lt;obtain⟨ga,rfl,_,_⟩:=hoA.exB (by intro e;have h1:=HSL.out;have h2:=HNE.out;rw[e]at h1;simp at h1;omega);clear hoA hbA hfA CS HBX HB1 hY1 hY2 htb;go_wp2_with fail
 go_loopw [22] (fun sj wx=>∃(j:Nat) (lA:Option Addr) (lc:Nat) (ls:List Sn),j≤n∧sj=.int .i64 j∧Hid (Blk wx tb #[.slice (some ⟨ga,0,none⟩) n c4,.slice lA ls.length lc,.slice none 0 0,.slice none 0 0] 134)∧Hid (Own 84 encSn 11 wx w5.heap.size lA lc ls)∧Hid (ls=(sl.take j).filter loopB)∧Hid (BelX tb w5.heap.size w5 wx)) (fun sj _=>n-(RowKit.intOf sj).toNat)
 case atStart=>exact⟨0,none,0,[],Nat.zero_le _,rfl,HB5,Own.nil _ _,rfl,BelX.refl _ _ _⟩
 case round=>
  obtain⟨j,lA,lc,ls,hj,rfl,HBJ,HOL,HLV,HX⟩:=hrel;have j0:(0:Int)≤(j:Int):=by omega
  by_cases hi:j<n
  ·have HAJ:=hid (HOA.out.keepX HX.out (Nat.lt_succ_self tb) (Nat.le_refl _));obtain⟨x,hx⟩:∃x,sl[j]? =some x:=⟨_,List.getElem?_eq_getElem (by rw[HSL.out];exact hi)⟩;have hc:=fun(i:Nat) (v:Value) (h:(encSn x)[i]? =some v)=>HAJ.out.cells encSn_ok rfl hx (j:=i) h;have HI:=hid hi;have HST:=hid (filt_snoc loopB hx);have hll:ls.length≤100:=by rw[HLV.out];have:=filt_len loopB sl j;have:=HSL.out;omega
   have j1:(j:Int)<(n:Int):=by omega
   have j2:decide (j<n)=true:=decide_eq_true hi;obtain⟨sx,hsx⟩:∃sx,sx=x:=⟨_,rfl⟩;have HXV:=hid hsx;obtain⟨⟨s1,s2,s3,s4,s5,s6,s7⟩,s8,s9,s10,s11⟩:=x;have e0:wr.cell? ⟨ga,j*11,none⟩=some (.string s1):=by simpa using hc 0 _ rfl
   have e1:wr.cell? ⟨ga,j*11+1,none⟩=some (.int .i64 s2):=hc 1 _ rfl;have e2:wr.cell? ⟨ga,j*11+2,none⟩=some (.int .i64 s3):=hc 2 _ rfl;have e3:wr.cell? ⟨ga,j*11+3,none⟩=some (.string s4):=hc 3 _ rfl;have e4:wr.cell? ⟨ga,j*11+4,none⟩=some (.string s5):=hc 4 _ rfl;have e5:wr.cell? ⟨ga,j*11+5,none⟩=some (.int .i64 s6):=hc 5 _ rfl;have e6:wr.cell? ⟨ga,j*11+6,none⟩=some (.int .i64 s7):=hc 6 _ rfl;have e7:wr.cell? ⟨ga,j*11+7,none⟩=some (.int .i64 s8):=hc 7 _ rfl;have e8:wr.cell? ⟨ga,j*11+8,none⟩=some (.string s9):=hc 8 _ rfl;have e9:wr.cell? ⟨ga,j*11+9,none⟩=some (.int .i64 s10):=hc 9 _ rfl;have e10:wr.cell? ⟨ga,j*11+10,none⟩=some (.int .i64 s11):=hc 10 _ rfl;obtain⟨Y,hY⟩:∃Y,wr.alloc (.cells #[.string s1,.int .i64 s2,.int .i64 s3,.string s4,.string s5,.int .i64 s6,.int .i64 s7,.int .i64 s8,.string s9,.int .i64 s10,.int .i64 s11] 84)=Y:=⟨_,rfl⟩;have HBS:Hid (Blk Y wr.heap.size #[.string s1,.int .i64 s2,.int .i64 s3,.string s4,.string s5,.int .i64 s6,.int .i64 s7,.int .i64 s8,.string s9,.int .i64 s10,.int .i64 s11] 84):=hid (by rw[←hY];exact Blk.new wr _ _);have HXY:Hid (BelX tb w5.heap.size w5 Y):=hid (by rw[←hY];exact HX.out.al HX.out.size (Nat.le_trans (Nat.le_of_lt HBS5.out) HX.out.size) _);have HOY:Hid (Own 84 encSn 11 Y w5.heap.size lA lc ls):=hid (by rw[←hY];exact HOL.out.alloc _);have HBY:Hid (Blk Y tb #[.slice (some ⟨ga,0,none⟩) n c4,.slice lA ls.length lc,.slice none 0 0,.slice none 0 0] 134):=hid (by rw[←hY];exact HBJ.out.alloc _);have f10:=HBS.out.cell 10 (v:=.int .i64 s11) rfl;have y1:=HBY.out.cell 1 (v:=.slice lA ls.length lc) rfl;have hbs:w5.heap.size≤Y.heap.size:=HXY.out.size;clear hc hx hi hj hsx;by_cases hk:s11=3
   ·have hk2:(s11==3)=true:=by simp[hk]
    have HT:Hid (loopB ⟨⟨s1,s2,s3,s4,s5,s6,s7⟩,s8,s9,s10,s11⟩=true):=hid (by unfold loopB;simp[hk]);clear hk;go_wp2_with(first|(refine wpList_boxLoad rfl (ty:=84) (x:=.tmp 6) (cs:=#[.string s1,.int .i64 s2,.int .i64 s3,.string s4,.string s5,.int .i64 s6,.int .i64 s7,.int .i64 s8,.string s9,.int .i64 s10,.int .i64 s11]) rfl HBS.out rfl ⟨_,Tryz.underlying84,by kernel_rfl⟩ ?_)|((at_builtin;refine wpList_app1b rfl (.tmp 30) (.tmp 32) tySn encSn_ok rfl (⟨⟨s1,s2,s3,s4,s5,s6,s7⟩,s8,s9,s10,s11⟩:Sn) rfl _ rfl (by simp) HOY.out rfl (by first|rfl|assumption|simp) (by first|omega|(simp;omega)) (by first|omega|(simp;omega)) hbs ?_;intro A7 c7 w7 hown7 hb7 hs7 hf7;have hbel7:=((Below.refl w5.heap.size Y)).trans hb7);have BY7:Blk w7 tb #[.slice (some ⟨ga,0,none⟩) n c4,.slice lA ls.length lc,.slice none 0 0,.slice none 0 0] 134:=(hf7 tb HBY.out.lt (fun x hx=>Nat.ne_of_lt (Nat.lt_of_lt_of_le HBS5.out (HOY.out.lt2 hx).1))).trans HBY.out;have y7:=BY7.cell 1 (v:=.slice lA ls.length lc) rfl;have z7:=BY7.frozen 1))
    have HP7:Hid (Own 84 encSn 11 (w7.setCell ⟨tb,1,none⟩ (.slice A7 (ls.length+1) c7)) w5.heap.size A7 c7 (ls++[⟨⟨s1,s2,s3,s4,s5,s6,s7⟩,s8,s9,s10,s11⟩])):=hid (hown7.other (p:=⟨tb,1,none⟩) HBS5.out _);have HK7:Hid (Blk (w7.setCell ⟨tb,1,none⟩ (.slice A7 (ls.length+1) c7)) tb #[.slice (some ⟨ga,0,none⟩) n c4,.slice A7 (ls.length+1) c7,.slice none 0 0,.slice none 0 0] 134):=hid (by have:=BY7.set 1 (.slice A7 (ls.length+1) c7);simpa using this);have HX7:Hid (BelX tb w5.heap.size w5 (w7.setCell ⟨tb,1,none⟩ (.slice A7 (ls.length+1) c7))):=hid ((HXY.out.then hb7 (Nat.le_refl _) (Nat.le_of_lt HBS5.out)).set 1 _);have HL7:Hid (ls++[⟨⟨s1,s2,s3,s4,s5,s6,s7⟩,s8,s9,s10,s11⟩]=(sl.take (j+1)).filter loopB):=hid (by rw[HST.out,HT.out,if_pos rfl,←HLV.out]);clear hown7 hb7 hs7 hf7 BY7 y7 z7 hbel7;go_roundw
    case rel=>exact⟨j+1,A7,c7,_,HI.out,by go_num,by rw[List.length_append];exact HK7,HP7,HL7,HX7⟩
    case measure=>have:=HI.out;simp[RowKit.intOf];omega
   ·have hk2:(s11==3)=false:=by simp[hk]
    have HT:Hid (loopB ⟨⟨s1,s2,s3,s4,s5,s6,s7⟩,s8,s9,s10,s11⟩=false):=hid (by unfold loopB;simp[hk]);have HL7:Hid (ls=(sl.take (j+1)).filter loopB):=hid (by rw[HST.out,HT.out,if_neg (by simp),←HLV.out,List.append_nil]);clear hk;go_wp2_with fail
    go_roundw
    case rel=>exact⟨j+1,lA,lc,ls,HI.out,by go_num,HBY,HOY,HL7,HXY⟩
    case measure=>have:=HI.out;simp[RowKit.intOf];omega
  ·obtain rfl:j=n:=by omega
   obtain⟨w8,rfl⟩:∃x,x=wr:=⟨_,rfl⟩;have HLE:Hid (ls=loopsOf f):=hid (by rw[HLV.out,HDL.out,List.take_of_length_le (Nat.le_of_eq HSL.out)]);have HA8:=hid (HOA.out.keepX HX.out (Nat.lt_succ_self tb) (Nat.le_refl _));have HBY8:=hid (HBX5.out.trans HX.out.b);have CM:=merge_any c4 (HA8.out.rd encSn_ok) HSO.out (by have:=HSL.out;omega);rw[HSL.out]at CM;have CM:=hid CM;have HT8:Hid (tb<w8.heap.size):=hid HBJ.out.lt;have y0:=HBJ.out.cell 0 (v:=.slice (some ⟨ga,0,none⟩) j c4) rfl;clear hj hi;go_wp2_with fail
   with_reducible refine CM.out.mono ?_
   rintro e w9 ⟨gA,gc,gs,rfl,hG,hOG,hB⟩;have HB9:=hid (HBJ.out.below hB HT8.out);have HA9:=hid (HA8.out.keep hB (Nat.le_refl _));have HL9:=hid (HOL.out.keep hB (Nat.le_refl _));have HBY9:=hid (HBY8.out.trans (hB.mono (Nat.le_of_lt HT8.out)));have HG:=hid hG;have HOG:=hid hOG;have HT9:Hid (tb<w9.heap.size):=hid HB9.out.lt;have HGL:=hid (show gs.length≤j by rw[←vals_len,show vals gs=_ from hG];unfold mergeV;refine Nat.le_trans (groups_len _) (Nat.le_trans (List.length_filter_le _ _) ?_);rw[srtS_len,HSL.out];exact Nat.le_refl _);have HGN:=hid (show∀g∈gs,g.l≠[]from fun g hg=>groups_ne _ _ _ (by rw[←show mergeV sl=groups mgTk ((srtS sl).filter tcB)from rfl,←show vals gs=_ from hG];exact List.mem_map.2 ⟨g,hg,rfl⟩));clear hB hG hOG CM HBJ HA8 HOL HBY8 HX HLV y0;obtain⟨m,hm⟩:∃m,gs.length=m:=⟨_,rfl⟩;have HM:=hid hm;rw[hm];rw[hm]at HGL;have hm9:m≤100:=Nat.le_trans HGL.out hl;clear hm;go_wp2_with fail
   go_loopw [40] (fun sk wx=>∃(k:Nat) (tA:Option Addr) (tc:Nat) (ts:List (Gp Sn)) (pA:Option Addr) (pc:Nat) (ps:List (Gp Sn)),k≤m∧sk=.int .i64 k∧Hid (Blk wx tb #[.slice (some ⟨ga,0,none⟩) j c4,.slice lA ls.length lc,.slice tA ts.length tc,.slice pA ps.length pc] 134)∧Hid (Own 51 encG 1 wx w9.heap.size tA tc ts)∧Hid (Own 51 encG 1 wx w9.heap.size pA pc ps)∧Hid (Ap tA pA)∧Hid (ts=(gs.take k).filter fun g=>tagG g.l)∧Hid (ps=(gs.take k).filter fun g=> !tagG g.l)∧Hid (BelX tb w9.heap.size w9 wx)) (fun sk _=>m-(RowKit.intOf sk).toNat)
   case atStart=>exact⟨0,none,0,[],none,0,[],Nat.zero_le _,rfl,HB9,Own.nil _ _,Own.nil _ _,(fun g h=>by cases h),rfl,rfl,BelX.refl _ _ _⟩
   case round=>
    obtain⟨k,tA,tc,ts,pA,pc,ps,hk,rfl,HBK,HOT,HOP,HAP,HTV,HPV,HX⟩:=hrel;have k0:(0:Int)≤(k:Int):=by omega
    by_cases hi:k<m
    ·have HGK:=hid (HOG.out.keepX HX.out HT8.out (Nat.le_refl _));obtain⟨g,hg⟩:∃g,gs[k]? =some g:=⟨_,List.getElem?_eq_getElem (by rw[HM.out];exact hi)⟩;have hgm:=List.mem_of_getElem? hg;have hgn:=HGN.out g hgm;have HST:=hid (filt_snoc (fun g:Gp Sn=>tagG g.l) hg);have HSP:=hid (filt_snoc (fun g:Gp Sn=> !tagG g.l) hg);have htl:ts.length≤100:=by rw[HTV.out];have:=filt_len (fun g:Gp Sn=>tagG g.l) gs k;have:=HM.out;have:=HGL.out;omega
     have hpl:ps.length≤100:=by rw[HPV.out];have:=filt_len (fun g:Gp Sn=> !tagG g.l) gs k;have:=HM.out;have:=HGL.out;omega
     obtain⟨gb,hgb,_,_⟩:=HGK.out.out.exB (by intro e;have:=HM.out;rw[e]at this;simp at this;omega);have c0:=HGK.out.out.cells encG_ok hgb hg (j:=0) rfl;obtain⟨gAd,gcd,gld⟩:=g;simp only at hgn HST HSP c0;have hin:=HGK.out.ins _ hgm;simp only at hin;obtain⟨q,hq,_,_⟩:=hin.exB hgn;subst hq;obtain⟨x0,hx0⟩:∃x,gld[0]? =some x:=⟨_,List.getElem?_eq_getElem (List.length_pos_iff.2 hgn)⟩;have c1:=hin.cells encSn_ok rfl hx0 (j:=10) (u:=.int .i64 x0.kind) rfl;have HTG:=hid (show tagG gld=(x0.kind==1) by unfold tagG;rw[List.headD_eq_head?_getD,List.head?_eq_getElem?,hx0];rfl);have hgb2:=hgb;obtain⟨kd,hkd⟩:∃kd,x0.kind=kd:=⟨_,rfl⟩;rw[hkd]at c1 HTG;rw[Nat.mul_one,Nat.add_zero]at c0;rw[Nat.zero_mul,Nat.zero_add]at c1;have y2:=HBK.out.cell 2 (v:=.slice tA ts.length tc) rfl;have y3:=HBK.out.cell 3 (v:=.slice pA ps.length pc) rfl;have hbs:w9.heap.size≤wr.heap.size:=HX.out.size;have HI:=hid hi;have k1:(k:Int)<(m:Int):=by omega
     have k2:decide (k<m)=true:=decide_eq_true hi;have g0:(0:Int)<(gld.length:Int):=by have:=List.length_pos_iff.2 hgn;omega
     have g1:decide (0<gld.length)=true:=decide_eq_true (List.length_pos_iff.2 hgn);subst hgb2;clear hg hgm hgn hin hx0 hkd hgb hi hk;by_cases hkk:kd=1
     ·have hk2:(kd==1)=true:=by simp[hkk]
      rw[hk2]at HTG;clear hkk;go_wp2_with((at_builtin;refine wpList_app1a rfl (.tmp 50) (.tmp 52) tyG encG_ok rfl (⟨some ⟨q,0,none⟩,gcd,gld⟩:Gp Sn) rfl _ rfl (by simp) HOT.out rfl (by first|rfl|assumption|simp) (by first|omega|(simp;omega)) (by first|omega|(simp;omega)) hbs ?_;intro A7 c7 w7 hown7 hb7 hs7 hf7 hl7;have hbel7:=((Below.refl w9.heap.size wr)).trans hb7);have BY7:Blk w7 tb #[.slice (some ⟨ga,0,none⟩) j c4,.slice lA ls.length lc,.slice tA ts.length tc,.slice pA ps.length pc] 134:=(hf7 tb HBK.out.lt (fun x hx=>Nat.ne_of_lt (Nat.lt_of_lt_of_le HT9.out (HOT.out.lt2 hx).1))).trans HBK.out;have y7:=BY7.cell 2 (v:=.slice tA ts.length tc) rfl;have z7:=BY7.frozen 2)
      have HKA:Hid (Blk (w7.setCell ⟨tb,2,none⟩ (.slice A7 (ts.length+1) c7)) tb #[.slice (some ⟨ga,0,none⟩) j c4,.slice lA ls.length lc,.slice A7 (ts.length+1) c7,.slice pA ps.length pc] 134):=hid (by have:=BY7.set 2 (.slice A7 (ts.length+1) c7);simpa using this);have HPA:Hid (Own 51 encG 1 (w7.setCell ⟨tb,2,none⟩ (.slice A7 (ts.length+1) c7)) w9.heap.size A7 c7 (ts++[(⟨some ⟨q,0,none⟩,gcd,gld⟩:Gp Sn)])):=hid (hown7.other (p:=⟨tb,2,none⟩) HT9.out _);have HPO:Hid (Own 51 encG 1 (w7.setCell ⟨tb,2,none⟩ (.slice A7 (ts.length+1) c7)) w9.heap.size pA pc ps):=hid ((HOP.out.keepB (fun y hy hyl=>hf7 y hyl (fun x hx e=>HAP.out y (by rw[hx,e]) hy))).other (p:=⟨tb,2,none⟩) HT9.out _);have HAN:Hid (Ap A7 pA):=hid (HAP.out.moved HOP.out hl7);have HXN:Hid (BelX tb w9.heap.size w9 (w7.setCell ⟨tb,2,none⟩ (.slice A7 (ts.length+1) c7))):=hid ((HX.out.then hb7 (Nat.le_refl _) (Nat.le_of_lt HT9.out)).set 2 _);clear hown7 hb7 hs7 hf7 hl7 BY7 y7 z7 hbel7;go_roundw
      case rel=>exact⟨k+1,A7,c7,_,pA,pc,ps,HI.out,by go_num,by rw[List.length_append];exact HKA,HPA,HPO,HAN,hid (by rw[HST.out,HTG.out,if_pos rfl,←HTV.out]),hid (by rw[HSP.out,HTG.out,if_neg (by simp),←HPV.out,List.append_nil]),HXN⟩
      case measure=>have:=HI.out;simp[RowKit.intOf];omega
     ·have hk2:(kd==1)=false:=by simp[hkk]
      rw[hk2]at HTG;clear hkk;go_wp2_with((at_builtin;refine wpList_app1a rfl (.tmp 56) (.tmp 58) tyG encG_ok rfl (⟨some ⟨q,0,none⟩,gcd,gld⟩:Gp Sn) rfl _ rfl (by simp) HOP.out rfl (by first|rfl|assumption|simp) (by first|omega|(simp;omega)) (by first|omega|(simp;omega)) hbs ?_;intro A7 c7 w7 hown7 hb7 hs7 hf7 hl7;have hbel7:=((Below.refl w9.heap.size wr)).trans hb7);have BY7:Blk w7 tb #[.slice (some ⟨ga,0,none⟩) j c4,.slice lA ls.length lc,.slice tA ts.length tc,.slice pA ps.length pc] 134:=(hf7 tb HBK.out.lt (fun x hx=>Nat.ne_of_lt (Nat.lt_of_lt_of_le HT9.out (HOP.out.lt2 hx).1))).trans HBK.out;have y7:=BY7.cell 3 (v:=.slice pA ps.length pc) rfl;have z7:=BY7.frozen 3)
      have HKA:Hid (Blk (w7.setCell ⟨tb,3,none⟩ (.slice A7 (ps.length+1) c7)) tb #[.slice (some ⟨ga,0,none⟩) j c4,.slice lA ls.length lc,.slice tA ts.length tc,.slice A7 (ps.length+1) c7] 134):=hid (by have:=BY7.set 3 (.slice A7 (ps.length+1) c7);simpa using this);have HPA:Hid (Own 51 encG 1 (w7.setCell ⟨tb,3,none⟩ (.slice A7 (ps.length+1) c7)) w9.heap.size A7 c7 (ps++[(⟨some ⟨q,0,none⟩,gcd,gld⟩:Gp Sn)])):=hid (hown7.other (p:=⟨tb,3,none⟩) HT9.out _);have HPO:Hid (Own 51 encG 1 (w7.setCell ⟨tb,3,none⟩ (.slice A7 (ps.length+1) c7)) w9.heap.size tA tc ts):=hid ((HOT.out.keepB (fun y hy hyl=>hf7 y hyl (fun x hx e=>HAP.out y hy (by rw[hx,e])))).other (p:=⟨tb,3,none⟩) HT9.out _);have HAN:Hid (Ap tA A7):=hid ((HAP.out.symm.moved HOT.out hl7).symm);have HXN:Hid (BelX tb w9.heap.size w9 (w7.setCell ⟨tb,3,none⟩ (.slice A7 (ps.length+1) c7))):=hid ((HX.out.then hb7 (Nat.le_refl _) (Nat.le_of_lt HT9.out)).set 3 _);clear hown7 hb7 hs7 hf7 hl7 BY7 y7 z7 hbel7;go_roundw
      case rel=>exact⟨k+1,tA,tc,ts,A7,c7,_,HI.out,by go_num,by rw[List.length_append];exact HKA,HPO,HPA,HAN,hid (by rw[HST.out,HTG.out,if_neg (by simp),←HTV.out,List.append_nil]),hid (by rw[HSP.out,HTG.out,←HPV.out];rfl),HXN⟩
      case measure=>have:=HI.out;simp[RowKit.intOf];omega
    ·obtain rfl:k=m:=by omega
     obtain⟨w10,rfl⟩:∃x,x=wr:=⟨_,rfl⟩;have hfull:gs.take k=gs:=List.take_of_length_le (Nat.le_of_eq HM.out);have HGT:Hid (GrpR ts (tagsOf f)):=hid (by unfold GrpR;rw[HTV.out,hfull,vals_filter,HDT.out,show vals gs=_ from HG.out]);have HGP:Hid (GrpR ps (platesOf f)):=hid (by unfold GrpR;rw[HPV.out,hfull,vals_filter (fun l=> !tagG l),HDP.out,show vals gs=_ from HG.out]);have ht1:tb+1≤w9.heap.size:=HT9.out;have HPO:Hid (PartsO w10 (tb+1) lA lc ls tA tc ts pA pc ps gA gc gs):=hid ⟨(HL9.out.keepX HX.out (show tb<w5.heap.size from HBS5.out) (Nat.le_refl _)).mono HBS5.out,HOT.out.mono ht1,HOP.out.mono ht1,(HOG.out.keepX HX.out HT8.out (Nat.le_refl _)).mono HT8.out,
      fun g hg=>by rw[HTV.out,hfull]at hg;exact(List.mem_filter.1 hg).1,fun g hg=>by rw[HPV.out,hfull]at hg;exact(List.mem_filter.1 hg).1⟩
     have HA10:=hid (HA9.out.keepX HX.out (Nat.lt_succ_self tb) (Nat.le_refl _));have HBW:=hid (HB2.out.trans ((HBY9.out.trans HX.out.b).mono (show w.heap.size≤tb by have:=HW.out;omega)));have HZ:=hid (HBZ.out.below (HBY9.out.trans HX.out.b) (show w.heap.size<tb by have:=HW.out;omega));have ht:(tagsOf f).length=ts.length:=by rw[←show vals ts=_ from HGT.out,vals_len]
     have hp:(platesOf f).length=ps.length:=by rw[←show vals ps=_ from HGP.out,vals_len]
     have HDB1:=hid HDB0.out;rw[ht,hp,←HLE.out]at HDB1;have y0:=HBK.out.cell 0 (v:=.slice (some ⟨ga,0,none⟩) j c4) rfl;have y1:=HBK.out.cell 1 (v:=.slice lA ls.length lc) rfl;have y2:=HBK.out.cell 2 (v:=.slice tA ts.length tc) rfl;have y3:=HBK.out.cell 3 (v:=.slice pA ps.length pc) rfl;clear ht hp hfull hi hk HTV HPV HOT HOP HAP HX HOG HA9 HL9;by_cases q1:24<j
     ·have i1:(24:Int)<(j:Int):=by omega
      have HBB:Hid (blockedB f=true):=hid (by rw[HDB1.out,decide_eq_true q1];rfl);clear q1;go_wp2_with(refine wpList_boxStore rfl (ty:=134) (x:=.tmp 2) (y:=.tmp 84) (cells:=#[.slice none 0 0,.slice none 0 0,.slice none 0 0,.slice none 0 0]) rfl HZ.out rfl rfl (by kernel_rfl) rfl (by kernel_rfl) ?_;intro wz BZ hoz hbz)
      (try simp only[Exit.inBlock,Exit.then])
      refine bodyPost_ret (v:=.tuple #[.agg #[.slice none 0 0,.slice none 0 0,.slice none 0 0,.slice none 0 0],.bool false]) ?_ rfl ⟨.inl ⟨HBB.out,rfl⟩,hbz _ _ (Nat.le_refl _) HBW.out⟩;exact results_box_tmp Tryz.results96 _ (.bool false) rfl rfl BZ ⟨_,Tryz.underlying134,by kernel_rfl⟩
     ·have i1:¬(24:Int)<(j:Int):=by omega
      by_cases q2:8<ts.length
      ·have i2:(8:Int)<(ts.length:Int):=by omega
       have HBB:Hid (blockedB f=true):=hid (by rw[HDB1.out,decide_eq_true q2];simp);clear q1 q2;go_wp2_with(refine wpList_boxStore rfl (ty:=134) (x:=.tmp 2) (y:=.tmp 84) (cells:=#[.slice none 0 0,.slice none 0 0,.slice none 0 0,.slice none 0 0]) rfl HZ.out rfl rfl (by kernel_rfl) rfl (by kernel_rfl) ?_;intro wz BZ hoz hbz)
       (try simp only[Exit.inBlock,Exit.then])
       refine bodyPost_ret (v:=.tuple #[.agg #[.slice none 0 0,.slice none 0 0,.slice none 0 0,.slice none 0 0],.bool false]) ?_ rfl ⟨.inl ⟨HBB.out,rfl⟩,hbz _ _ (Nat.le_refl _) HBW.out⟩;exact results_box_tmp Tryz.results96 _ (.bool false) rfl rfl BZ ⟨_,Tryz.underlying134,by kernel_rfl⟩
      ·have i2:¬(8:Int)<(ts.length:Int):=by omega
       by_cases q3:8<ps.length
       ·have i3:(8:Int)<(ps.length:Int):=by omega
        have HBB:Hid (blockedB f=true):=hid (by rw[HDB1.out,decide_eq_true q3];simp);clear q1 q2 q3;go_wp2_with(refine wpList_boxStore rfl (ty:=134) (x:=.tmp 2) (y:=.tmp 84) (cells:=#[.slice none 0 0,.slice none 0 0,.slice none 0 0,.slice none 0 0]) rfl HZ.out rfl rfl (by kernel_rfl) rfl (by kernel_rfl) ?_;intro wz BZ hoz hbz)
        (try simp only[Exit.inBlock,Exit.then])
        refine bodyPost_ret (v:=.tuple #[.agg #[.slice none 0 0,.slice none 0 0,.slice none 0 0,.slice none 0 0],.bool false]) ?_ rfl ⟨.inl ⟨HBB.out,rfl⟩,hbz _ _ (Nat.le_refl _) HBW.out⟩;exact results_box_tmp Tryz.results96 _ (.bool false) rfl rfl BZ ⟨_,Tryz.underlying134,by kernel_rfl⟩
       ·have i3:¬(8:Int)<(ps.length:Int):=by omega
        by_cases q4:8<ls.length
        ·have i4:(8:Int)<(ls.length:Int):=by omega
         have HBB:Hid (blockedB f=true):=hid (by rw[HDB1.out,decide_eq_true q4];simp);clear q1 q2 q3 q4;go_wp2_with(refine wpList_boxStore rfl (ty:=134) (x:=.tmp 2) (y:=.tmp 84) (cells:=#[.slice none 0 0,.slice none 0 0,.slice none 0 0,.slice none 0 0]) rfl HZ.out rfl rfl (by kernel_rfl) rfl (by kernel_rfl) ?_;intro wz BZ hoz hbz)
         (try simp only[Exit.inBlock,Exit.then])
         refine bodyPost_ret (v:=.tuple #[.agg #[.slice none 0 0,.slice none 0 0,.slice none 0 0,.slice none 0 0],.bool false]) ?_ rfl ⟨.inl ⟨HBB.out,rfl⟩,hbz _ _ (Nat.le_refl _) HBW.out⟩;exact results_box_tmp Tryz.results96 _ (.bool false) rfl rfl BZ ⟨_,Tryz.underlying134,by kernel_rfl⟩
        ·have i4:¬(8:Int)<(ls.length:Int):=by omega
         have HDB2:Hid (blockedB f=sl.any fun s=> !eqS s.pt (sl.headD default).pt):=hid (by rw[HDB1.out,decide_eq_false q1,decide_eq_false q2,decide_eq_false q3,decide_eq_false q4];rfl);clear q1 q2 q3 q4;go_wp2_with fail
         obtain⟨p0,hp0⟩:∃x,sl[0]? =some x:=⟨_,List.getElem?_eq_getElem (by rw[HSL.out];exact HNE.out)⟩;have hd0:sl.headD default=p0:=by rw[List.headD_eq_head?_getD,List.head?_eq_getElem?,hp0];rfl
         rw[hd0]at HDB2;obtain⟨pp,hpp⟩:∃s,p0.pt=s:=⟨_,rfl⟩;rw[hpp]at HDB2;have HP0:=hid hp0;have HPP:=hid hpp;clear hp0 hd0 hpp y0 y1 y2 y3;go_loopw [88] (fun st wx=>∃t:Nat,t≤j∧st=.int .i64 t∧Hid (∀x∈sl.take t,eqS x.pt pp=true)∧Hid (Below w10.heap.size w10 wx)) (fun st _=>j-(RowKit.intOf st).toNat)
         case atStart=>exact⟨0,Nat.zero_le _,rfl,(fun x h=>by simp at h),Below.refl _ _⟩
         case round=>
          obtain⟨t,ht,rfl,HSAME,HBT⟩:=hrel;have t0:(0:Int)≤(t:Int):=by omega
          have HA:=hid (HA10.out.keep HBT.out (Nat.le_refl _));have HPK:=hid (HPO.out.keep (fun b _ hl=>HBT.out.block b hl));have HZK:=hid (HZ.out.below HBT.out HZ.out.lt);have HBKK:=hid (HBK.out.below HBT.out HBK.out.lt);have HBWK:=hid (HBW.out.trans (HBT.out.mono HBW.out.size));by_cases hi:t<j
          ·obtain⟨x,hx⟩:∃x,sl[t]? =some x:=⟨_,List.getElem?_eq_getElem (by rw[HSL.out];exact hi)⟩;have hc:=fun(i:Nat) (v:Value) (h:(encSn x)[i]? =some v)=>HA.out.cells encSn_ok rfl hx (j:=i) h;have hc0:=HA.out.cells encSn_ok rfl HP0.out (j:=8) (u:=.string pp) (by rw[←HPP.out];rfl);rw[Nat.zero_mul,Nat.zero_add]at hc0;have HI:=hid hi;have HX:=hid hx;have t1:(t:Int)<(j:Int):=by omega
           have t2:decide (t<j)=true:=decide_eq_true hi;have j1:(0:Int)<(j:Int):=by omega
           have j2:decide (0<j)=true:=decide_eq_true (by omega);have HANY:=hid (fun(h:eqS x.pt pp=false)=>show blockedB f=true by
            rw[HDB2.out,List.any_eq_true];exact⟨x,List.mem_of_getElem? HX.out,by rw[h];rfl⟩)
           have HSTEP:=hid (fun(h:eqS x.pt pp=true) (y:Sn) (hy:y∈sl.take (t+1))=>show eqS y.pt pp=true by
            rw[List.take_add_one,HX.out]at hy;rcases List.mem_append.1 hy with q|q
            ·exact HSAME.out y q
            ·have:y=x:=by simpa using q
             rw[this];exact h)
           obtain⟨⟨s1,s2,s3,s4,s5,s6,s7⟩,s8,s9,s10,s11⟩:=x;have e0:wr.cell? ⟨ga,t*11,none⟩=some (.string s1):=by simpa using hc 0 _ rfl
           have e1:wr.cell? ⟨ga,t*11+1,none⟩=some (.int .i64 s2):=hc 1 _ rfl;have e2:wr.cell? ⟨ga,t*11+2,none⟩=some (.int .i64 s3):=hc 2 _ rfl;have e3:wr.cell? ⟨ga,t*11+3,none⟩=some (.string s4):=hc 3 _ rfl;have e4:wr.cell? ⟨ga,t*11+4,none⟩=some (.string s5):=hc 4 _ rfl;have e5:wr.cell? ⟨ga,t*11+5,none⟩=some (.int .i64 s6):=hc 5 _ rfl;have e6:wr.cell? ⟨ga,t*11+6,none⟩=some (.int .i64 s7):=hc 6 _ rfl;have e7:wr.cell? ⟨ga,t*11+7,none⟩=some (.int .i64 s8):=hc 7 _ rfl;have e8:wr.cell? ⟨ga,t*11+8,none⟩=some (.string s9):=hc 8 _ rfl;have e9:wr.cell? ⟨ga,t*11+9,none⟩=some (.int .i64 s10):=hc 9 _ rfl;have e10:wr.cell? ⟨ga,t*11+10,none⟩=some (.int .i64 s11):=hc 10 _ rfl;simp only at HANY HSTEP;obtain⟨Y,hY⟩:∃Y,wr.alloc (.cells #[.string s1,.int .i64 s2,.int .i64 s3,.string s4,.string s5,.int .i64 s6,.int .i64 s7,.int .i64 s8,.string s9,.int .i64 s10,.int .i64 s11] 84)=Y:=⟨_,rfl⟩;have HBS:Hid (Blk Y wr.heap.size #[.string s1,.int .i64 s2,.int .i64 s3,.string s4,.string s5,.int .i64 s6,.int .i64 s7,.int .i64 s8,.string s9,.int .i64 s10,.int .i64 s11] 84):=hid (by rw[←hY];exact Blk.new wr _ _);have hbY:Below wr.heap.size wr Y:=by rw[←hY];exact(Below.refl _ wr).al _
           have HBY:Hid (Below w10.heap.size w10 Y):=hid (HBT.out.trans (hbY.mono HBT.out.size));have f8:=HBS.out.cell 8 (v:=.string s9) rfl;have y0:=(HBKK.out.below hbY HBKK.out.lt).cell 0 (v:=.slice (some ⟨ga,0,none⟩) j c4) rfl;have hga:ga<wr.heap.size:=(HA.out.lt2 rfl).2;have p8:=(hbY.cell (p:=⟨ga,8,none⟩) hga).trans hc0;have HZY:=hid (HZK.out.below hbY HZK.out.lt);have HBWY:=hid (HBWK.out.trans (hbY.mono HBWK.out.size));have te:(s9.toList==pp.toList)=eqS s9 pp:=rfl;have tn:(s9.toList !=pp.toList)= !eqS s9 pp:=rfl;clear hc hx hi ht hc0 hbY hga;cases hq:eqS s9 pp
           ·have HBB:=hid (HANY.out hq);rw[hq]at te tn;clear hq HANY HSTEP;go_wp2_with fail
            go_quiet(fail)
            generalize hY3:Y.drewN _=Y3;have HZ3:Hid (Blk Y3 w.heap.size #[.slice none 0 0,.slice none 0 0,.slice none 0 0,.slice none 0 0] 134):=hid (by rw[←hY3];exact HZY.out);have HB3:Hid (Below w.heap.size w Y3):=hid (by rw[←hY3];exact below_drewN HBWY.out _);clear hY3 hY e0 e1 e2 e3 e4 e5 e6 e7 e8 e9 e10 f8 y0 p8;go_wp2_with(refine wpList_boxStore rfl (ty:=134) (x:=.tmp 2) (y:=.tmp 100) (cells:=#[.slice none 0 0,.slice none 0 0,.slice none 0 0,.slice none 0 0]) rfl HZ3.out rfl rfl (by kernel_rfl) rfl (by kernel_rfl) ?_;intro wz BZ hoz hbz)
            (try simp only[Exit.inBlock,Exit.then])
            refine bodyPost_ret (v:=.tuple #[.agg #[.slice none 0 0,.slice none 0 0,.slice none 0 0,.slice none 0 0],.bool false]) ?_ rfl ⟨.inl ⟨HBB.out,rfl⟩,hbz _ _ (Nat.le_refl _) HB3.out⟩;exact results_box_tmp Tryz.results96 _ (.bool false) rfl rfl BZ ⟨_,Tryz.underlying134,by kernel_rfl⟩
           ·have HN:=hid (HSTEP.out hq);rw[hq]at te tn;clear hq HANY HSTEP;go_wp2_with fail
            go_quiet(fail)
            generalize hY3:Y.drewN _=Y3;have HB3:Hid (Below w10.heap.size w10 Y3):=hid (by rw[←hY3];exact below_drewN HBY.out _);clear hY3 hY e0 e1 e2 e3 e4 e5 e6 e7 e8 e9 e10 f8 y0 p8;go_wp2_with fail
            go_roundw
            case rel=>exact⟨t+1,HI.out,by go_num,HN,HB3⟩
            case measure=>have:=HI.out;simp[RowKit.intOf];omega
          ·obtain rfl:t=j:=by omega
           have HBB:Hid (blockedB f=false):=hid (by
            rw[HDB2.out,List.any_eq_false];intro x hx;rw[HSAME.out x (by rw[List.take_of_length_le (Nat.le_of_eq HSL.out)];exact hx)];simp)
           clear hi ht;go_wp2_with(first|(refine wpList_boxLoad rfl (ty:=134) (x:=.tmp 4) (cs:=#[.slice (some ⟨ga,0,none⟩) t c4,.slice lA ls.length lc,.slice tA ts.length tc,.slice pA ps.length pc]) rfl HBKK.out rfl ⟨_,Tryz.underlying134,by kernel_rfl⟩ ?_)|(refine wpList_boxStore rfl (ty:=134) (x:=.tmp 2) (y:=.tmp 102) (cells:=#[.slice (some ⟨ga,0,none⟩) t c4,.slice lA ls.length lc,.slice tA ts.length tc,.slice pA ps.length pc]) rfl HZK.out rfl rfl (by kernel_rfl) rfl (by kernel_rfl) ?_;intro wz BZ hoz hbz))
           (try simp only[Exit.inBlock,Exit.then])
           have HPZ:=HPK.out.keep (fun b hb _=>hoz b (show b≠w.heap.size by have:=HW.out;omega));refine bodyPost_ret (v:=.tuple #[.agg #[.slice (some ⟨ga,0,none⟩) t c4,.slice lA ls.length lc,.slice tA ts.length tc,.slice pA ps.length pc],.bool true]) ?_ rfl ⟨.inr ⟨HBB.out,some ⟨ga,0,none⟩,t,c4,lA,lc,tA,tc,ts,pA,pc,ps,by rw[←HLE.out],fun W' hk hs=>(HPZ.keep (fun b h1 h2=>hk b (by have:=HW.out;omega) h2)).rd HLE.out HGT.out HGP.out⟩,hbz _ _ (Nat.le_refl _) HBWK.out⟩;exact results_box_tmp Tryz.results96 _ (.bool true) rfl rfl BZ ⟨_,Tryz.underlying134,by kernel_rfl⟩
end Go.Proofs.YtimffppffbideaaGreatDoor
