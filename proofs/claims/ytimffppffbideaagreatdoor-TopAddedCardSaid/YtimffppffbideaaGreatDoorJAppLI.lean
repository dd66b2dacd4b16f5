import Derived.Maps.OwnIn
import Derived.Test.YtimffppffbideaaGreatDoorJSnRange
import Derived.Test.YtimffppffbideaaGreatDoorSfFrame
set_option linter.unusedSimpArgs false
set_option linter.unusedVariables false
set_option maxRecDepth 100000
set_option maxHeartbeats 8000000
namespace Go.Proofs.YtimffppffbideaaGreatDoor
section
open Go.RowKit Go.Lib
section
variable {α:Type}{enc:α→List Value}{k:Nat}{A:Option Addr}{c:Nat}{l:List α}{P:Program}{t e bytes:Nat}
theorem wpListIn_appL {F:Fence}{nF:Nat}{w0:World}{ops:Array Oper}{rest:List Oper}{o:Oper}{a:Act}{Q:Exit→Act→World→Prop}(hgd:o.guard=none)(s y:Operand)
  (T:TyS P t e k bytes) (hE:Enc enc k)
  (ho:o.op=.call {callee:=.builtin .append,args:=#[s,y],argTypes:=#[t,t]})
  {cs:Array Value} (x:α) (hcs:cs.toList=enc x)
  (base:Nat) {n:Nat} (hs:a.eval s=.slice A n c) (hn:n=l.length) (hown:Own e enc k w0 base A c l)
  {g0:Nat} (hx:a.eval y=.slice (some ⟨g0,0,none⟩) 1 1) (hg0:w0.heap.size=g0)
  (hbytes:(l.length+1)*bytes≤140737488355328) (hmax:l.length≤8000000000000000000) (hbase:base≤w0.heap.size)
  (
   h:∀A' c' w',Own e enc k w' base A' c' (l++[x])→Below base w0 w'→w0.heap.size≤w'.heap.size→(∀b,b<w0.heap.size→(∀g,A=some ⟨g,0,none⟩→b≠g)→w'.heap[b]? =w0.heap[b]?)→
   (∀g,A'=some ⟨g,0,none⟩→A=some ⟨g,0,none⟩∨w0.heap.size≤g)→wpListIn F nF P ops Q rest (a.put o.dst (.slice A' (n+1) c')) w'):wpListIn F nF P ops Q (o::rest) a (w0.alloc (.cells cs e)):=by
 subst hn;subst hg0;obtain⟨i,z,hi,hz,hsz,hby,hzs⟩:=T.info;refine wpListIn_append_own_at (w:=w0.alloc (.cells cs e)) hgd s y t ho base e i z k bytes T.under hi hz hsz hby hzs T.pos (.slice A l.length c) l.length (l.flatMap enc) hs (hown.alloc _) ⟨w0.heap.size,0,none⟩ 1 1 ([x].flatMap enc) hx (by rw[flat_length hE];rfl) ?_ ?_ (by unfold maxLen;omega) hbytes (by simp;omega) ?_
 ·intro j u hu;have hadd:(⟨w0.heap.size,0,none⟩:Addr).add j=⟨w0.heap.size,j,none⟩:=by unfold Addr.add;split<;>simp_all
  rw[hadd,cell_of_row _ _ _ cs e (0,0) (heap_alloc_new w0 _)];simp only[List.flatMap_cons,List.flatMap_nil,List.append_nil]at hu;rw[←hcs]at hu;simpa using hu
 ·intro u hu;rw[List.mem_flatMap]at hu;obtain⟨y,_,hy⟩:=hu;exact hE.2 y u hy
 ·intro v' w' hown' hg _ hloc;obtain⟨A',c'',hv⟩:∃A' c'',v'=.slice A' (l.length+1) c'':=by
   rcases hown'.2 with⟨hv,h0⟩|⟨g,cap,cur,hv,_⟩
   ·exact⟨none,0,by rw[hv,h0]⟩
   ·exact⟨_,_,by rw[hv]⟩
  subst hv;have hgs:=hg.size;have hblk:∀b,b<w0.heap.size→(∀g,A=some ⟨g,0,none⟩→b≠g)→w'.heap[b]? =w0.heap[b]? :=fun b hb hne=>by
   refine(hg.block b (by simp;omega) fun hh=> ?_).trans ((World.grownBy_alloc w0 _ none).block b hb (by simp));cases A with
   |none=>simp[Value.ownBlock]at hh
   |some q=>
    rcases hown.form with⟨hA,_⟩|⟨g,hA,_⟩
    ·cases hA
    ·injection hA with hA;subst hA;simp[Value.ownBlock]at hh;exact hne g rfl hh
  refine h A' c'' w' ?_ ?_ (by simp at hgs;omega) hblk ?_
  ·unfold Own;rw[←List.flatMap_append]at hown';rw[show(l++[x]).length=l.length+1 by simp];exact hown'
  ·refine((Below.refl base w0).alloc hbase _).trans ((Below.refl base _).grown hg (by simp;omega) fun g hgo=> ?_);exact(World.ownsRow.lt (World.ownsRow.alloc hown (.cells cs e)) g (by rw[hgo])).1
  ·intro g hA;subst hA;simp only[Value.ownBlock]at hloc;cases A with
   |none=>right;simp at hloc;omega
   |some q=>
    rcases hown.form with⟨hA,_⟩|⟨g',hA,_⟩
    ·cases hA
    ·injection hA with hA;subst hA;simp at hloc;rcases hloc with q|q
     ·left;rw[q]
     ·right;omega
end
end
section
open Go.RowKit Go.Lib Go.Sort Go.Shelf
open Mat
attribute [local go_sem] Oper.semAt_some
theorem framesf_any (A:Option Addr)(m c:Nat)(gap:Int)(w:World):Calls Tryz.prog 48 #[.slice A m c,.int .i64 gap] w fun e w'=>e=.returned (.func (.func 92) #[] #[.pointer (some ⟨w.heap.size,0,none⟩),.pointer (some ⟨w.heap.size+1,0,none⟩)])∧(w.alloc (.cells #[.slice A m c] 51)).alloc (.cells #[.int .i64 gap] 3)=w':=by
 go_enter Tryz.func48,Tryz.ntmps48;go_wp2;go_ret;exact⟨rfl,rfl⟩
def FrI (cb B:Nat)(pre:List (Gp Sn))(W:World):Prop:=∃A c,Boxed W cb 91 (.slice A pre.length c)∧Own 51 encG 1 W B A c pre∧∀x∈pre,SeenX x W
theorem frI_from {cb B:Nat}:OwnFrom B (FrI cb B):=by
 rintro pre W W' row ⟨A,c,h1,h2,h3⟩ hg hr;exact⟨A,c,boxed_own cb 91 (fun(_:Unit)=>Value.slice A pre.length c) () W W' row h1 hg (fun r e=>(hr r e).2),own_kept h2 hg (fun r e=>(hr r e).2),fun x hx=>seenX_from B x W W' row (h3 x hx) hg hr⟩
theorem blkOf_boxed {W:World}{cb:Nat}{t:TypeId}{A:Option Addr}{n c:Nat}(h:Boxed W cb t (.slice A n c)):blkOf W cb=A.map (·.block):=by
 unfold blkOf;rw[h.cell];cases A<;>rfl
theorem frames_any {A:Option Addr}(c:Nat){l:List Sn}{gap:Int}{w:World}(hr:Rd encSn 11 w w.heap.size A l)(hok:∀x∈l,SnOk x)(hl:l.length≤100)(hgap:gap≤1000000000000):
  Calls Tryz.prog 26 #[.slice A l.length c,.int .i64 gap] w fun e w'=>∃A' c' gs,e=.returned (.slice A' gs.length c')∧GrpR gs (framesV gap l)∧(∀g∈gs,SeenX g w')∧Rd encG 1 w' w'.heap.size A' gs∧Below w.heap.size w w':=by
 refine(callsIn_wide (n:=6)).1 ?_;refine callsIn_of_wp_marks Tryz.func26 rfl trivial ?_ rfl;simp only[Tryz.ntmps26,List.size_toArray,List.length_cons,List.length_nil,Nat.reduceAdd,Nat.reduceSub,Array.replicate_succ,Array.replicate_zero,List.push_toArray,List.append_toArray,List.nil_append,List.cons_append];gi_wp2_with (refine⟨trivial,?_⟩;gi_at_call 48;refine(callsIn_wide.2 (framesf_any _ _ _ _ _)).mono ?_;rintro e w' ⟨rfl,rfl⟩)
 have bR:=((Boxed.new w 91 (.slice none 0 0)).alloc (.cells #[.slice A l.length c] 51)).alloc (.cells #[.int .i64 gap] 3);have bL:=(Boxed.new (w.alloc (.cells #[.slice none 0 0] 91)) 51 (.slice A l.length c)).alloc (.cells #[.int .i64 gap] 3);have bG:=Boxed.new ((w.alloc (.cells #[.slice none 0 0] 91)).alloc (.cells #[.slice A l.length c] 51)) 3 (.int .i64 gap);have hB0:Below w.heap.size w (((w.alloc (.cells #[.slice none 0 0] 91)).alloc (.cells #[.slice A l.length c] 51)).alloc (.cells #[.int .i64 gap] 3)):=(((Below.refl _ w).al _).al _).al _;have hsz:(((w.alloc (.cells #[.slice none 0 0] 91)).alloc (.cells #[.slice A l.length c] 51)).alloc (.cells #[.int .i64 gap] 3)).heap.size=w.heap.size+3:=by simp
 simp only[World.size_alloc]at bL bG;obtain⟨W0,hW0⟩:∃W0,((w.alloc (.cells #[.slice none 0 0] 91)).alloc (.cells #[.slice A l.length c] 51)).alloc (.cells #[.int .i64 gap] 3)=W0:=⟨_,rfl⟩;rw[hW0]at bR bL bG hB0 hsz ⊢;clear hW0;have hseq:=frames1_seen (A:=A) c (l:=l) (gap:=gap) (lb:=w.heap.size+1) (gb:=w.heap.size+1+1) (cb:=w.heap.size) (w:=W0) (by omega) (by omega) (by omega) bL.cell bG.cell bR.cell (hr.st hB0) hok hl hgap;refine range_seen (n:=6) (by omega) (gf:=92) (lb:=#[.pointer (some ⟨w.heap.size+1,0,none⟩),.pointer (some ⟨w.heap.size+1+1,0,none⟩)]) rfl (enters_of Tryz.func92 (by kernel_rfl) rfl) (fun _=>rfl)
  hseq (fun h k=>h.trans k) (fun W l o o' h1 h2 h3=>KpF.putObj (by omega) h2 h3)
  (fun pre W=>FrI w.heap.size W0.heap.size pre W∧Below w.heap.size W0 W)
  (OwnFrom.and frI_from (ownFrom_below (by omega) (by omega))) (seenX_from _) ⟨⟨none,0,bR,Own.nil _ _,fun x hx=>absurd hx (by simp)⟩,Below.refl _ _⟩
  (fun x=>{tmps:=#[.slice A l.length c,.int .i64 gap,undef,undef,.slice none 0 0,.pointer (some ⟨w.heap.size,0,none⟩),.slice x.A x.l.length x.c,.slice A l.length c,.int .i64 gap,.func (.func 92) #[] #[.pointer (some ⟨w.heap.size+1,0,none⟩),.pointer (some ⟨w.heap.size+1+1,0,none⟩)],.slice x.A x.l.length x.c,undef,undef,undef,undef,undef],defers:=[]})
  ?assign ?body ?done
 case assign=>
  rintro l x W K hK;simp only[encX];gi_wp2
  exact hK
 case body=>
  rintro l pre x W hl2 ⟨⟨A1,c1,hbx,how,hse⟩,hbw⟩ hx hN;have hsW:=hbw.size;have y0:=hbx.cell;have z0:=hbx.frozen;have hB0W:W0.heap.size≤W.heap.size:=hbw.size;have HX:=hid hx;have HSE:=hid hse;have HBX:=hid hbx;clear hx hse hbx;gi_wp2_with (first|(refine wpListIn_appL rfl (.tmp 11) (.tmp 13) tyG encG_ok rfl x rfl _ rfl (by simp) how rfl (by first|rfl|simp) (by omega) (by omega) hB0W ?_;intro A4 c4 w4 hown4 hb4 hs4 hf4 hl4;have y1:w4.cell? ⟨w.heap.size,0,none⟩=some (.slice A1 pre.length c1):=(hb4.cell (p:=⟨w.heap.size,0,none⟩) (by show w.heap.size<W0.heap.size;omega)).trans HBX.out.cell;have z1:w4.frozen? ⟨w.heap.size,0,none⟩=false:=(HBX.out.below hb4 (by omega)).frozen))
  have HO4:=hid hown4;have HB4:=hid hb4;have HF4:=hid hf4;have HL4:=hid hl4;obtain⟨V,hV⟩:∃V,w4.setCell ⟨w.heap.size,0,none⟩ (.slice A4 (pre.length+1) c4)=V:=⟨_,rfl⟩;rw[hV];have hbV:Boxed V w.heap.size 91 (.slice A4 (pre.length+1) c4):=by rw[←hV];exact(HBX.out.below hb4 (by omega)).set _
  have hV4:∀b,b≠w.heap.size→V.heap[b]? =w4.heap[b]? :=fun b hb=>by rw[←hV];exact setCell_other w4 ⟨w.heap.size,0,none⟩ _ hb
  have hVs:V.heap.size=w4.heap.size:=by rw[←hV];simp
  have hloc:∀g,A1=some ⟨g,0,none⟩→W0.heap.size≤g:=fun g hg=>(how.lt2 hg).1;have hbk:blkOf W w.heap.size=A1.map (·.block):=blkOf_boxed HBX.out;have hform:=how.form;have hstay:∀b,b<W.heap.size→b≠w.heap.size→(∀g,A1=some ⟨g,0,none⟩→b≠g)→V.heap[b]? =W.heap[b]? :=fun b hb hne hA=>(hV4 b hne).trans (hf4 b hb hA);refine⟨⟨by omega,fun k o hBk hk ho=> ?_⟩,⟨by omega,fun g hg=> ?_,fun b o hb hc hne hnb=> ?_⟩,⟨A4,c4,by simpa using hbV,?_,fun y hy=> ?_⟩,?_⟩
  ·refine(hstay k (Array.getElem?_eq_some_iff.1 hk).1 (by omega) fun g hg e=> ?_).trans hk;subst e;rcases how.2 with⟨q,_⟩|⟨g2,cap,cur,hv,_,hh,_⟩
   ·injection q with q;rw[hg]at q;cases q
   ·injection hv with q;rw[hg]at q;injection q with q;injection q with q;subst q;rw[hk]at hh;injection hh with hh;subst hh;cases ho
  ·rw[blkOf_boxed hbV]at hg;rw[hbk];cases A4 with
   |none=>cases hg
   |some q=>
    rcases HO4.out.form with⟨h1,_⟩|⟨g2,h1,_⟩
    ·cases h1
    ·injection h1 with h1;subst h1;simp only[Option.map_some,Option.some.injEq]at hg;subst hg;rcases hl4 _ rfl with q|q
     ·left;rw[q];rfl
     ·exact Or.inr q
  ·refine(hstay b (Array.getElem?_eq_some_iff.1 hb).1 hne fun g hg e=>hnb ?_).trans hb;rw[hbk,hg,←e];rfl
  ·rw[←hsz];exact HO4.out.keepB fun g hg hgl=>hV4 g (by have:=(HO4.out.lt2 hg).1;omega)
  ·have hyW:SeenX y W:=by
    rcases List.mem_append.1 hy with q|q
    ·exact HSE.out y q
    ·rw[List.mem_singleton.1 q];exact HX.out
   obtain⟨b2,off2,cs2,fr2,hA2,hh2⟩:=hyW.2.2;have hb2:=(Array.getElem?_eq_some_iff.1 hh2).1;have hs2:V.heap[b2]? =W.heap[b2]? :=by
    refine hstay b2 hb2 (fun e=> ?_) fun g hg e=> ?_
    ·subst e;have h9:=HBX.out;unfold Boxed at h9;rw[hh2]at h9;injection h9 with h9;injection h9 with _ h9 _;exact absurd h9 (by decide)
    ·subst e;rcases how.2 with⟨q,_⟩|⟨g2,cap,cur,hv,_,hh,_⟩
     ·injection q with q;rw[hg]at q;cases q
     ·injection hv with q;rw[hg]at q;injection q with q;injection q with q;subst q;rw[hh2]at hh;injection hh with hh;injection hh with _ hh _;exact absurd hh (by decide)
   refine⟨hyW.1,Rd.more (Rd.blk encSn_ok (by omega) hyW.2.1 fun b o hbl ⟨off,ha⟩ ho hoc=> ?_) (by omega),b2,off2,cs2,fr2,hA2,hs2.trans hh2⟩;rw[hA2]at ha;injection ha with ha;injection ha with ha;subst ha;exact hs2.trans ho
  ·rw[←hV];exact(hbw.trans (hb4.mono (by omega))).setCell (p:=⟨w.heap.size,0,none⟩) (Nat.le_refl _) _
 case done=>
  rintro D xs W hD hS ⟨⟨A1,c1,hbx,how,hse⟩,hbw⟩ hK;have R:=hid hS;have c0:=hbx.cell;have HBX:=hid hbx;have HOW:=hid how;have HSE:=hid hse;have HBW:=hid (hB0.trans (hbw.mono (by omega)));clear hbx how hse;gi_wp2
  refine⟨by simp,.inl ⟨_,_,rfl,run_takeDeferred hK,?_⟩⟩;have hg:=grownBy_putObj' W D (.deferred none);have hr2:∀r,some D=some r→W0.heap.size≤r∧∃o:Obj,W.heap[r]? =some o∧o.isCells=false:=fun r e=>by cases e;exact⟨by omega,_,hK,rfl⟩
  have hO2:Own 51 encG 1 (W.putObj D (.deferred none)) W0.heap.size A1 c1 xs:=own_kept HOW.out hg (fun r e=>(hr2 r e).2);refine⟨.slice A1 xs.length c1,?_,A1,c1,xs,rfl,R.out,fun x hx=>seenX_from W0.heap.size x W _ _ (HSE.out x hx) hg hr2,hO2.rd encG_ok,HBW.out.grown hg (by have:=HBW.out.size;omega) (fun k e=>by cases e;omega)⟩;simp[results,Tryz.results26,go_sem]
end
section
open Go.RowKit Go.Lib Go.Sort
open Mat
theorem flat_snoc {α β:Type}(F:α→List β){l:List α}{k:Nat}{x:α}(h:l[k]? =some x):(l.take (k+1)).flatMap F=(l.take k).flatMap F++F x:=by
 rw[List.take_add_one,h,Option.toList_some,List.flatMap_append];simp
theorem frames_ok {gap:Int}{S g:List Sn}(hg:g∈framesV gap S)(hok:∀x∈S,SnOk x)(hnd:(S.map keyS).Nodup):(∀x∈g,SnOk x)∧(g.map keyS).Nodup∧g.length≤S.length:=by
 have hp:=frames_flat gap S;have hs:=mem_flat hg;exact⟨fun x hx=>hok x (hp.mem_iff.1 (hs.subset hx)),(hs.map keyS).nodup ((hp.map keyS).nodup_iff.2 hnd),Nat.le_trans hs.length_le (Nat.le_of_eq hp.length_eq)⟩
def AllR (cf:Cf)(S:List Sn)(e:Ending)(w':World):Prop:=∃(pA:Option Addr) (pc:Nat) (ps:List Pg) (rA:Option Addr) (rc:Nat) (rs:List Rj),
 e=.returned (.tuple #[.slice pA ps.length pc,.slice rA rs.length rc])∧Rd encPg 8 w' w'.heap.size pA ps∧ps.map Pg.v=allPs cf S∧(∀x∈ps,Rd encSr 2 w' w'.heap.size x.A x.v.src)∧Rd encRj 8 w' w'.heap.size rA rs∧rs=allRs cf S∧ps.length≤100000∧rs.length≤100000
theorem all_any (v0 v1 v2 v3 v8 v9 v10 v11 v12 v13 v14 v15 v16 v17 v18 v19 v20 v21 v22 v23 v24:Value){kA gA A:Option Addr}(kc gc c:Nat){ks:List Cl}{gs:List Tg}(gap weak:Int){S:List Sn}{w:World}(hr:Rd encSn 11 w w.heap.size A S)(hK:Rd encCl 3 w w.heap.size kA ks)(hG:Rd encTg 3 w w.heap.size gA gs)(hkl:ks.length≤100000)(hgl:gs.length≤100000)(hgap:gap≤1000000000000)(hok:∀x∈S,SnOk x)(hnd:(S.map keyS).Nodup)(hl:S.length≤50)(h10:P10 w):
  Calls Tryz.prog 9 #[.agg #[v0,v1,v2,v3,.slice kA ks.length kc,.slice gA gs.length gc,.int .i64 gap,.int .i64 weak,v8,v9,v10,v11,v12,v13,v14,v15,v16,v17,v18,v19,v20,v21,v22,v23,v24],.slice A S.length c] w fun e w'=>AllR (⟨gs,ks,gap,weak⟩:Cf) S e w'∧Below w.heap.size w w':=by
 obtain⟨Y1,hY1⟩:∃Y,w.alloc (.cells #[v0,v1,v2,v3,.slice kA ks.length kc,.slice gA gs.length gc,.int .i64 gap,.int .i64 weak,v8,v9,v10,v11,v12,v13,v14,v15,v16,v17,v18,v19,v20,v21,v22,v23,v24] 46)=Y:=⟨_,rfl⟩;have b1:Below w.heap.size w Y1:=by rw[←hY1];exact(Below.refl _ w).al _
 have B1:Blk Y1 w.heap.size #[v0,v1,v2,v3,.slice kA ks.length kc,.slice gA gs.length gc,.int .i64 gap,.int .i64 weak,v8,v9,v10,v11,v12,v13,v14,v15,v16,v17,v18,v19,v20,v21,v22,v23,v24] 46:=by rw[←hY1];exact Blk.new w _ _
 have c6:=B1.cell 6 (v:=.int .i64 gap) rfl;have CF:=frames_any c (hr.st b1) hok (by omega) hgap;obtain⟨n,hn⟩:∃n,S.length=n:=⟨_,rfl⟩;rw[hn]at CF hl ⊢;have CF:=hid CF;have HN:=hid hn;have HK:=hid hK;have HG:=hid hG;have HOK:=hid hok;have HND:=hid hnd;have HB1:=hid b1;have HC1:=hid B1;have H10:=hid h10;clear hr hK hG hok hnd b1 B1 h10 hn;go_enter Tryz.func9,Tryz.ntmps9;go_wp2_with fail
 with_reducible refine CF.out.mono ?_
 rintro e w2 ⟨fA,fc,fs,rfl,hgr,hsx,hrg,hb2⟩;have HGR:=hid hgr;have HSX:=hid (fun g hg=>(hsx g hg).2.1);have HNE:=hid (fun g hg=>(hsx g hg).1);have HRG:=hid hrg;have HB2:=hid (HB1.out.st hb2);have HC2:=hid (HC1.out.below hb2 HC1.out.lt);have HFP:=hid (show allPs (⟨gs,ks,gap,weak⟩:Cf) S=ordS (ltOf cmpPv) ((vals fs).flatMap (frPs (⟨gs,ks,gap,weak⟩:Cf))) by rw[show vals fs=_ from hgr];rfl);have HFR:=hid (show allRs (⟨gs,ks,gap,weak⟩:Cf) S=ordS (ltOf cmpRj) ((vals fs).flatMap (frRs (⟨gs,ks,gap,weak⟩:Cf))) by rw[show vals fs=_ from hgr];rfl);have HML:=hid (show fs.length≤n by rw[←vals_len,show vals fs=_ from hgr];unfold framesV;refine Nat.le_trans (groups_len _) ?_;rw[srtS_len,HN.out];exact Nat.le_refl _);obtain⟨m,hm⟩:∃k,fs.length=k:=⟨_,rfl⟩;have HM:=hid hm;rw[hm]at HML ⊢;have hm9:m≤50:=Nat.le_trans HML.out hl;clear hgr hsx hrg hb2 CF hm c6 hY1;go_wp2_with fail
 go_loopw [6,7,16] (fun s6 s7 sk wx=>∃(k:Nat) (pA:Option Addr) (pc:Nat) (ps:List Pg) (rA:Option Addr) (rc:Nat) (rs:List Rj),k≤m∧sk=.int .i64 k∧s6=.slice pA ps.length pc∧s7=.slice rA rs.length rc∧Hid (Own 76 encPg 8 wx w2.heap.size pA pc ps)∧Hid (∀x∈ps,Own 82 encSr 2 wx w2.heap.size x.A x.c x.v.src)∧Hid (Own 88 encRj 8 wx w2.heap.size rA rc rs)∧Hid (ps.map Pg.v=((vals fs).take k).flatMap (frPs (⟨gs,ks,gap,weak⟩:Cf)))∧Hid (rs=((vals fs).take k).flatMap (frRs (⟨gs,ks,gap,weak⟩:Cf)))∧Hid (ps.length≤1000*k)∧Hid (rs.length≤1000*k)∧Hid (Below w2.heap.size w2 wx)) (fun _ _ sk _=>m-(RowKit.intOf sk).toNat)
 case atStart=>exact⟨0,none,0,[],none,0,[],Nat.zero_le _,rfl,rfl,rfl,Own.nil _ _,(fun x h=>by simp at h),Own.nil _ _,rfl,rfl,Nat.zero_le _,Nat.zero_le _,Below.refl _ _⟩
 case round=>
  obtain⟨k,pA,pc,ps,rA,rc,rs,hk,rfl,rfl,rfl,HP,HS,HRJ,HPV,HRV,HPL,HRL,HB⟩:=hrel;have k0:(0:Int)≤(k:Int):=by omega
  by_cases hkm:k<m
  ·have HI:=hid hkm;obtain⟨fb,fo,g,hA,hfb,hg,hc⟩:=(HRG.out.st HB.out).at_ (i:=k) (by rw[HM.out];exact hkm);subst hA;have hgm:=List.mem_of_getElem? hg;have hgv:=vals_at hg;have hfo:=frames_ok (gap:=gap) (S:=S) (g:=g.l) (by rw[←show vals fs=_ from HGR.out];exact List.mem_of_getElem? hgv) HOK.out HND.out;have c0:wr.cell? ⟨fb,fo+k,none⟩=some (.slice g.A g.l.length g.c):=by simpa using hc 0 _ rfl
   have hbw:=HB2.out.st HB.out;have CR:=hid (frame_any v0 v1 v2 v3 v8 v9 v10 v11 v12 v13 v14 v15 v16 v17 v18 v19 v20 v21 v22 v23 v24 (kA:=kA) kc gc g.c gap weak ((HSX.out g hgm).st HB.out) (HK.out.st hbw) (HG.out.st hbw) hkl hgl hfo.1 (HNE.out g hgm) hfo.2.1 (by have:=HN.out;omega) (p10_st H10.out hbw));have HPS:=hid (flat_snoc (frPs (⟨gs,ks,gap,weak⟩:Cf)) hgv);have HRS:=hid (flat_snoc (frRs (⟨gs,ks,gap,weak⟩:Cf)) hgv);have HCR:=hid (HC2.out.below HB.out HC2.out.lt);have k1:(k:Int)<(m:Int):=by omega
   have k2:decide (k<m)=true:=decide_eq_true hkm;clear hfb hg hc hgm hgv hfo hbw hk hkm;go_wp2_with(refine wpList_boxLoad rfl (ty:=46) (x:=.tmp 2) (cs:=#[v0,v1,v2,v3,.slice kA ks.length kc,.slice gA gs.length gc,.int .i64 gap,.int .i64 weak,v8,v9,v10,v11,v12,v13,v14,v15,v16,v17,v18,v19,v20,v21,v22,v23,v24]) rfl HCR.out rfl ⟨_,Tryz.underlying46,by kernel_rfl⟩ ?_)
   with_reducible refine CR.out.mono ?_
   rintro e w3 ⟨⟨fpA,fpc,fps,frA,frc,frs,m2,m3,rfl,hfp,hfv,hfs,hfr,hfrv,hfl1,hfl2⟩,hb3⟩;obtain⟨q,hq⟩:∃x,w3.heap.size=x:=⟨_,rfl⟩;obtain⟨Y4,hY4⟩:∃Y,w3.alloc (.cells #[.slice fpA fps.length fpc,.slice frA frs.length frc,.int .i64 m2,.int .i64 m3] 94)=Y:=⟨_,rfl⟩;have b4:Below w3.heap.size w3 Y4:=by rw[←hY4];exact(Below.refl _ _).al _
   have hb34:=hb3.st b4;have HF4:Hid (Blk Y4 q #[.slice fpA fps.length fpc,.slice frA frs.length frc,.int .i64 m2,.int .i64 m3] 94):=hid (by rw[←hq,←hY4];exact Blk.new w3 _ _);have HP4:=hid (HP.out.keep hb34 (Nat.le_refl _));have HS4:=hid (fun x hx=>(HS.out x hx).keep hb34 (Nat.le_refl _));have HRJ4:=hid (HRJ.out.keep hb34 (Nat.le_refl _));have HFP4:=hid (hfp.st b4);have HFS4:=hid (fun x hx=>((hfs x hx).keep b4 (Nat.le_refl _)).mono HB.out.size);have HFR4:=hid ((hfr.keep b4 (Nat.le_refl _)).mono HB.out.size);have HB4:=hid (HB.out.trans (hb34.mono HB.out.size));have HPQ:=hid (fun y (hy:pA=some ⟨y,0,none⟩)=>show y<q by rw[←hq];exact Nat.lt_of_lt_of_le (HP.out.lt2 hy).2 hb3.size);have HFV:=hid hfv;have HFRV:=hid hfrv;have hbs4:w2.heap.size≤Y4.heap.size:=HB4.out.size;have f0:=HF4.out.cell 0 (v:=.slice fpA fps.length fpc) rfl;have hpl9:=HPL.out;have hrl9:=HRL.out;clear hfp hfv hfs hfr hfrv hb3 b4 hb34 CR;go_wp2_with(first|(at_builtin;refine wpList_appSL rfl (.tmp 23) (.tmp 25) tyPg encPg_ok rfl w2.heap.size rfl rfl HP4.out fps rfl rfl HFP4.out (by omega) (by omega) hbs4 ?_;intro A5 c5 w5 own5 hb5 hs5 hf5 hl5;have HP5:=hid own5;have HS5:=hid (fun x hx=>(HS4.out x hx).keepB (w':=w5) (fun y hy hyl=>hf5 y hyl (fun z hz=>(HS4.out x hx).apart HP4.out (fun e=>pn4 e.symm) hy hz)));have HFS5:=hid (fun x hx=>(HFS4.out x hx).keepB (w':=w5) (fun y hy hyl=>hf5 y hyl (fun z hz=>(HFS4.out x hx).apart HP4.out (fun e=>pn4 e.symm) hy hz)));have HRJ5:=hid (HRJ4.out.keepB (w':=w5) (fun y hy hyl=>hf5 y hyl (fun z hz=>HRJ4.out.apart HP4.out (fun e=>pn5 e.symm) hy hz)));have hB5:=HF4.out.same (hf5 q HF4.out.lt (fun y hy=>Nat.ne_of_gt (HPQ.out y hy)));have f1:=hB5.cell 1 (v:=.slice frA frs.length frc) rfl;have HFR5:=hid ((HFR4.out.keepB (w':=w5) (fun y hy hyl=>hf5 y hyl (fun z hz=>HFR4.out.apart HP4.out (fun e=>pn5 e.symm) hy hz))).rd encRj_ok);have HB5:=hid (HB4.out.trans hb5);have hbs5:w2.heap.size≤w5.heap.size:=HB5.out.size)|(at_builtin;refine wpList_appSL rfl (.tmp 27) (.tmp 29) tyRjS encRj_ok rfl w2.heap.size rfl rfl HRJ5.out frs rfl rfl HFR5.out (by omega) (by omega) hbs5 ?_;intro A6 c6 w6 own6 hb6 hs6 hf6 hl6))
   have HRJ6:=hid own6;have HP6:=hid (HP5.out.keepB (w':=w6) (fun y hy hyl=>hf6 y hyl (fun z hz=>HP5.out.apart HRJ5.out pn5 hy hz)));have HS6:=hid (show∀x∈ps++fps,Own 82 encSr 2 w6 w2.heap.size x.A x.c x.v.src from fun x hx=>by
    rcases List.mem_append.1 hx with h|h
    ·exact(HS5.out x h).keepB (w':=w6) (fun y hy hyl=>hf6 y hyl (fun z hz=>(HS5.out x h).apart HRJ5.out pn6 hy hz))
    ·exact(HFS5.out x h).keepB (w':=w6) (fun y hy hyl=>hf6 y hyl (fun z hz=>(HFS5.out x h).apart HRJ5.out pn6 hy hz)))
   have HB6:=hid (HB5.out.trans hb6);clear own5 hb5 hs5 hf5 hl5 own6 hb6 hs6 hf6 hl6 hB5 f0 f1 HP5 HS5 HFS5 HRJ5 HFR5 HB5;go_roundw
   case rel=>exact⟨k+1,A5,c5,ps++fps,A6,c6,rs++frs,HI.out,by go_num,by rw[List.length_append],by rw[List.length_append],HP6,HS6,HRJ6,hid (by rw[HPS.out,List.map_append,HPV.out,HFV.out]),hid (by rw[HRS.out,←HRV.out,←HFRV.out]),hid (by rw[List.length_append];omega),hid (by rw[List.length_append];omega),HB6⟩
   case measure=>have:=HI.out;simp[RowKit.intOf];omega
  ·obtain rfl:m=k:=by omega
   obtain⟨w8,rfl⟩:∃x,x=wr:=⟨_,rfl⟩;have hfull:(vals fs).take m=vals fs:=List.take_of_length_le (by rw[vals_len,HM.out];exact Nat.le_refl _);have HPE:=hid (show(ordS (ltOf cmpPg) ps).map Pg.v=allPs (⟨gs,ks,gap,weak⟩:Cf) S by rw[ordPg_map,HPV.out,HFP.out,hfull]);have HRE:=hid (show ordS (ltOf cmpRj) rs=allRs (⟨gs,ks,gap,weak⟩:Cf) S by rw[HRV.out,HFR.out,hfull]);have hpl9:=HPL.out;have hrl9:=HRL.out;have CO:=hid (ordered_any HP.out HB.out.size (by omega));have HB8:=hid (HB2.out.st HB.out);clear hfull hk hkm;go_wp2_with fail
   with_reducible refine CO.out.mono ?_
   rintro e w9 ⟨rfl,ho,hb9,hot⟩;have HP9:=hid ho;have HS9:=hid (fun x (hx:x∈ps)=>(HS.out x hx).keepB (w':=w9) (fun g hg hl=>hot g hl (fun z hz=>(HS.out x hx).apart HP.out (fun e=>pn4 e.symm) hg hz)));have HRJ9:=hid (HRJ.out.keepB (w':=w9) (fun g hg hl=>hot g hl (fun z hz=>HRJ.out.apart HP.out (fun e=>pn5 e.symm) hg hz)));have hs9:w2.heap.size≤w9.heap.size:=Nat.le_trans HB.out.size hb9.size;have HB9:=hid (HB8.out.trans (hb9.mono HB2.out.size));have CS:=hid (sorted_any HRJ9.out hs9 (by omega));clear ho hb9 hot CO;go_wp2_with fail
   with_reducible refine CS.out.mono ?_
   rintro e w10 ⟨rfl,ho,hb10,hot⟩;have HR10:=hid (ho.rd encRj_ok);have HP10:=hid ((HP9.out.keepB (w':=w10) (fun g hg hl=>hot g hl (fun z hz=>HP9.out.apart HRJ9.out pn5 hg hz))).rd encPg_ok);have HS10:=hid (show∀x∈ordS (ltOf cmpPg) ps,Rd encSr 2 w10 w10.heap.size x.A x.v.src from fun x hx=>by
    have hm:x∈ps:=(ordS_perm cmpPg_pre ps).mem_iff.1 hx;exact((HS9.out x hm).keepB (w':=w10) (fun g hg hl=>hot g hl (fun z hz=>(HS9.out x hm).apart HRJ9.out pn6 hg hz))).rd encSr_ok)
   have HB10:=hid (HB9.out.trans (hb10.mono HB2.out.size));clear ho hb10 hot CS;go_wp2_with fail
   go_ret2;exact⟨⟨pA,pc,ordS (ltOf cmpPg) ps,rA,rc,ordS (ltOf cmpRj) rs,by rw[ord_len cmpPg_pre,ord_len cmpRj_pre];rfl,HP10.out,HPE.out,HS10.out,HR10.out,HRE.out,by rw[ord_len cmpPg_pre];omega,by rw[ord_len cmpRj_pre];omega⟩,HB10.out⟩
end
def IdxR {α:Type}(p:α→Bool)(l:List α)(i:Int):Prop:=
 (i= -1∧∀y∈l,p y=false)∨∃(k:Nat) (x:α),l[k]? =some x∧i=(k:Int)∧p x=true∧∀y∈l.take k,p y=false
theorem idxR_from {α:Type}(p:α→Bool)(d:α):∀(l:List α) (i:Nat),(Lib.idxByFrom (fun _ y=>p y) d l i= -1∧∀y∈l,p y=false)∨∃(k:Nat) (x:α),l[k]? =some x∧Lib.idxByFrom (fun _ y=>p y) d l i=((i+k:Nat):Int)∧p x=true∧∀y∈l.take k,p y=false
 |[],i=>.inl ⟨rfl,by simp⟩
 |y::l,i=>by
  cases hy:p y
  ·have e:Lib.idxByFrom (fun _ y=>p y) d (y::l) i=Lib.idxByFrom (fun _ y=>p y) d l (i+1):=by simp[Lib.idxByFrom,hy]
   rw[e];rcases idxR_from p d l (i+1)with⟨h1,h2⟩|⟨k,x,h1,h2,h3,h4⟩
   ·exact .inl ⟨h1,fun z hz=>by rcases List.mem_cons.1 hz with rfl|hz;(exact hy);(exact h2 z hz)⟩
   ·refine .inr ⟨k+1,x,h1,by rw[h2];congr 1;omega,h3,fun z hz=> ?_⟩;rw[List.take_succ_cons,List.mem_cons]at hz;rcases hz with rfl|hz
    ·exact hy
    ·exact h4 z hz
  ·exact .inr ⟨0,y,rfl,by simp[Lib.idxByFrom,hy],hy,by simp⟩
theorem idxR_of {α:Type}(p:α→Bool)(d:α)(l:List α):IdxR p l (Lib.idxBy (fun _ y=>p y) l d):=by
 rcases idxR_from p d l 0 with h|⟨k,x,h1,h2,h3,h4⟩
 ·exact .inl h
 ·exact .inr ⟨k,x,h1,by unfold Lib.idxBy;rw[h2];congr 1;omega,h3,h4⟩
theorem IdxR.any_no {α:Type}{p:α→Bool}{l:List α}(h:∀y∈l,p y=false):l.any p=false∧l.find? p=none:=
 ⟨by rw[List.any_eq_false];intro y hy;rw[h y hy];simp,by rw[List.find?_eq_none];intro y hy;rw[h y hy];simp⟩
theorem IdxR.any_at {α:Type}{p:α→Bool}{l:List α}{k:Nat}{x:α}(hx:l[k]? =some x)(hp:p x=true)(h:∀y∈l.take k,p y=false):l.any p=true∧l.find? p=some x:=by
 refine⟨List.any_eq_true.2 ⟨x,List.mem_of_getElem? hx,hp⟩,?_⟩;obtain⟨hk,rfl⟩:=List.getElem?_eq_some_iff.1 hx;rw[List.find?_eq_some_iff_getElem];refine⟨hp,k,hk,rfl,fun j hj=> ?_⟩;have:=h l[j] (by rw[List.mem_take_iff_getElem];exact⟨j,by omega,rfl⟩)
 simp[this]
section
open Go.RowKit Go.Lib Go.Shelf
theorem index_D (p:Dv→Bool)(g:Nat)(lb:Array Value)(eg:∀args w,(callFunc g args).run Tryz.prog w=.ok (.enter g args) w){A:Option Addr}(c:Nat){l:List Dv}{w:World}
  (hp:∀(W:World) (x:Dv),Below w.heap.size w W→Calls Tryz.prog g (#[.agg (encD x).toArray]++lb) W fun e w'=>e=.returned (.bool (p x))∧Below W.heap.size W w')
  (h:Rd encD 6 w w.heap.size A l) (hl:l.length≤100000000000):
  Calls Tryz.prog 113 #[.slice A l.length c,.func (.func g) #[] lb] w fun e w'=>(∃i,e=.returned (.int .i64 i)∧IdxR p l i)∧Below w.heap.size w w':=by
 by_cases hne:l=[]
 ·subst hne;clear h hp eg;go_enter Tryz.func113,Tryz.ntmps113;go_wp2_with go_in
  refine wp_loop_rounds 1 ?_;rw[rounds_succ];go_wp2;go_ret;exact⟨⟨_,rfl,.inl ⟨rfl,by simp⟩⟩,Below.refl _ _⟩
 ·obtain⟨b,off,rfl,hb,hc⟩:=h hne;have hcon:=AnyQ.slices_IndexFunc Tryz.lay_indexf_f113 6 Tryz.isAgg69 Tryz.sizeOf69 encD encD_ok.1 p g lb eg b off l.length c l w (fun W x hW=>(hp W x hW).mono fun e w' ⟨h1,h2⟩=>⟨h1,hW.st h2⟩) (Nat.le_refl _) (by omega) hb
   (fun j hj i v hi=>hc j l[j]! (by rw[getElem!_pos l j hj];exact List.getElem?_eq_getElem hj) i v hi)
  rw[List.take_length]at hcon;exact hcon.mono fun e w' ⟨h1,h2⟩=>⟨⟨_,h1,idxR_of p default l⟩,h2⟩
end
end Go.Proofs.YtimffppffbideaaGreatDoor
