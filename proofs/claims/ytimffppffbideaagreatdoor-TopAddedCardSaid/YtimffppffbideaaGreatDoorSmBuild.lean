import Derived.Test.YtimffppffbideaaGreatDoorJSmFirst
set_option linter.unusedSimpArgs false
set_option linter.unusedVariables false
set_option maxRecDepth 100000
set_option maxHeartbeats 8000000
namespace Go.Proofs.YtimffppffbideaaGreatDoor
open Go.RowKit Go.Lib
open Mat
theorem sh_snoc {ls:List (Gp Int)}{n all:Nat}(h:ShT ls n all){g:Gp Int}(hg:g.l.length=all):ShT (ls++[g]) (n+1) all:=⟨by rw[List.length_append,h.1];rfl,fun x hx=>by
 rcases List.mem_append.1 hx with q|q
 ·exact h.2 x q
 ·have:x=g:=by simpa using q
  rw[this,hg]⟩
theorem meas3 {k t:Nat}(h:t<k):k-(t+1)<k-t:=by omega
def Zs (ls:List (Gp Int))(all:Nat):Prop:=∀g∈ls,g.l=List.replicate all 0
theorem Zs.snoc {ls:List (Gp Int)}{all:Nat}(h:Zs ls all){g:Gp Int}(hg:g.l=List.replicate all 0):Zs (ls++[g]) all:=fun x hx=>by
 rcases List.mem_append.1 hx with q|q
 ·exact h x q
 ·have:x=g:=by simpa using q
  rw[this,hg]
theorem Zs.at_ {ls:List (Gp Int)}{n all i mk:Nat}(h:Zs ls all)(hs:ShT ls n all)(hi:i<n):atV ls i mk=0:=by
 obtain⟨g,hg,hd,hm,hl⟩:=hs.at_ hi;unfold atV;rw[hd,h g hm,List.getD_eq_getElem?_getD,List.getElem?_replicate];split<;>rfl
theorem fill_any' {m:Mat.M}{fixed:List Int}{w:World}{tb cc rc lc fc Lc Wc i mask n all:Nat}{cA rA lA fA LA WA:Option Addr}{gs ls ws:List (Gp Int)}(hn:m.n=n)(hall:2^m.col.length=all)(hz:Sz m)(hf:Fx m fixed)(hS:TS m fixed w tb cA cc gs rA rc lA lc fA fc)(hD:TD w tb (n+1) all LA Lc ls WA Wc ws)(hi:i<n)(hm:mask<all)
  (hnx:∀mk,mk<all→atV ls (i+1) mk=tab m fixed (n-(i+1)) mk):
  Calls Tryz.prog 156 #[.pointer (some ⟨tb,0,none⟩),.int .i64 i,.int .i64 mask] w fun e w'=>e=.returned (.tuple #[])∧∃v,TD w' tb (n+1) all LA Lc (putT ls i mask (tab m fixed (n-i) mask)) WA Wc (putT ws i mask v)∧Below (tb+1) w w':=by
 subst hn hall;exact fill_any hz hf hS hD hi hm hnx
theorem build_any {m:Mat.M}{fixed:List Int}{cA rA lA fA:Option Addr}{gs:List (Gp Int)}(cc rc lc fc:Nat)(hz:Sz m)(hf:Fx m fixed){w:World}(hM:MRd m w cA gs rA lA)(hFR:Rd encI 1 w w.heap.size fA fixed):
  Calls Tryz.prog 133 #[.agg #[.slice cA m.cost.length cc,.slice rA m.row.length rc,.slice lA m.col.length lc],.slice fA fixed.length fc] w fun e w'=>∃tb LA Lc ls WA Wc ws,e=.returned (.pointer (some ⟨tb,0,none⟩))∧TS m fixed w' tb cA cc gs rA rc lA lc fA fc∧TD w' tb (m.n+1) (2^m.col.length) LA Lc ls WA Wc ws∧Tabs m fixed ls∧Below w.heap.size w w'∧w.heap.size≤tb:=by
 have hk8:=hz.k;have hn8:=hz.n;obtain⟨Y1,hY1⟩:∃Y,w.alloc (.cells #[.slice cA m.cost.length cc,.slice rA m.row.length rc,.slice lA m.col.length lc] 130)=Y:=⟨_,rfl⟩;have hb1:Below w.heap.size w Y1:=by rw[←hY1];exact(Below.refl _ w).al _
 have B1:Blk Y1 w.heap.size #[.slice cA m.cost.length cc,.slice rA m.row.length rc,.slice lA m.col.length lc] 130:=by rw[←hY1];exact Blk.new w _ _
 have s1:Y1.heap.size=w.heap.size+1:=by rw[←hY1];simp
 obtain⟨tb,htb⟩:∃t,Y1.heap.size=t:=⟨_,rfl⟩;obtain⟨Y2,hY2⟩:∃Y,Y1.alloc (.cells #[.slice cA m.cost.length cc,.slice rA m.row.length rc,.slice lA m.col.length lc,.slice fA fixed.length fc,.slice none 0 0,.slice none 0 0] 231)=Y:=⟨_,rfl⟩;have hb2:Below tb Y1 Y2:=by rw[←hY2,←htb];exact(Below.refl _ Y1).al _
 have B2:Blk Y2 tb #[.slice cA m.cost.length cc,.slice rA m.row.length rc,.slice lA m.col.length lc,.slice fA fixed.length fc,.slice none 0 0,.slice none 0 0] 231:=by rw[←hY2,←htb];exact Blk.new Y1 _ _
 have B1':Blk Y2 w.heap.size #[.slice cA m.cost.length cc,.slice rA m.row.length rc,.slice lA m.col.length lc] 130:=B1.below hb2 (by omega);have HTB:=hid htb;have HW:Hid (w.heap.size+1=tb):=hid (by omega);have HBW:Hid (Below w.heap.size w Y2):=hid (hb1.trans (hb2.mono (by omega)));have HTP:Hid (TP Y2 tb (.slice cA m.cost.length cc) (.slice rA m.row.length rc) (.slice lA m.col.length lc) (.slice fA fixed.length fc) none 0 [] none 0 []):=hid ⟨B2,OwnG.nil _ _,OwnG.nil _ _,(fun _ h=>by cases h),(fun _ h=>by simp at h)⟩;have HB1:=hid B1';have HB0:=hid B1;have HM:=hid hM;have HFR:=hid hFR;have HZ:=hid hz;have HFX:=hid hf;have d1:=B1'.cell 1 (v:=.slice rA m.row.length rc) rfl;have d2:=B1'.cell 2 (v:=.slice lA m.col.length lc) rfl;obtain⟨n,hn⟩:∃N,m.row.length=N:=⟨_,rfl⟩;obtain⟨k,hk⟩:∃a,m.col.length=a:=⟨_,rfl⟩;obtain⟨all,hall⟩:∃a,2^k=a:=⟨_,rfl⟩;have ha0:0<all:=by rw[←hall];exact Nat.pos_of_ne_zero (by simp)
 have ha9:all≤256:=by rw[←hall];exact pow_le8 (by omega)
 have hpw:((2:Int)^k)=(all:Int):=by rw[←hall,Int.natCast_pow];rfl
 have hw1:IntKind.i64.wrap ((2:Int)^k)=(all:Int):=by rw[hpw];exact IntWalk.i64_in _ (by omega)
 have k0:(0:Int)≤(k:Int):=by omega
 have k64:(k:Int)≤64:=by omega
 rw[hn]at d1;rw[hk]at d2;have HN:=hid hn;have HK:=hid hk;have HALL:=hid hall;have hn8':n≤8:=by unfold Mat.M.n at hn8;omega
 have hk8':k≤8:=by omega
 have wn:IntKind.i64.wrap ((n:Int)+1)=(n:Int)+1:=IntWalk.i64_in _ (by omega);clear hM hFR hz hf hb1 B1 s1 hb2 B2 B1' hn hk hall hpw hk8 hn8;go_enter Tryz.func133,Tryz.ntmps133;go_wp2_with(first|(refine wpList_boxLoad rfl (ty:=130) (x:=.tmp 2) (cs:=#[.slice cA m.cost.length cc,.slice rA m.row.length rc,.slice lA m.col.length lc]) rfl HB0.out rfl ⟨_,Tryz.underlying130,by kernel_rfl⟩ ?_))
 go_quiet(fail)
 go_wp2_with fail
 generalize hq:Y2.drewN _=Y3;have HB3:Hid (Below tb Y2 Y3):=hid (by rw[←hq];exact below_drewN (Below.refl _ _) _);have HTP3:Hid (TP Y3 tb (.slice cA m.cost.length cc) (.slice rA m.row.length rc) (.slice lA m.col.length lc) (.slice fA fixed.length fc) none 0 [] none 0 []):=hid (by rw[←hq];exact HTP.out.drewN _);clear hq d1 d2 HTP htb hY1 hY2;go_loopw [26] (fun si wx=>∃(i:Nat) (LA:Option Addr) (Lc:Nat) (ls:List (Gp Int)) (WA:Option Addr) (Wc:Nat) (ws:List (Gp Int)),i≤n+1∧si=.int .i64 i∧Hid (TP wx tb (.slice cA m.cost.length cc) (.slice rA m.row.length rc) (.slice lA m.col.length lc) (.slice fA fixed.length fc) LA Lc ls WA Wc ws)∧Hid (ShT ls i all)∧Hid (ShT ws i all)∧Hid (Zs ls all)∧Hid (Below tb Y2 wx)) (fun si _=>n+1-(RowKit.intOf si).toNat)
 case atStart=>exact⟨0,none,0,[],none,0,[],Nat.zero_le _,rfl,HTP3,⟨rfl,fun g h=>by simp at h⟩,⟨rfl,fun g h=>by simp at h⟩,fun g h=>by simp at h,HB3⟩
 case round=>
  clear HTP3 HB3;obtain⟨i,LA,Lc,ls,WA,Wc,ws,hi,rfl,HTP,HSL,HSW,HZS,HB⟩:=hrel;have i0:(0:Int)≤(i:Int):=by omega
  by_cases hin:i<n+1
  ·have HI:=hid hin;have i1:(i:Int)<(n:Int)+1:=by omega
   have hl8:ls.length≤9:=by have:=HSL.out.1;omega
   have hw8:ws.length≤9:=by have:=HSW.out.1;omega
   clear hin hi;go_upto_block 1 with fail
   go_cut [36] (fun s36 wc=>∃g1 LA2 Lc2 WA2 Wc2 g2,Hid (TP wc tb (.slice cA m.cost.length cc) (.slice rA m.row.length rc) (.slice lA m.col.length lc) (.slice fA fixed.length fc) LA2 Lc2 (ls++[(⟨some ⟨g1,0,none⟩,all,List.replicate all 0⟩:Gp Int)]) WA2 Wc2 (ws++[(⟨some ⟨g2,0,none⟩,all,List.replicate all 0⟩:Gp Int)]))∧Hid (Below tb Y2 wc))
   case rest=>
    obtain⟨g1,LA2,Lc2,WA2,Wc2,g2,HT9,HB9⟩:=hcut;go_wp2_with fail
    go_roundw
    case rel=>exact⟨i+1,LA2,Lc2,_,WA2,Wc2,_,HI.out,by go_num,HT9,sh_snoc HSL.out (by simp),sh_snoc HSW.out (by simp),HZS.out.snoc rfl,HB9⟩
    case measure=>exact meas2 HI.out
   case first=>
    go_upto_region 5 with fail
    go_cut [36] (fun s36 wc=>∃g1 LA2 Lc2,Hid (TP wc tb (.slice cA m.cost.length cc) (.slice rA m.row.length rc) (.slice lA m.col.length lc) (.slice fA fixed.length fc) LA2 Lc2 (ls++[(⟨some ⟨g1,0,none⟩,all,List.replicate all 0⟩:Gp Int)]) WA Wc ws)∧Hid (Below tb Y2 wc))
    case first=>
     refine wp_region_held_drew (S:=fun _=>True) (by kernel_rfl) trivial (fun hHeld=> ?_);have HTQ:Hid (TP wr.drew tb (.slice cA m.cost.length cc) (.slice rA m.row.length rc) (.slice lA m.col.length lc) (.slice fA fixed.length fc) LA Lc ls WA Wc ws):=hid (HTP.out.drewN 1);have HB0V:Hid (Below tb Y2 wr.drew):=hid (below_drewN HB.out 1);generalize wr.drew=V0 at*;obtain⟨g1,hg1⟩:∃g,V0.heap.size=g:=⟨_,rfl⟩;have HCS:Hid ((#[Value.slice (some ⟨g1,0,none⟩) all all]:Array Value).toList=encG (⟨some ⟨g1,0,none⟩,all,List.replicate all 0⟩:Gp Int)):=hid (by unfold encG;simp);have hts:tb<g1:=by rw[←hg1];exact HTQ.out.b.lt
     have hbs:tb+1≤V0.heap.size:=by omega
     have y4:=HTQ.out.b.cell 4 (v:=.slice LA ls.length Lc) rfl;have HG1:=hid hg1;have hSS:True:=trivial;change wpAnyH _ _ _ _ _ 12 _ _ _;refine tk 0 (h:= ?_);refine tk 1 (h:= ?_);refine tk 2 (h:= ?_);refine tk 3 (h:= ?_);refine tk 5 (h:= ?_);refine rd2 4 6 (h:=fun K hK=> ?_) (h2:=fun K hK=> ?_)
     ·rw[if_pos (by rfl)];go_wp2_with fail;refine hK.out _ _ trivial (fun hHeld=> ?_);clear hK K;refine td (h:= ?_)
      refine rd1 6 (h:=fun K hK=> ?_);rw[if_pos (by rfl)];refine wp_makeZ (.tmp 33) (.tmp 33) tyI encI_ok rfl (tb+1) 0 (.int .i64 0) (by kernel_rfl) rfl .i64 .i64 all rfl rfl (by omega) (by omega) hbs ?_;intro V7 own7 hb7 hs7;rw[hg1]at own7 hb7 hs7 ⊢;have y7:=(hb7.cell (p:=⟨tb,4,none⟩) hts).trans y4;obtain⟨V8,hV8⟩:∃V,V7.alloc (.cells #[.slice (some ⟨g1,0,none⟩) all all] 33)=V:=⟨_,rfl⟩;have hb8:Below g1 V0 V8:=(by rw[←hV8];exact hb7.alloc (Nat.le_of_lt hs7) _);have y8:=(hb8.cell (p:=⟨tb,4,none⟩) hts).trans y4;have HS7:=hid hs7;have HB8:=hid hb8;have HOW8:Hid (Own 3 encI 1 V8 (tb+1) (some ⟨g1,0,none⟩) all (List.replicate all 0)):=hid (by rw[←hV8];exact own7.alloc _);have HBL8:Hid (Blk V8 V7.heap.size #[.slice (some ⟨g1,0,none⟩) all all] 33):=hid (by rw[←hV8];exact Blk.new V7 _ _);clear own7 hb7 hs7 hb8;refine hK.out _ _ trivial (fun hHeld=> ?_);clear hK K;refine td (h:= ?_);refine rd1 7 (h:=fun K hK=> ?_);rw[if_pos (by rfl)];go_wp2_with fail;refine hK.out _ _ trivial (fun hHeld=> ?_);clear hK K;refine td (h:= ?_)
      refine rd1 8 (h:=fun K hK=> ?_);rw[if_pos (by rfl)];refine wp_appL (.tmp 32) (.tmp 35) tyII encG_ok rfl (⟨some ⟨g1,0,none⟩,all,List.replicate all 0⟩:Gp Int) HCS.out (tb+1) rfl rfl ((HTQ.out.l.out).keep (by rw[hg1];exact HB8.out) (Nat.le_refl _)) rfl HBL8.out (by omega) (by omega) (Nat.le_trans hbs HB8.out.size) ?_;intro A9 c9 V9 own9 hb9 hs9 hf9 hl9;have hx8:Blk V8 tb #[.slice cA m.cost.length cc,.slice rA m.row.length rc,.slice lA m.col.length lc,.slice fA fixed.length fc,.slice LA ls.length Lc,.slice WA ws.length Wc] 231:=HTQ.out.b.below HB8.out hts;have hx9:Blk V9 tb #[.slice cA m.cost.length cc,.slice rA m.row.length rc,.slice lA m.col.length lc,.slice fA fixed.length fc,.slice LA ls.length Lc,.slice WA ws.length Wc] 231:=(hf9 tb hx8.lt (fun x hx=>Nat.ne_of_lt ((HTQ.out.l.out).lt2 hx).1)).trans hx8;have y9:=hx9.cell 4 rfl;have z9:=hx9.frozen 4;have HP9:=hid (HTQ.out.pushL (g:=(⟨some ⟨g1,0,none⟩,all,List.replicate all 0⟩:Gp Int)) (by rw[hg1]) (by rw[hg1];exact HB8.out) HOW8.out own9 hf9 hl9);have HB9:=hid (((HB0V.out.trans (HB8.out.mono (Nat.le_of_lt hts))).trans (hb9.mono (Nat.le_succ tb))).setCell (p:=⟨tb,4,none⟩) (Nat.le_refl _) (.slice A9 (ls.length+1) c9));clear own9 hb9 hs9 hf9 hl9 hx9 hx8;refine hK.out _ _ trivial (fun hHeld=> ?_);clear hK K;refine td (h:= ?_);refine tk 9 (h:= ?_);refine tk 10 (h:= ?_);refine rd1 11 (h:=fun K hK=> ?_);rw[if_pos (by rfl)];go_wp2_with fail;refine hK.out _ _ trivial (fun hHeld=> ?_);clear hK K;refine td (h:= ?_);refine wpAnyH_done (by kernel_rfl) ?_ _;go_wp2_with fail;go_meet;exact⟨g1,A9,c9,HP9,HB9⟩
     ·rw[if_pos (by rfl)];refine wp_makeZ (.tmp 33) (.tmp 33) tyI encI_ok rfl (tb+1) 0 (.int .i64 0) (by kernel_rfl) rfl .i64 .i64 all rfl rfl (by omega) (by omega) hbs ?_;intro V7 own7 hb7 hs7;rw[hg1]at own7 hb7 hs7 ⊢;have y7:=(hb7.cell (p:=⟨tb,4,none⟩) hts).trans y4;obtain⟨V8,hV8⟩:∃V,V7.alloc (.cells #[.slice (some ⟨g1,0,none⟩) all all] 33)=V:=⟨_,rfl⟩;have hb8:Below g1 V0 V8:=(by rw[←hV8];exact hb7.alloc (Nat.le_of_lt hs7) _);have y8:=(hb8.cell (p:=⟨tb,4,none⟩) hts).trans y4;have HS7:=hid hs7;have HB8:=hid hb8;have HOW8:Hid (Own 3 encI 1 V8 (tb+1) (some ⟨g1,0,none⟩) all (List.replicate all 0)):=hid (by rw[←hV8];exact own7.alloc _);have HBL8:Hid (Blk V8 V7.heap.size #[.slice (some ⟨g1,0,none⟩) all all] 33):=hid (by rw[←hV8];exact Blk.new V7 _ _);clear own7 hb7 hs7 hb8;refine hK.out _ _ trivial (fun hHeld=> ?_);clear hK K;refine td (h:= ?_);refine rd2 4 7 (h:=fun K hK=> ?_) (h2:=fun K hK=> ?_)
      ·rw[if_pos (by rfl)];go_wp2_with fail;refine hK.out _ _ trivial (fun hHeld=> ?_);clear hK K;refine td (h:= ?_)
       refine rd1 7 (h:=fun K hK=> ?_);rw[if_pos (by rfl)];go_wp2_with fail;refine hK.out _ _ trivial (fun hHeld=> ?_);clear hK K;refine td (h:= ?_)
       refine rd1 8 (h:=fun K hK=> ?_);rw[if_pos (by rfl)];refine wp_appL (.tmp 32) (.tmp 35) tyII encG_ok rfl (⟨some ⟨g1,0,none⟩,all,List.replicate all 0⟩:Gp Int) HCS.out (tb+1) rfl rfl ((HTQ.out.l.out).keep (by rw[hg1];exact HB8.out) (Nat.le_refl _)) rfl HBL8.out (by omega) (by omega) (Nat.le_trans hbs HB8.out.size) ?_;intro A9 c9 V9 own9 hb9 hs9 hf9 hl9;have hx8:Blk V8 tb #[.slice cA m.cost.length cc,.slice rA m.row.length rc,.slice lA m.col.length lc,.slice fA fixed.length fc,.slice LA ls.length Lc,.slice WA ws.length Wc] 231:=HTQ.out.b.below HB8.out hts;have hx9:Blk V9 tb #[.slice cA m.cost.length cc,.slice rA m.row.length rc,.slice lA m.col.length lc,.slice fA fixed.length fc,.slice LA ls.length Lc,.slice WA ws.length Wc] 231:=(hf9 tb hx8.lt (fun x hx=>Nat.ne_of_lt ((HTQ.out.l.out).lt2 hx).1)).trans hx8;have y9:=hx9.cell 4 rfl;have z9:=hx9.frozen 4;have HP9:=hid (HTQ.out.pushL (g:=(⟨some ⟨g1,0,none⟩,all,List.replicate all 0⟩:Gp Int)) (by rw[hg1]) (by rw[hg1];exact HB8.out) HOW8.out own9 hf9 hl9);have HB9:=hid (((HB0V.out.trans (HB8.out.mono (Nat.le_of_lt hts))).trans (hb9.mono (Nat.le_succ tb))).setCell (p:=⟨tb,4,none⟩) (Nat.le_refl _) (.slice A9 (ls.length+1) c9));clear own9 hb9 hs9 hf9 hl9 hx9 hx8;refine hK.out _ _ trivial (fun hHeld=> ?_);clear hK K;refine td (h:= ?_);refine tk 9 (h:= ?_);refine tk 10 (h:= ?_);refine rd1 11 (h:=fun K hK=> ?_);rw[if_pos (by rfl)];go_wp2_with fail;refine hK.out _ _ trivial (fun hHeld=> ?_);clear hK K;refine td (h:= ?_);refine wpAnyH_done (by kernel_rfl) ?_ _;go_wp2_with fail;go_meet;exact⟨g1,A9,c9,HP9,HB9⟩
      ·rw[if_pos (by rfl)];go_wp2_with fail;refine hK.out _ _ trivial (fun hHeld=> ?_);clear hK K;refine td (h:= ?_)
       refine rd1 4 (h:=fun K hK=> ?_);rw[if_pos (by rfl)];go_wp2_with fail;refine hK.out _ _ trivial (fun hHeld=> ?_);clear hK K;refine td (h:= ?_)
       refine rd1 8 (h:=fun K hK=> ?_);rw[if_pos (by rfl)];refine wp_appL (.tmp 32) (.tmp 35) tyII encG_ok rfl (⟨some ⟨g1,0,none⟩,all,List.replicate all 0⟩:Gp Int) HCS.out (tb+1) rfl rfl ((HTQ.out.l.out).keep (by rw[hg1];exact HB8.out) (Nat.le_refl _)) rfl HBL8.out (by omega) (by omega) (Nat.le_trans hbs HB8.out.size) ?_;intro A9 c9 V9 own9 hb9 hs9 hf9 hl9;have hx8:Blk V8 tb #[.slice cA m.cost.length cc,.slice rA m.row.length rc,.slice lA m.col.length lc,.slice fA fixed.length fc,.slice LA ls.length Lc,.slice WA ws.length Wc] 231:=HTQ.out.b.below HB8.out hts;have hx9:Blk V9 tb #[.slice cA m.cost.length cc,.slice rA m.row.length rc,.slice lA m.col.length lc,.slice fA fixed.length fc,.slice LA ls.length Lc,.slice WA ws.length Wc] 231:=(hf9 tb hx8.lt (fun x hx=>Nat.ne_of_lt ((HTQ.out.l.out).lt2 hx).1)).trans hx8;have y9:=hx9.cell 4 rfl;have z9:=hx9.frozen 4;have HP9:=hid (HTQ.out.pushL (g:=(⟨some ⟨g1,0,none⟩,all,List.replicate all 0⟩:Gp Int)) (by rw[hg1]) (by rw[hg1];exact HB8.out) HOW8.out own9 hf9 hl9);have HB9:=hid (((HB0V.out.trans (HB8.out.mono (Nat.le_of_lt hts))).trans (hb9.mono (Nat.le_succ tb))).setCell (p:=⟨tb,4,none⟩) (Nat.le_refl _) (.slice A9 (ls.length+1) c9));clear own9 hb9 hs9 hf9 hl9 hx9 hx8;refine hK.out _ _ trivial (fun hHeld=> ?_);clear hK K;refine td (h:= ?_);refine tk 9 (h:= ?_);refine tk 10 (h:= ?_);refine rd1 11 (h:=fun K hK=> ?_);rw[if_pos (by rfl)];go_wp2_with fail;refine hK.out _ _ trivial (fun hHeld=> ?_);clear hK K;refine td (h:= ?_);refine wpAnyH_done (by kernel_rfl) ?_ _;go_wp2_with fail;go_meet;exact⟨g1,A9,c9,HP9,HB9⟩
    case rest=>
     obtain⟨g5,LA5,Lc5,HT5,HB5⟩:=hcut;go_upto_region 6 with fail
     refine wp_region_held_drew (S:=fun _=>True) (by kernel_rfl) trivial (fun hHeld=> ?_);have HTQ:Hid (TP wc.drew tb (.slice cA m.cost.length cc) (.slice rA m.row.length rc) (.slice lA m.col.length lc) (.slice fA fixed.length fc) LA5 Lc5 (ls++[(⟨some ⟨g5,0,none⟩,all,List.replicate all 0⟩:Gp Int)]) WA Wc ws):=hid (HT5.out.drewN 1);have HB0V:Hid (Below tb Y2 wc.drew):=hid (below_drewN HB5.out 1);generalize wc.drew=V0 at*;obtain⟨g1,hg1⟩:∃g,V0.heap.size=g:=⟨_,rfl⟩;have HCS:Hid ((#[Value.slice (some ⟨g1,0,none⟩) all all]:Array Value).toList=encG (⟨some ⟨g1,0,none⟩,all,List.replicate all 0⟩:Gp Int)):=hid (by unfold encG;simp);have hts:tb<g1:=by rw[←hg1];exact HTQ.out.b.lt
     have hbs:tb+1≤V0.heap.size:=by omega
     have y4:=HTQ.out.b.cell 5 (v:=.slice WA ws.length Wc) rfl;have HG1:=hid hg1;have hSS:True:=trivial;change wpAnyH _ _ _ _ _ 12 _ _ _;refine tk 0 (h:= ?_);refine tk 1 (h:= ?_);refine tk 2 (h:= ?_);refine tk 3 (h:= ?_);refine tk 5 (h:= ?_);refine rd2 4 6 (h:=fun K hK=> ?_) (h2:=fun K hK=> ?_)
     ·rw[if_pos (by rfl)];go_wp2_with fail;refine hK.out _ _ trivial (fun hHeld=> ?_);clear hK K;refine td (h:= ?_)
      refine rd1 6 (h:=fun K hK=> ?_);rw[if_pos (by rfl)];refine wp_makeZ (.tmp 44) (.tmp 44) tyI encI_ok rfl (tb+1) 0 (.int .i64 0) (by kernel_rfl) rfl .i64 .i64 all rfl rfl (by omega) (by omega) hbs ?_;intro V7 own7 hb7 hs7;rw[hg1]at own7 hb7 hs7 ⊢;have y7:=(hb7.cell (p:=⟨tb,5,none⟩) hts).trans y4;obtain⟨V8,hV8⟩:∃V,V7.alloc (.cells #[.slice (some ⟨g1,0,none⟩) all all] 33)=V:=⟨_,rfl⟩;have hb8:Below g1 V0 V8:=(by rw[←hV8];exact hb7.alloc (Nat.le_of_lt hs7) _);have y8:=(hb8.cell (p:=⟨tb,5,none⟩) hts).trans y4;have HS7:=hid hs7;have HB8:=hid hb8;have HOW8:Hid (Own 3 encI 1 V8 (tb+1) (some ⟨g1,0,none⟩) all (List.replicate all 0)):=hid (by rw[←hV8];exact own7.alloc _);have HBL8:Hid (Blk V8 V7.heap.size #[.slice (some ⟨g1,0,none⟩) all all] 33):=hid (by rw[←hV8];exact Blk.new V7 _ _);clear own7 hb7 hs7 hb8;refine hK.out _ _ trivial (fun hHeld=> ?_);clear hK K;refine td (h:= ?_);refine rd1 7 (h:=fun K hK=> ?_);rw[if_pos (by rfl)];go_wp2_with fail;refine hK.out _ _ trivial (fun hHeld=> ?_);clear hK K;refine td (h:= ?_)
      refine rd1 8 (h:=fun K hK=> ?_);rw[if_pos (by rfl)];refine wp_appL (.tmp 43) (.tmp 46) tyII encG_ok rfl (⟨some ⟨g1,0,none⟩,all,List.replicate all 0⟩:Gp Int) HCS.out (tb+1) rfl rfl ((HTQ.out.w.out).keep (by rw[hg1];exact HB8.out) (Nat.le_refl _)) rfl HBL8.out (by omega) (by omega) (Nat.le_trans hbs HB8.out.size) ?_;intro A9 c9 V9 own9 hb9 hs9 hf9 hl9;have hx8:Blk V8 tb #[.slice cA m.cost.length cc,.slice rA m.row.length rc,.slice lA m.col.length lc,.slice fA fixed.length fc,.slice LA5 (ls++[(⟨some ⟨g5,0,none⟩,all,List.replicate all 0⟩:Gp Int)]).length Lc5,.slice WA ws.length Wc] 231:=HTQ.out.b.below HB8.out hts;have hx9:Blk V9 tb #[.slice cA m.cost.length cc,.slice rA m.row.length rc,.slice lA m.col.length lc,.slice fA fixed.length fc,.slice LA5 (ls++[(⟨some ⟨g5,0,none⟩,all,List.replicate all 0⟩:Gp Int)]).length Lc5,.slice WA ws.length Wc] 231:=(hf9 tb hx8.lt (fun x hx=>Nat.ne_of_lt ((HTQ.out.w.out).lt2 hx).1)).trans hx8;have y9:=hx9.cell 5 rfl;have z9:=hx9.frozen 5;have HP9:=hid (HTQ.out.pushW (g:=(⟨some ⟨g1,0,none⟩,all,List.replicate all 0⟩:Gp Int)) (by rw[hg1]) (by rw[hg1];exact HB8.out) HOW8.out own9 hf9 hl9);have HB9:=hid (((HB0V.out.trans (HB8.out.mono (Nat.le_of_lt hts))).trans (hb9.mono (Nat.le_succ tb))).setCell (p:=⟨tb,5,none⟩) (Nat.le_refl _) (.slice A9 (ws.length+1) c9));clear own9 hb9 hs9 hf9 hl9 hx9 hx8;refine hK.out _ _ trivial (fun hHeld=> ?_);clear hK K;refine td (h:= ?_);refine tk 9 (h:= ?_);refine tk 10 (h:= ?_);refine rd1 11 (h:=fun K hK=> ?_);rw[if_pos (by rfl)];go_wp2_with fail;refine hK.out _ _ trivial (fun hHeld=> ?_);clear hK K;refine td (h:= ?_);refine wpAnyH_done (by kernel_rfl) ?_ _;go_wp2_with fail;go_meet;exact⟨g5,LA5,Lc5,A9,c9,g1,HP9,HB9⟩
     ·rw[if_pos (by rfl)];refine wp_makeZ (.tmp 44) (.tmp 44) tyI encI_ok rfl (tb+1) 0 (.int .i64 0) (by kernel_rfl) rfl .i64 .i64 all rfl rfl (by omega) (by omega) hbs ?_;intro V7 own7 hb7 hs7;rw[hg1]at own7 hb7 hs7 ⊢;have y7:=(hb7.cell (p:=⟨tb,5,none⟩) hts).trans y4;obtain⟨V8,hV8⟩:∃V,V7.alloc (.cells #[.slice (some ⟨g1,0,none⟩) all all] 33)=V:=⟨_,rfl⟩;have hb8:Below g1 V0 V8:=(by rw[←hV8];exact hb7.alloc (Nat.le_of_lt hs7) _);have y8:=(hb8.cell (p:=⟨tb,5,none⟩) hts).trans y4;have HS7:=hid hs7;have HB8:=hid hb8;have HOW8:Hid (Own 3 encI 1 V8 (tb+1) (some ⟨g1,0,none⟩) all (List.replicate all 0)):=hid (by rw[←hV8];exact own7.alloc _);have HBL8:Hid (Blk V8 V7.heap.size #[.slice (some ⟨g1,0,none⟩) all all] 33):=hid (by rw[←hV8];exact Blk.new V7 _ _);clear own7 hb7 hs7 hb8;refine hK.out _ _ trivial (fun hHeld=> ?_);clear hK K;refine td (h:= ?_);refine rd2 4 7 (h:=fun K hK=> ?_) (h2:=fun K hK=> ?_)
      ·rw[if_pos (by rfl)];go_wp2_with fail;refine hK.out _ _ trivial (fun hHeld=> ?_);clear hK K;refine td (h:= ?_)
       refine rd1 7 (h:=fun K hK=> ?_);rw[if_pos (by rfl)];go_wp2_with fail;refine hK.out _ _ trivial (fun hHeld=> ?_);clear hK K;refine td (h:= ?_)
       refine rd1 8 (h:=fun K hK=> ?_);rw[if_pos (by rfl)];refine wp_appL (.tmp 43) (.tmp 46) tyII encG_ok rfl (⟨some ⟨g1,0,none⟩,all,List.replicate all 0⟩:Gp Int) HCS.out (tb+1) rfl rfl ((HTQ.out.w.out).keep (by rw[hg1];exact HB8.out) (Nat.le_refl _)) rfl HBL8.out (by omega) (by omega) (Nat.le_trans hbs HB8.out.size) ?_;intro A9 c9 V9 own9 hb9 hs9 hf9 hl9;have hx8:Blk V8 tb #[.slice cA m.cost.length cc,.slice rA m.row.length rc,.slice lA m.col.length lc,.slice fA fixed.length fc,.slice LA5 (ls++[(⟨some ⟨g5,0,none⟩,all,List.replicate all 0⟩:Gp Int)]).length Lc5,.slice WA ws.length Wc] 231:=HTQ.out.b.below HB8.out hts;have hx9:Blk V9 tb #[.slice cA m.cost.length cc,.slice rA m.row.length rc,.slice lA m.col.length lc,.slice fA fixed.length fc,.slice LA5 (ls++[(⟨some ⟨g5,0,none⟩,all,List.replicate all 0⟩:Gp Int)]).length Lc5,.slice WA ws.length Wc] 231:=(hf9 tb hx8.lt (fun x hx=>Nat.ne_of_lt ((HTQ.out.w.out).lt2 hx).1)).trans hx8;have y9:=hx9.cell 5 rfl;have z9:=hx9.frozen 5;have HP9:=hid (HTQ.out.pushW (g:=(⟨some ⟨g1,0,none⟩,all,List.replicate all 0⟩:Gp Int)) (by rw[hg1]) (by rw[hg1];exact HB8.out) HOW8.out own9 hf9 hl9);have HB9:=hid (((HB0V.out.trans (HB8.out.mono (Nat.le_of_lt hts))).trans (hb9.mono (Nat.le_succ tb))).setCell (p:=⟨tb,5,none⟩) (Nat.le_refl _) (.slice A9 (ws.length+1) c9));clear own9 hb9 hs9 hf9 hl9 hx9 hx8;refine hK.out _ _ trivial (fun hHeld=> ?_);clear hK K;refine td (h:= ?_);refine tk 9 (h:= ?_);refine tk 10 (h:= ?_);refine rd1 11 (h:=fun K hK=> ?_);rw[if_pos (by rfl)];go_wp2_with fail;refine hK.out _ _ trivial (fun hHeld=> ?_);clear hK K;refine td (h:= ?_);refine wpAnyH_done (by kernel_rfl) ?_ _;go_wp2_with fail;go_meet;exact⟨g5,LA5,Lc5,A9,c9,g1,HP9,HB9⟩
      ·rw[if_pos (by rfl)];go_wp2_with fail;refine hK.out _ _ trivial (fun hHeld=> ?_);clear hK K;refine td (h:= ?_)
       refine rd1 4 (h:=fun K hK=> ?_);rw[if_pos (by rfl)];go_wp2_with fail;refine hK.out _ _ trivial (fun hHeld=> ?_);clear hK K;refine td (h:= ?_)
       refine rd1 8 (h:=fun K hK=> ?_);rw[if_pos (by rfl)];refine wp_appL (.tmp 43) (.tmp 46) tyII encG_ok rfl (⟨some ⟨g1,0,none⟩,all,List.replicate all 0⟩:Gp Int) HCS.out (tb+1) rfl rfl ((HTQ.out.w.out).keep (by rw[hg1];exact HB8.out) (Nat.le_refl _)) rfl HBL8.out (by omega) (by omega) (Nat.le_trans hbs HB8.out.size) ?_;intro A9 c9 V9 own9 hb9 hs9 hf9 hl9;have hx8:Blk V8 tb #[.slice cA m.cost.length cc,.slice rA m.row.length rc,.slice lA m.col.length lc,.slice fA fixed.length fc,.slice LA5 (ls++[(⟨some ⟨g5,0,none⟩,all,List.replicate all 0⟩:Gp Int)]).length Lc5,.slice WA ws.length Wc] 231:=HTQ.out.b.below HB8.out hts;have hx9:Blk V9 tb #[.slice cA m.cost.length cc,.slice rA m.row.length rc,.slice lA m.col.length lc,.slice fA fixed.length fc,.slice LA5 (ls++[(⟨some ⟨g5,0,none⟩,all,List.replicate all 0⟩:Gp Int)]).length Lc5,.slice WA ws.length Wc] 231:=(hf9 tb hx8.lt (fun x hx=>Nat.ne_of_lt ((HTQ.out.w.out).lt2 hx).1)).trans hx8;have y9:=hx9.cell 5 rfl;have z9:=hx9.frozen 5;have HP9:=hid (HTQ.out.pushW (g:=(⟨some ⟨g1,0,none⟩,all,List.replicate all 0⟩:Gp Int)) (by rw[hg1]) (by rw[hg1];exact HB8.out) HOW8.out own9 hf9 hl9);have HB9:=hid (((HB0V.out.trans (HB8.out.mono (Nat.le_of_lt hts))).trans (hb9.mono (Nat.le_succ tb))).setCell (p:=⟨tb,5,none⟩) (Nat.le_refl _) (.slice A9 (ws.length+1) c9));clear own9 hb9 hs9 hf9 hl9 hx9 hx8;refine hK.out _ _ trivial (fun hHeld=> ?_);clear hK K;refine td (h:= ?_);refine tk 9 (h:= ?_);refine tk 10 (h:= ?_);refine rd1 11 (h:=fun K hK=> ?_);rw[if_pos (by rfl)];go_wp2_with fail;refine hK.out _ _ trivial (fun hHeld=> ?_);clear hK K;refine td (h:= ?_);refine wpAnyH_done (by kernel_rfl) ?_ _;go_wp2_with fail;go_meet;exact⟨g5,LA5,Lc5,A9,c9,g1,HP9,HB9⟩
  ·obtain rfl:i=n+1:=by omega
   simp only[Int.natCast_add,Int.natCast_one];have hgl:gs.length=m.cost.length:=by rw[←HM.out.cost,vals_len]
   have hBW:=HBW.out.trans (HB.out.mono (show w.heap.size≤tb by have:=HW.out;omega));have HTS:Hid (TS m fixed wr tb cA cc gs rA rc lA lc fA fc):=hid (by
    have hB:=HTP.out.b;exact⟨hB.lt,by rw[hgl];exact hB.cell 0 rfl,hB.cell 1 rfl,hB.cell 2 rfl,hB.cell 3 rfl,HM.out.cost,(HM.out.rows.keep hBW).more (by have:=HW.out;omega),(HM.out.row.keep hBW).more (by have:=HW.out;omega),(HM.out.col.keep hBW).more (by have:=HW.out;omega),(HFR.out.keep hBW).more (by have:=HW.out;omega)⟩)
   have HTD:Hid (TD wr tb (n+1) all LA Lc ls WA Wc ws):=hid (HTP.out.td HSL.out HSW.out);have HV:Hid (∀mk,mk<all→atV ls n mk=if mk<0 then last m mk else 0):=hid (fun mk hmk=>by rw[if_neg (Nat.not_lt_zero _)];exact HZS.out.at_ HSL.out (Nat.lt_succ_self n));have hB1:Blk wr w.heap.size #[.slice cA m.cost.length cc,.slice rA m.row.length rc,.slice lA m.col.length lc] 130:=HB1.out.below HB.out (by have:=HW.out;omega);have d2:=hB1.cell 2 (v:=.slice lA m.col.length lc) rfl;rw[HK.out]at d2;have HD2:=hid d2;have HBW2:=hid hBW;obtain⟨wL,hwL⟩:∃x,wr=x:=⟨_,rfl⟩;rw[hwL]at HTS HTD HD2 HBW2 ⊢;have HWL:Hid (w.heap.size≤tb):=hid (by have:=HW.out;omega);have n0:(0:Int)≤(n:Int):=by omega
   have n1:(n:Int)<(n:Int)+1:=by omega
   have n2:decide (n<n+1)=true:=decide_eq_true (by omega);clear hB1 hBW hwL hin hi HTP HSL HSW HZS HB hgl wn hw1 d2;go_wp2_with fail
   go_loopw [52] (fun sm wx=>∃(mask:Nat) (ls2 ws2:List (Gp Int)),mask≤all∧sm=.int .i64 mask∧Hid (TD wx tb (n+1) all LA Lc ls2 WA Wc ws2)∧Hid (∀mk,mk<all→atV ls2 n mk=if mk<mask then last m mk else 0)∧Hid (Below (tb+1) wL wx)) (fun sm _=>all-(RowKit.intOf sm).toNat)
   case atStart=>exact⟨0,ls,ws,Nat.zero_le _,rfl,HTD,HV,Below.refl _ _⟩
   case round=>
    clear HTD HV;obtain⟨wo,hwo⟩:∃wo,wo=wr:=⟨_,rfl⟩;obtain⟨mask,ls2,ws2,hm,rfl,HTD,HV,HB⟩:=hrel;rw[←hwo]at HTD HB ⊢;clear hwo;by_cases hma:mask<all
    ·have HMA:=hid hma;have m0:(0:Int)≤(mask:Int):=by omega
     have m1:(mask:Int)<(all:Int):=by omega
     have m2:decide (mask<all)=true:=decide_eq_true hma;obtain⟨o,vb,kc,hWA,s0,hvb,aw,yw,fw⟩:=HTD.out.wAt (i:=n) (Nat.lt_succ_self n) ha0;have y0:=yw mask hma;have f0:=fw mask;have c5:=HTD.out.c5;rw[hWA]at c5;obtain⟨X1,hX1⟩:∃X,wo.setCell ⟨vb,mask,none⟩ (.int .i64 1)=X:=⟨_,rfl⟩;have HT1:Hid (TD X1 tb (n+1) all LA Lc ls2 WA Wc (putT ws2 n mask 1)):=hid (by rw[←hX1];exact HTD.out.setW (Nat.lt_succ_self n) hma aw 1);have hB1:Below (tb+1) wL X1:=by rw[←hX1];exact HB.out.setCell (p:=⟨vb,mask,none⟩) hvb _
     have d2:X1.cell? ⟨w.heap.size,2,none⟩=some (.slice lA k lc):=(hB1.cell (p:=⟨w.heap.size,2,none⟩) (Nat.lt_succ_of_le HWL.out)).trans HD2.out;have HB1X:=hid hB1;have HV1:Hid (∀mk,mk<all→atV ls2 n mk=if mk=mask then pSum m mask 0 else if mk<mask then last m mk else 0):=hid (fun mk hmk=>by
      rw[HV.out mk hmk];by_cases e:mk=mask
      ·rw[if_pos e,if_neg (by omega)];rfl
      ·rw[if_neg e])
     clear hma hm yw fw hB1;go_wp2_with fail
     go_loopw [67] (fun sj wx=>∃(j:Nat) (ls3:List (Gp Int)),j≤k∧sj=.int .i64 j∧Hid (TD wx tb (n+1) all LA Lc ls3 WA Wc (putT ws2 n mask 1))∧Hid (∀mk,mk<all→atV ls3 n mk=if mk=mask then pSum m mask j else if mk<mask then last m mk else 0)∧Hid (Below (tb+1) wL wx)) (fun sj _=>k-(RowKit.intOf sj).toNat)
     case atStart=>exact⟨0,ls2,Nat.zero_le _,rfl,HT1,HV1,HB1X⟩
     case round=>
      clear HT1 HV1 HB1X s0 y0 f0 c5 hX1 d2;obtain⟨j,ls3,hj,rfl,HT3,HV3,HB3⟩:=hrel;have j0:(0:Int)≤(j:Int):=by omega
      by_cases hjk:j<k
      ·have HJ:=hid hjk;obtain⟨cb,co,cv,rfl,_,hcv,cj⟩:=(HTS.out.keep HB3.out).col.i (i:=j) (by rw[HK.out];exact hjk);have hcv2:m.col.getD j 0=cv:=by rw[List.getD_eq_getElem?_getD,hcv];rfl
       have hcr:0≤cv∧cv≤450:=HZ.out.b.col cv (List.mem_of_getElem? hcv);have hps:=pSum_rng HZ.out.b mask j;have HPS:=hid (pSum_succ m mask j);rw[hcv2]at HPS;have hbit:=bit_at mask j (by have:=HMA.out;omega);have hb01:bitN mask j=1∧mask.testBit j=true∨bitN mask j=0∧mask.testBit j=false:=by
        unfold bitN;cases mask.testBit j
        ·exact .inr ⟨rfl,rfl⟩
        ·exact .inl ⟨rfl,rfl⟩
       have j1:(j:Int)<(k:Int):=by omega
       have j2:decide (j<k)=true:=decide_eq_true hjk;have j64:(j:Int)≤64:=by omega
       obtain⟨bt,hbt⟩:∃b,bitN mask j=b:=⟨_,rfl⟩;obtain⟨tv,htv⟩:∃b,mask.testBit j=b:=⟨_,rfl⟩;rw[hbt,htv]at hb01;rw[hbt]at hbit;rw[htv]at HPS;obtain⟨lo,lb,kl,hLA,r0,hlb,al,xl,fl⟩:=HT3.out.lAt (i:=n) (Nat.lt_succ_self n) ha0;have x0:=xl mask HMA.out;rw[HV3.out mask HMA.out,if_pos rfl]at x0;have f0:=fl mask;have c4:=HT3.out.c4;rw[hLA]at c4;obtain⟨ps,hpsv⟩:∃q,pSum m mask j=q:=⟨_,rfl⟩;rw[hpsv]at x0 hps HPS;have HPV:=hid hpsv;have e1:IntKind.i64.wrap (ps+cv)=ps+cv:=IntWalk.i64_in _ (by omega);have HX:Hid ((ls3.getD n default).A=some ⟨lb,0,none⟩):=hid al;have HLB:=hid hlb;clear hj hjk hcv hcv2 hbt htv hpsv xl fl al hps;rcases hb01 with⟨rfl,rfl⟩|⟨rfl,rfl⟩
       ·have HVN:Hid (∀mk,mk<all→atV ls3 n mk=if mk=mask then pSum m mask (j+1)else if mk<mask then last m mk else 0):=hid (fun mk hmk=>by
         rw[HV3.out mk hmk];by_cases e:mk=mask
         ·rw[if_pos e,if_pos e,HPS.out,if_pos rfl,Int.add_zero,HPV.out]
         ·rw[if_neg e,if_neg e])
        go_wp2_with fail
        go_roundw
        case rel=>exact⟨j+1,ls3,HJ.out,by go_num,HT3,HVN,HB3⟩
        case measure=>exact meas3 HJ.out
       ·have HTN:=hid (HT3.out.setL (Nat.lt_succ_self n) HMA.out HX.out (ps+cv));have HBN:=hid (HB3.out.setCell (p:=⟨lb,mask,none⟩) HLB.out (.int .i64 (ps+cv)));have HVN:Hid (∀mk,mk<all→atV (putT ls3 n mask (ps+cv)) n mk=if mk=mask then pSum m mask (j+1)else if mk<mask then last m mk else 0):=hid (fun mk hmk=>by
         rw[atV_put HT3.out.sl (Nat.lt_succ_self n) HMA.out];by_cases e:mk=mask
         ·rw[if_pos ⟨rfl,e⟩,if_pos e,HPS.out];rfl
         ·rw[if_neg (fun h=>e h.2),if_neg e,HV3.out mk hmk,if_neg e])
        go_wp2_with fail
        go_roundw
        case rel=>exact⟨j+1,_,HJ.out,by go_num,HTN,HVN,HBN⟩
        case measure=>exact meas3 HJ.out
      ·obtain rfl:j=k:=by omega
       have HVN:Hid (∀mk,mk<all→atV ls3 n mk=if mk<mask+1 then last m mk else 0):=hid (fun mk hmk=>by
        rw[HV3.out mk hmk];by_cases e:mk=mask
        ·rw[if_pos e,if_pos (by omega),e,←pSum_last,HK.out]
        ·rw[if_neg e];by_cases e2:mk<mask
         ·rw[if_pos e2,if_pos (by omega)]
         ·rw[if_neg e2,if_neg (by omega)])
       go_wp2_with fail
       go_roundw
       case rel=>exact⟨mask+1,ls3,_,HMA.out,by go_num,HT3,HVN,HB3⟩
       case measure=>exact meas3 HMA.out
    ·obtain rfl:mask=all:=by omega
     have HT0:Hid (∀r,n≤r→r≤n→∀mk,mk<mask→atV ls2 r mk=tab m fixed (n-r) mk):=hid (fun r h1 h2 mk hmk=>by
      have e:r=n:=by omega
      subst e;rw[HV.out mk hmk,if_pos hmk,Nat.sub_self];rfl)
     have wn1:IntKind.i64.wrap ((n:Int)-1)=(n:Int)-1:=IntWalk.i64_in _ (by omega);have HTDX:=hid HTD.out;clear hma hm HV HTD;go_wp2_with fail
     go_loopw [11] (fun si wx=>∃(d:Nat) (ls4 ws4:List (Gp Int)),d≤n∧si=.int .i64 ((d:Int)-1)∧Hid (TD wx tb (n+1) mask LA Lc ls4 WA Wc ws4)∧Hid (∀r,d≤r→r≤n→∀mk,mk<mask→atV ls4 r mk=tab m fixed (n-r) mk)∧Hid (Below (tb+1) wL wx)) (fun si _=>(RowKit.intOf si+1).toNat)
     case atStart=>exact⟨n,ls2,ws2,Nat.le_refl _,rfl,HTDX,HT0,HB⟩
     case round=>
      clear HTDX HT0;obtain⟨w4,hw4⟩:∃wo,wo=wr:=⟨_,rfl⟩;obtain⟨d,ls4,ws4,hd,rfl,HTD,HV,HB⟩:=hrel;rw[←hw4]at HTD HB ⊢;clear hw4;by_cases hd0:0<d
      ·obtain⟨i,rfl⟩:∃i,d=i+1:=⟨d-1,by omega⟩;have HIN:=hid (show i<n by omega);have HDM:Hid ((RowKit.intOf (.int .i64 (((i:Nat):Int)-1))+1).toNat<(RowKit.intOf (.int .i64 (i:Int))+1).toNat):=hid (by simp only[RowKit.intOf];omega);rw[show(((i+1:Nat):Int)-1)=(i:Int) by omega];have i0:(0:Int)≤(i:Int):=by omega
       have i9:IntKind.i64.wrap ((i:Int)-1)=(i:Int)-1:=IntWalk.i64_in _ (by omega);have HT0:Hid (∀mk,mk<0→atV ls4 i mk=tab m fixed (n-i) mk):=hid (fun mk h=>absurd h (Nat.not_lt_zero _));clear hd hd0;go_wp2_with fail
       go_loopw [99] (fun sm wx=>∃(q:Nat) (ls5 ws5:List (Gp Int)),q≤mask∧sm=.int .i64 q∧Hid (TD wx tb (n+1) mask LA Lc ls5 WA Wc ws5)∧Hid (∀r,i+1≤r→r≤n→∀mk,mk<mask→atV ls5 r mk=tab m fixed (n-r) mk)∧Hid (∀mk,mk<q→atV ls5 i mk=tab m fixed (n-i) mk)∧Hid (Below (tb+1) wL wx)) (fun sm _=>mask-(RowKit.intOf sm).toNat)
       case atStart=>exact⟨0,ls4,ws4,Nat.zero_le _,rfl,HTD,HV,HT0,HB⟩
       case round=>
        clear HTD HV HT0 HB;obtain⟨q,ls5,ws5,hq,rfl,HTD,HV,HV0,HB⟩:=hrel;by_cases hqm:q<mask
        ·have HQ:=hid hqm;have q0:(0:Int)≤(q:Int):=by omega
         have q1:(q:Int)<(mask:Int):=by omega
         have FC:=hid (fill_any' (n:=n) (all:=mask) HN.out (by rw[HK.out];exact HALL.out) HZ.out HFX.out (HTS.out.keep HB.out) HTD.out HIN.out hqm (fun mk hmk=>HV.out (i+1) (Nat.le_refl _) HIN.out mk hmk));clear hq hqm;go_wp2_with fail
         with_reducible refine FC.out.mono ?_
         rintro e w5 ⟨rfl,v5,hT5,hb5⟩;have HT5:=hid hT5;have HB5:=hid (HB.out.trans hb5);have HV5:Hid (∀r,i+1≤r→r≤n→∀mk,mk<mask→atV (putT ls5 i q (tab m fixed (n-i) q)) r mk=tab m fixed (n-r) mk):=hid (fun r h1 h2 mk hmk=>by
          rw[atV_put HTD.out.sl (Nat.lt_succ_of_lt HIN.out) HQ.out,if_neg (by omega)];exact HV.out r h1 h2 mk hmk)
         have HV6:Hid (∀mk,mk<q+1→atV (putT ls5 i q (tab m fixed (n-i) q)) i mk=tab m fixed (n-i) mk):=hid (fun mk hmk=>by
          rw[atV_put HTD.out.sl (Nat.lt_succ_of_lt HIN.out) HQ.out];by_cases e:mk=q
          ·rw[if_pos ⟨rfl,e⟩,e]
          ·rw[if_neg (fun h=>e h.2)];exact HV0.out mk (by omega))
         clear hT5 hb5 FC;go_wp2_with fail
         go_roundw
         case rel=>exact⟨q+1,_,_,HQ.out,by go_num,HT5,HV5,HV6,HB5⟩
         case measure=>exact meas3 HQ.out
        ·obtain rfl:q=mask:=by omega
         have HV7:Hid (∀r,i≤r→r≤n→∀mk,mk<q→atV ls5 r mk=tab m fixed (n-r) mk):=hid (fun r h1 h2 mk hmk=>by
          by_cases e:r=i
          ·rw[e];exact HV0.out mk hmk
          ·exact HV.out r (by omega) h2 mk hmk)
         go_wp2_with fail
         go_roundw
         case rel=>exact⟨i,ls5,ws5,Nat.le_of_lt HIN.out,rfl,HTD,HV7,HB⟩
         case measure=>exact HDM.out
      ·obtain rfl:d=0:=by omega
       rw[show(((0:Nat):Int)-1)= -1 from rfl];go_wp2_with fail
       go_ret;have hbz:Below w.heap.size w wL:=HBW2.out;exact⟨tb,LA,Lc,ls4,WA,Wc,ws4,rfl,HTS.out.keep HB.out,by rw[HK.out,HALL.out];unfold Mat.M.n;rw[HN.out];exact HTD.out,fun r hr mk hmk=>by
        rw[HK.out,HALL.out]at hmk;unfold Mat.M.n at hr ⊢;rw[HN.out]at hr ⊢;exact HV.out r (Nat.zero_le _) hr mk hmk,hbz.trans (HB.out.mono (Nat.le_succ_of_le HWL.out)),HWL.out⟩
end Go.Proofs.YtimffppffbideaaGreatDoor
