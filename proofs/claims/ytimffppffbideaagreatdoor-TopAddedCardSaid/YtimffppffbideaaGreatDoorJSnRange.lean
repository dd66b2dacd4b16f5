import Derived.Test.YtimffppffbideaaGreatDoorSnMerge
import Derived.Shelf.RegionOpen
import Derived.OwnWalkIn
import Derived.LoopNIn
import Derived.LoopIn
set_option linter.unusedSimpArgs false
set_option linter.unusedVariables false
set_option maxRecDepth 100000
set_option maxHeartbeats 8000000
namespace Go.Proofs.YtimffppffbideaaGreatDoor
section
open Go.RowKit Go.Lib
def SeqSeen {α:Type}(n:Nat)(P:Program)(gf:Nat)(lb:Array Value)(encs:α→Array Value)(Kp:World→World→Prop)(X:α→World→Prop)(S:List α→Prop)(N:Nat)(w:World):Prop:=
 ∀(l:Nat) (J:List α→World→Prop) (W:World),Below w.heap.size w W→AbidesFrom W.heap.size J→
  (∀pre x W1,J pre W1→X x W1→pre.length<N→YieldAt Fence.wide (n-1) P l (encs x) W1 fun e W'=>e=.returned (.bool true)∧J (pre++[x]) W'∧Kp W1 W')→
  J [] W→CallsIn Fence.wide n P gf (#[.func (.yield l) #[] #[]]++lb) W fun e W'=>(∃v,e=.returned v)∧∃xs,S xs∧J xs W'
theorem range_seen {P:Program}{α:Type}{g:Operand}{ps:Array Tmp}{assign body:Code}{Q:Exit→Act→World→Prop}{a:Act}{w:World}{n:Nat}(h1:1≤n){gf:Nat}{lb:Array Value}
  (hg:a.eval g=.func (.func gf) #[] lb) (eg:∀args w,(callFunc gf args).run P w=.ok (.enter gf args) w) {encs:α→Array Value} (hps:∀x,(encs x).size=ps.size) {Kp:World→World→Prop} {X:α→World→Prop} {S:List α→Prop} {N:Nat}
  (hseq:SeqSeen (n-1) P gf lb encs Kp X S N w) (hKt:∀{A B C:World},Kp A B→Kp B C→Kp A C) (hKb:∀(W:World) (l:Nat) (o o':Obj),w.heap.size≤l→W.heap[l]? =some o→o.isCells=false→Kp W (W.putObj l o'))
  (I:List α→World→Prop) (hI:OwnFrom w.heap.size I) (hX:OwnFrom w.heap.size X) (h0:I [] w) (a1:α→Act)
  (hassign:∀(l:Nat) (x:α) (W:World) (K:Act→World→Prop),K (a1 x) W→assign.wpIn (Fence.wide.inRound l) (n-1-1) P (Exit.then K (fun _ _ _=>False)) {tmps:=(ps.zip (encs x)).foldl (fun t (p,v)=>t.setIfInBounds p v) a.tmps,defers:=[]} W)
  (hbody:∀(l:Nat) (pre:List α) (x:α) (W:World),w.heap.size≤l→I pre W→X x W→pre.length<N→body.wpIn (Fence.wide.inRound l) (n-1-1) P (fun e _ W'=>e=.normal∧KeepsFrom w.heap.size W W'∧Kp W W'∧I (pre++[x]) W') (a1 x) W)
  (hdone:∀(D:Nat) (xs:List α) (W:World),w.heap.size≤D→S xs→I xs W→W.heap[D]? =some (.deferred (some []))→Q .normal {a with defers:={target:=.collected D,args:=#[]}::a.defers} W):
  (Code.rangeFunc g ps assign body).wpIn Fence.wide n P Q a w:=by
 refine wpIn_rangeFunc fun fn hfn=> ?_;obtain⟨d,hd⟩:∃d,w.heap.size=d:=⟨_,rfl⟩;obtain⟨rc,hrc⟩:∃rc:LoopState→Loop,rc=fun st=>{state:=st,pending:=none,fn,tmps:=a.tmps,params:=ps,assign,body,defers:=d}:=⟨_,rfl⟩;obtain⟨W1,hW1⟩:∃W1,(w.alloc (.deferred (some []))).alloc (.loop (rc .ready))=W1:=⟨_,rfl⟩;have hent:(Instr.enterLoop fn a.tmps ps assign body none).run P w=.ok (d+1,[{target:=.collected d,args:=#[]}]) W1:=by
  rw[←hW1,hrc,←hd];exact run_enterLoop_outer _ _ _ _ _
 have hL1:W1.heap[d+1]? =some (.loop (rc .ready)):=by
  rw[←hW1,←hd];have:=World.alloc_heap_new (w.alloc (.deferred (some []))) (.loop (rc .ready))
  rwa [World.size_alloc]at this
 have hD1:W1.heap[d]? =some (.deferred (some [])):=by
  rw[←hW1,←hd];exact(Below.heap_alloc _ _ _ (by simp)).trans (World.alloc_heap_new w _)
 have hs1:W1.heap.size=d+2:=by rw[←hW1,←hd];simp
 have hb1:Below w.heap.size w W1:=by
  rw[←hW1];exact(((Below.refl _ w).alloc (Nat.le_refl _) _).alloc (by simp) _)
 have hi1:I [] W1:=by rw[←hW1];exact hI.alloc _ (hI.alloc _ h0)
 have busy:∀{st:LoopState},rc st={rc .ready with state:=st}:=fun{st}=>by rw[hrc]
 refine⟨d+1,_,W1,{target:=.fn (.func gf) lb,args:=#[.func (.yield (d+1)) #[] #[]]},W1,gf,#[.func (.yield (d+1)) #[] #[]]++lb,W1,hent,?_,?_,?_,fun _=>h1,?_⟩
 ·simp only[resolve,hg];simp[go_sem]
 ·intro f' _;exact trivial
 ·simp[invoke,go_sem,eg]
 have turn:∀{A:World} {row:Option Nat},(∀r,row=some r→W1.heap.size≤r∧∃o:Obj,A.heap[r]? =some o∧o.isWalk=true)→∀r,row=some r→w.heap.size≤r∧∃o:Obj,A.heap[r]? =some o∧o.isCells=false:=fun h r e=>by
  obtain⟨q1,o,q2,q3⟩:=h r e;exact⟨by omega,o,q2,Obj.not_cells_of_walk q3⟩
 have hcall:=hseq (d+1) (fun pre W=>I pre W∧W.heap[d+1]? =some (.loop (rc .ready))∧W.heap[d]? =some (.deferred (some []))) W1 hb1
  (fun s A B row hs hgr hr=>⟨hI s A B row hs.1 hgr (turn hr),(grownBy_keeps hgr (fun r e=>(hr r e).2) hs.2.1 rfl).trans hs.2.1,(grownBy_keeps hgr (fun r e=>(hr r e).2) hs.2.2 rfl).trans hs.2.2⟩) ?_ ⟨hi1,hL1,hD1⟩
 ·refine hcall.mono ?_;rintro e W2 ⟨⟨v,rfl⟩,xs,hS,hi,hl,hk⟩;refine⟨none,_,by have:=run_endLoop (P:=P) hl (by rw[hrc];simp);rw[hrc]at this;exact this,hdone d xs _ (by omega) hS (hI.putObj _ hi (by omega) hl rfl) ((World.putObj_heap_other (by omega)).trans hk)⟩
 ·rintro pre x W ⟨hi,hl,hk⟩ hx hN;have hlt:=(Array.getElem?_eq_some_iff.1 hl).1;have hy:=run_yield (P:=P) (args:=encs x) hl (by rw[hrc];exact hps x);rw[hrc]at hy;refine⟨fn,_,assign,body,hy,roundIn_of_wpIn hfn (hassign _ x W _ ?_)⟩;refine⟨_,run_beginRound hl (by rw[hrc]),?_⟩;obtain⟨Wb,hWb⟩:∃Wb,W.putObj (d+1) (.loop {rc .ready with state:=.busy})=Wb:=⟨_,rfl⟩;have hlb:Wb.heap[d+1]? =some (.loop {rc .ready with state:=.busy}):=by rw[←hWb];exact World.putObj_heap_same hlt
  have hkb:Wb.heap[d]? =some (.deferred (some [])):=by rw[←hWb];exact(World.putObj_heap_other (by omega)).trans hk
  have hib:I pre Wb:=by rw[←hWb];exact hI.putObj _ hi (by omega) hl rfl
  have hxb:X x Wb:=by rw[←hWb];exact hX.putObj _ hx (by omega) hl rfl
  have hKw:Kp W Wb:=by rw[←hWb];exact hKb _ _ _ _ (by omega) hl rfl
  rw[hWb];refine wpIn_mono (hbody _ pre x Wb (by omega) hib hxb hN) ?_;rintro e a3 W3 ⟨rfl,hk3,hKp3,hi3⟩;have hl3:=hk3.same _ _ (by omega) hlb rfl;have hd3:=hk3.same _ _ (by omega) hkb rfl;have hr:=run_endRound (P:=P) none hl3;have hl4:(W3.putObj (d+1) (.loop (rc .ready))).heap[d+1]? =some (.loop (rc .ready)):=World.putObj_heap_same (Array.getElem?_eq_some_iff.1 hl3).1;refine⟨_,_,hr,rfl,⟨hI.putObj _ hi3 (by omega) hl3 rfl,?_,(World.putObj_heap_other (by omega)).trans hd3⟩,hKt hKw (hKt hKp3 (hKb _ _ _ _ (by omega) hl3 rfl))⟩;have:=hl4
  rw[hrc]at this ⊢;exact this
end
section
open Go.RowKit Go.Lib Go.Sort Go.Shelf
open Mat
def blkOf (W:World)(cb:Nat):Option Nat:=match W.cell? ⟨cb,0,none⟩with
 |some (.slice (some ad) _ _)=>some ad.block
 |_=>none
structure KpF (cb:Nat)(A B:World):Prop where
 size:A.heap.size≤B.heap.size
 loc:∀g,blkOf B cb=some g→blkOf A cb=some g∨A.heap.size≤g
 same:∀(b:Nat) (o:Obj),A.heap[b]? =some o→o.isCells=true→b≠cb→blkOf A cb≠some b→B.heap[b]? =some o
theorem KpF.refl (cb:Nat)(A:World):KpF cb A A:=⟨Nat.le_refl _,fun _ h=>Or.inl h,fun _ _ h _ _ _=>h⟩
theorem KpF.trans {cb:Nat}{A B C:World}(h:KpF cb A B)(k:KpF cb B C):KpF cb A C:=by
 refine⟨Nat.le_trans h.size k.size,fun g hg=> ?_,fun b o ho hc hb hn=> ?_⟩
 ·rcases k.loc g hg with q|q
  ·exact h.loc g q
  ·exact Or.inr (Nat.le_trans h.size q)
 ·refine k.same b o (h.same b o ho hc hb hn) hc hb fun q=> ?_;rcases h.loc b q with r|r
  ·exact hn r
  ·have:=(Array.getElem?_eq_some_iff.1 ho).1;omega
theorem blkOf_same {W W':World}{cb:Nat}(h:W'.heap[cb]? =W.heap[cb]?):blkOf W' cb=blkOf W cb:=by
 unfold blkOf;rw[World.cell?_of_block (a:=⟨cb,0,none⟩) h]
theorem KpF.putObj {cb l:Nat}{W:World}{o o':Obj}(hl:cb<l)(ho:W.heap[l]? =some o)(hc:o.isCells=false):KpF cb W (W.putObj l o'):=by
 refine⟨by simp,fun g hg=> ?_,fun b q hq hqc _ _=> ?_⟩
 ·rw[blkOf_same (World.putObj_heap_other (by omega))]at hg;exact Or.inl hg
 ·rw[World.putObj_heap_other]
  ·exact hq
  ·rintro rfl;rw[ho]at hq;injection hq with hq;subst hq;rw[hc]at hqc;cases hqc
def encX (x:Gp Sn):Array Value:=#[.slice x.A x.l.length x.c]
def SeenB (W:World)(A:Option Addr):Prop:=∃b off cs fr,A=some ⟨b,off,none⟩∧W.heap[b]? =some (.cells cs 84 fr)
def SeenX (x:Gp Sn)(W:World):Prop:=x.l≠[]∧Rd encSn 11 W W.heap.size x.A x.l∧SeenB W x.A
theorem Own.seenB {W:World}{base c:Nat}{A:Option Addr}{l:List Sn}(h:Own 84 encSn 11 W base A c l)(hl:l≠[]):SeenB W A:=by
 rcases h.2 with⟨_,q⟩|⟨g,cap,cur,hv,_,hh,_⟩
 ·exact absurd (List.eq_nil_of_length_eq_zero q) hl
 ·injection hv with q;exact⟨g,0,cur,(0,0),q,hh⟩
theorem cells_of_cell {W:World}{b j:Nat}{u:Value}(h:W.cell? ⟨b,j,none⟩=some u):∃o,W.heap[b]? =some o∧o.isCells=true:=by
 obtain⟨c,e,fr,hb,_⟩:=Sort.cells_of_cell? h;exact⟨_,hb,rfl⟩
theorem Rd.blk {α:Type}{enc:α→List Value}{k:Nat}{W W':World}{B:Nat}{A:Option Addr}{l:List α}(hE:Enc enc k)(hk:0<k)(h:Rd enc k W B A l)(hs:∀b o,b<B→(∃off,A=some ⟨b,off,none⟩)→W.heap[b]? =some o→o.isCells=true→W'.heap[b]? =some o):Rd enc k W' B A l:=by
 intro hne;obtain⟨b,off,hA,hb,hc⟩:=h hne;obtain⟨x,hx⟩:∃x,l[0]? =some x:=⟨l[0]'(List.length_pos_iff.2 hne),List.getElem?_eq_getElem _⟩;obtain⟨u,hu⟩:∃u,(enc x)[0]? =some u:=⟨(enc x)[0]'(by rw[hE.1];exact hk),List.getElem?_eq_getElem _⟩;obtain⟨o,ho,hoc⟩:=cells_of_cell (hc 0 x hx 0 u hu);have hs2:=hs b o hb ⟨off,hA⟩ ho hoc;exact⟨b,off,hA,hb,fun i y hy j v hv=>(World.cell?_of_block (a:=⟨b,_,none⟩) (hs2.trans ho.symm)).trans (hc i y hy j v hv)⟩
theorem seenX_from (B:Nat):OwnFrom B SeenX:=by
 intro x W W' row h hg hr;have key:∀(b:Nat) (o:Obj),W.heap[b]? =some o→o.isCells=true→W'.heap[b]? =some o:=fun b o ho hoc=>by
  refine(hg.block b (Array.getElem?_eq_some_iff.1 ho).1 fun e=> ?_).trans ho;obtain⟨_,o2,h2,h3⟩:=hr b e.symm;rw[ho]at h2;injection h2 with h2;subst h2;rw[hoc]at h3;cases h3
 obtain⟨b,off,cs,fr,hA,hh⟩:=h.2.2;exact⟨h.1,Rd.more (Rd.blk encSn_ok (by omega) h.2.1 fun b o _ _ ho hoc=>key b o ho hoc) hg.size,b,off,cs,fr,hA,key b _ hh rfl⟩
theorem frames_step (gap:Int)(l:List Sn)(s:Sn):groups (frTk gap) (l++[s])=into (frTk gap) s (groups (frTk gap) l):=groups_snoc l s
theorem frames1_seen {A:Option Addr}(c:Nat){l:List Sn}{gap:Int}{lb gb cb:Nat}{w:World}(hlb:lb<w.heap.size)(hgb:gb<w.heap.size)(hcb:cb<w.heap.size)(h1:w.cell? ⟨lb,0,none⟩=some (.slice A l.length c))(h2:w.cell? ⟨gb,0,none⟩=some (.int .i64 gap))(h3:w.cell? ⟨cb,0,none⟩=some (.slice none 0 0))
  (hr:Rd encSn 11 w w.heap.size A l) (hok:∀x∈l,SnOk x) (hl:l.length≤100) (hgap:gap≤1000000000000):
  SeqSeen 5 Tryz.prog 92 #[.pointer (some ⟨lb,0,none⟩),.pointer (some ⟨gb,0,none⟩)] encX (KpF cb) SeenX (fun xs=>GrpR xs (framesV gap l)) 100 w:=by
 intro yl J W hW hJ hY hJ0;refine callsIn_wide.2 ?_;show Calls Tryz.prog 92 #[.func (.yield yl) #[] #[],.pointer (some ⟨lb,0,none⟩),.pointer (some ⟨gb,0,none⟩)] W _
 have y1:W.cell? ⟨lb,0,none⟩=some (.slice A l.length c):=(hW.cell (p:=⟨lb,0,none⟩) hlb).trans h1;have y2:W.cell? ⟨gb,0,none⟩=some (.int .i64 gap):=(hW.cell (p:=⟨gb,0,none⟩) hgb).trans h2;have y3:W.cell? ⟨cb,0,none⟩=some (.slice none 0 0):=(hW.cell (p:=⟨cb,0,none⟩) hcb).trans h3;have hgB:gb<W.heap.size:=Nat.lt_of_lt_of_le hgb hW.size;have HCB:=hid (show cb<W.heap.size from Nat.lt_of_lt_of_le hcb hW.size);have Y2:=hid y2;have HGB:=hid hgB;have Y3:=hid y3;have HOK:=hid hok;have HJ:=hid hJ;have HJ0:=hid hJ0;have HY:=hid hY;have CC:=hid (cloneSn_any c (hr.st hW) (by omega));obtain⟨n,hn⟩:∃n,l.length=n:=⟨_,rfl⟩;rw[hn]at CC y1 hl;have HN:=hid hn;clear hgB hr hok hW hJ hY hJ0 h1 h2 h3 hlb hgb hcb y2 y3;go_enter Tryz.func92,Tryz.ntmps92;go_wp2_with fail
 go_step3
 go_wp2_with fail
 refine CC.out.mono ?_;rintro e w1 ⟨A1,c1,rfl,hown,hb1⟩;have CS:=srtSn_any hown hb1.size (by omega);rw[HN.out]at CS;have CS:=hid CS;have HB1:=hid hb1;have HSL:=hid ((srtS_len l).trans HN.out);have HSO:=hid (show∀x∈srtS l,SnOk x from fun x hx=>HOK.out x ((ordS_ok cmpSn_pre.swo l).perm.mem_iff.1 hx));clear hown hb1 CC y1;go_wp2_with fail
 refine CS.out.mono ?_;rintro e w5 ⟨rfl,hown,hb,hsz5,-⟩;have HBW:=hid (HB1.out.trans hb);have HR:=hid (hown.rd encSn_ok);have HSZ:=hid (Nat.le_trans HB1.out.size hsz5);obtain⟨sl,hsl⟩:∃sl,srtS l=sl:=⟨_,rfl⟩;have HM:=hid (show framesV gap l=groups (frTk gap) sl by rw[←hsl];rfl);rw[hsl]at HR HSL HSO;clear hown hb CS HB1 hsl HN HOK hsz5;go_wp2_with fail
 go_step3
 go_wp2_with fail
 go_loopg [18,5] n (fun G si sg wx=>∃(k:Nat) (A:Option Addr) (c:Nat) (gs:List (Gp Sn)),k+G=n∧si=.int .i64 k∧sg=.slice A gs.length c∧Hid (GrpR gs (groups (frTk gap) (sl.take k)))∧Hid (OwnG 51 84 encSn 11 wx w5.heap.size A c gs)∧Hid (Below w5.heap.size w5 wx))
 case atStart=>exact⟨0,none,0,[],by omega,rfl,rfl,rfl,OwnG.nil _ _,Below.refl _ _⟩
 case round=>
  obtain⟨wo,hwo⟩:∃wo,wo=wr:=⟨_,rfl⟩;obtain⟨k,A9,c9,gs,hk,rfl,rfl,HG,HO,HB⟩:=hrel;rw[←hwo]at HO HB ⊢;clear hwo;have k1:(0:Int)≤(k:Int):=by omega
  by_cases hi:k<n
  ·obtain⟨b,off,x,hA,hbl,hx,hc⟩:=(HR.out.keep HB.out).at_ (i:=k) (by rw[HSL.out];exact hi);have HI:=hid hi;have HX:=hid hx;have HXO:=hid (HSO.out x (List.mem_of_getElem? hx));have HST:=hid (frames_step gap (sl.take k) x);rw[←take_snoc hx]at HST;have HGL:=hid (show gs.length≤n by rw[←vals_len,show vals gs=_ from HG.out];refine Nat.le_trans (groups_len _) ?_;rw[List.length_take];omega);have HGO:=hid (show∀g∈gs,g.l≠[]∧g.l.length≤n∧∀y∈g.l,SnOk y from fun g hg=>by
    have hm:g.l∈groups (frTk gap) (sl.take k):=by rw[←show vals gs=_ from HG.out];exact List.mem_map.2 ⟨g,hg,rfl⟩
    refine⟨groups_ne _ _ _ hm,?_,fun y hy=> ?_⟩
    ·refine Nat.le_trans (groups_mem hm).1 ?_;rw[List.length_take];omega
    ·exact HSO.out y (List.mem_of_mem_take ((groups_mem hm).2 y hy)))
   have k2:(k:Int)<(n:Int):=by omega
   subst hA;obtain⟨sx,hsx⟩:∃sx,sx=x:=⟨_,rfl⟩;have HXV:=hid hsx;obtain⟨⟨s1,s2,s3,s4,s5,s6,s7⟩,s8,s9,s10,s11⟩:=x;have e0:wo.cell? ⟨b,off+k*11,none⟩=some (.string s1):=by simpa using hc 0 _ rfl
   have e1:wo.cell? ⟨b,off+k*11+1,none⟩=some (.int .i64 s2):=hc 1 _ rfl;have e2:wo.cell? ⟨b,off+k*11+2,none⟩=some (.int .i64 s3):=hc 2 _ rfl;have e3:wo.cell? ⟨b,off+k*11+3,none⟩=some (.string s4):=hc 3 _ rfl;have e4:wo.cell? ⟨b,off+k*11+4,none⟩=some (.string s5):=hc 4 _ rfl;have e5:wo.cell? ⟨b,off+k*11+5,none⟩=some (.int .i64 s6):=hc 5 _ rfl;have e6:wo.cell? ⟨b,off+k*11+6,none⟩=some (.int .i64 s7):=hc 6 _ rfl;have e7:wo.cell? ⟨b,off+k*11+7,none⟩=some (.int .i64 s8):=hc 7 _ rfl;have e8:wo.cell? ⟨b,off+k*11+8,none⟩=some (.string s9):=hc 8 _ rfl;have e9:wo.cell? ⟨b,off+k*11+9,none⟩=some (.int .i64 s10):=hc 9 _ rfl;have e10:wo.cell? ⟨b,off+k*11+10,none⟩=some (.int .i64 s11):=hc 10 _ rfl;obtain⟨Y,hY⟩:∃Y,wo.alloc (.cells #[.string s1,.int .i64 s2,.int .i64 s3,.string s4,.string s5,.int .i64 s6,.int .i64 s7,.int .i64 s8,.string s9,.int .i64 s10,.int .i64 s11] 84)=Y:=⟨_,rfl⟩;have HBS:Hid (Blk Y wo.heap.size #[.string s1,.int .i64 s2,.int .i64 s3,.string s4,.string s5,.int .i64 s6,.int .i64 s7,.int .i64 s8,.string s9,.int .i64 s10,.int .i64 s11] 84):=hid (by rw[←hY];exact Blk.new wo _ _);have HBY:Hid (Below wo.heap.size wo Y):=hid (by rw[←hY];exact(Below.refl _ wo).al _);have HOY:Hid (OwnG 51 84 encSn 11 Y w5.heap.size A9 c9 gs):=hid (by rw[←hY];exact HO.out.alloc _);clear hc hbl hx hi hsx;go_wp2_with fail
   go_loopg [24] gs.length (fun G2 si wx=>∃i:Nat,i+G2=gs.length∧si=.int .i64 i∧Hid (Below Y.heap.size Y wx)∧Hid (∀(j:Nat) (g':Gp Sn),j<i→gs[j]? =some g'→frTk gap g'.l sx=false))
   case atStart=>exact⟨0,by omega,rfl,Below.refl _ _,fun j g' h=>absurd h (Nat.not_lt_zero _)⟩
   case round=>
    obtain⟨i,hig,rfl,HBX,HNO⟩:=hrel;have i1:(0:Int)≤(i:Int):=by omega
    by_cases him:i<gs.length
    ·have HIM:=hid him;obtain⟨g,hg⟩:∃g,gs[i]? =some g:=⟨_,List.getElem?_eq_getElem him⟩;have HGI:=hid hg;obtain⟨gn,gl,gok⟩:=HGO.out g (List.mem_of_getElem? hg);have HOX:=hid (HOY.out.keep HBX.out (Nat.le_refl _));have HSX:=hid (HBS.out.below HBX.out HBS.out.lt);have HBZ:=hid (HB.out.st (HBY.out.st HBX.out));obtain⟨ob,hA9,hob1,hob2⟩:=HOX.out.out.exB (by intro q;rw[q]at him;simp at him);subst hA9;have y0:wr.cell? ⟨ob,i,none⟩=some (.slice g.A g.l.length g.c):=by simpa using HOX.out.out.cells encG_ok rfl hg (j:=0) rfl
     have i2:(i:Int)<(gs.length:Int):=by omega
     have i4:decide (i<gs.length)=true:=decide_eq_true him;have hl0:0<g.l.length:=List.length_pos_iff.2 gn;obtain⟨m,hm⟩:∃m,g.l.length=m+1:=⟨g.l.length-1,by omega⟩;obtain⟨yl,hyl⟩:∃y,g.l[m]? =some y:=⟨_,List.getElem?_eq_getElem (by omega)⟩;have HYO:=hid (gok yl (List.mem_of_getElem? hyl));have HTK:=hid (show frTk gap g.l sx=closeB gap yl sx by
      unfold frTk;rw[List.getLastD_eq_getLast?,List.getLast?_eq_getElem?,hm,Nat.add_sub_cancel,hyl];rfl)
     obtain⟨lb2,lo2,x2,hA2,hlb2,hx2,hc2⟩:=((HOX.out.ins g (List.mem_of_getElem? hg)).rd encSn_ok).at_ (i:=m) (by omega);rw[hyl]at hx2;injection hx2 with hx2;subst hx2;have CJ:=hid (fun(X:World)=>close_any yl sx gap HYO.out (by rw[HXV.out];exact HXO.out) hgap X);obtain⟨cr,hcr⟩:∃cr,closeB gap yl sx=cr:=⟨_,rfl⟩;rw[hcr]at HTK CJ;clear hcr;have HM1:=hid hm;have w1:IntKind.i64.wrap ((g.l.length:Int)-1)=(m:Int):=(IntWalk.i64_in _ (by omega)).trans (by omega);have m1:(0:Int)≤(m:Int):=by omega
     have m2:(m:Int)<(g.l.length:Int):=by omega
     have m3:decide (m<g.l.length)=true:=decide_eq_true (by omega);have HGA:=hid hA2;obtain⟨⟨a1,a2,a3,a4,a5,a6,a7⟩,a8,a9,a10,a11⟩:=yl;have hS:(fun X:World=>X.cell? ⟨lb2,lo2+m*11,none⟩=some (.string a1)∧X.cell? ⟨lb2,lo2+m*11+1,none⟩=some (.int .i64 a2)∧X.cell? ⟨lb2,lo2+m*11+2,none⟩=some (.int .i64 a3)∧X.cell? ⟨lb2,lo2+m*11+3,none⟩=some (.string a4)∧X.cell? ⟨lb2,lo2+m*11+4,none⟩=some (.string a5)∧X.cell? ⟨lb2,lo2+m*11+5,none⟩=some (.int .i64 a6)∧X.cell? ⟨lb2,lo2+m*11+6,none⟩=some (.int .i64 a7)∧X.cell? ⟨lb2,lo2+m*11+7,none⟩=some (.int .i64 a8)∧X.cell? ⟨lb2,lo2+m*11+8,none⟩=some (.string a9)∧X.cell? ⟨lb2,lo2+m*11+9,none⟩=some (.int .i64 a10)∧X.cell? ⟨lb2,lo2+m*11+10,none⟩=some (.int .i64 a11)∧Blk X wo.heap.size #[.string s1,.int .i64 s2,.int .i64 s3,.string s4,.string s5,.int .i64 s6,.int .i64 s7,.int .i64 s8,.string s9,.int .i64 s10,.int .i64 s11] 84∧X.cell? ⟨gb,0,none⟩=some (.int .i64 gap)) wr.drew:=by
      refine⟨?_,hc2 1 _ rfl,hc2 2 _ rfl,hc2 3 _ rfl,hc2 4 _ rfl,hc2 5 _ rfl,hc2 6 _ rfl,hc2 7 _ rfl,hc2 8 _ rfl,hc2 9 _ rfl,hc2 10 _ rfl,HSX.out.drew,?_⟩
      ·simpa using hc2 0 _ rfl
      ·exact((HBW.out.st HBZ.out).drew.cell (p:=⟨gb,0,none⟩) HGB.out).trans Y2.out
     have HS:=hid hS;have HLB:=hid hlb2;simp only[SnV]at CJ;rw[HXV.out]at CJ;clear hc2 hlb2 hyl hl0 gn gok hm hS;go_upto_region 9 with fail
     refine wp_region_held_drew (S:=(fun X:World=>X.cell? ⟨lb2,lo2+m*11,none⟩=some (.string a1)∧X.cell? ⟨lb2,lo2+m*11+1,none⟩=some (.int .i64 a2)∧X.cell? ⟨lb2,lo2+m*11+2,none⟩=some (.int .i64 a3)∧X.cell? ⟨lb2,lo2+m*11+3,none⟩=some (.string a4)∧X.cell? ⟨lb2,lo2+m*11+4,none⟩=some (.string a5)∧X.cell? ⟨lb2,lo2+m*11+5,none⟩=some (.int .i64 a6)∧X.cell? ⟨lb2,lo2+m*11+6,none⟩=some (.int .i64 a7)∧X.cell? ⟨lb2,lo2+m*11+7,none⟩=some (.int .i64 a8)∧X.cell? ⟨lb2,lo2+m*11+8,none⟩=some (.string a9)∧X.cell? ⟨lb2,lo2+m*11+9,none⟩=some (.int .i64 a10)∧X.cell? ⟨lb2,lo2+m*11+10,none⟩=some (.int .i64 a11)∧Blk X wo.heap.size #[.string s1,.int .i64 s2,.int .i64 s3,.string s4,.string s5,.int .i64 s6,.int .i64 s7,.int .i64 s8,.string s9,.int .i64 s10,.int .i64 s11] 84∧X.cell? ⟨gb,0,none⟩=some (.int .i64 gap))) (by kernel_rfl) HS.out (fun hHeld=> ?_);have hSS:=HS.out;have bD:Below wr.heap.size wr wr.drew:=(Below.refl wr.heap.size wr).drew;have HBB:=hid (show∀X,Below wr.heap.size wr X→(fun X:World=>X.cell? ⟨lb2,lo2+m*11,none⟩=some (.string a1)∧X.cell? ⟨lb2,lo2+m*11+1,none⟩=some (.int .i64 a2)∧X.cell? ⟨lb2,lo2+m*11+2,none⟩=some (.int .i64 a3)∧X.cell? ⟨lb2,lo2+m*11+3,none⟩=some (.string a4)∧X.cell? ⟨lb2,lo2+m*11+4,none⟩=some (.string a5)∧X.cell? ⟨lb2,lo2+m*11+5,none⟩=some (.int .i64 a6)∧X.cell? ⟨lb2,lo2+m*11+6,none⟩=some (.int .i64 a7)∧X.cell? ⟨lb2,lo2+m*11+7,none⟩=some (.int .i64 a8)∧X.cell? ⟨lb2,lo2+m*11+8,none⟩=some (.string a9)∧X.cell? ⟨lb2,lo2+m*11+9,none⟩=some (.int .i64 a10)∧X.cell? ⟨lb2,lo2+m*11+10,none⟩=some (.int .i64 a11)∧Blk X wo.heap.size #[.string s1,.int .i64 s2,.int .i64 s3,.string s4,.string s5,.int .i64 s6,.int .i64 s7,.int .i64 s8,.string s9,.int .i64 s10,.int .i64 s11] 84∧X.cell? ⟨gb,0,none⟩=some (.int .i64 gap)) X from fun X hX=>by
      obtain⟨f1,f2,f3,f4,f5,f6,f7,f8,f9,f10,f11,f12,f13⟩:=HS.out;have tr:∀j (v:Value),wr.drew.cell? ⟨lb2,j,none⟩=some v→X.cell? ⟨lb2,j,none⟩=some v:=fun j v hv=>(hX.cell (p:=⟨lb2,j,none⟩) HLB.out).trans hv;exact⟨tr _ _ f1,tr _ _ f2,tr _ _ f3,tr _ _ f4,tr _ _ f5,tr _ _ f6,tr _ _ f7,tr _ _ f8,tr _ _ f9,tr _ _ f10,tr _ _ f11,HSX.out.below hX HSX.out.lt,(hX.cell (p:=⟨gb,0,none⟩) (by show gb<wr.heap.size;have:=HGB.out;have:=HBW.out.size;have:=HBZ.out.size;omega)).trans f13⟩)
     clear HS;obtain⟨V0,hV0⟩:∃V,wr.drew=V:=⟨_,rfl⟩;rw[hV0]at hHeld hSS bD ⊢;clear hV0;change wpAnyH _ _ _ _ _ 9 _ _ _;refine tk 0 (h:= ?_);refine tk 1 (h:= ?_);refine tk 2 (h:= ?_);refine tk 3 (h:= ?_);refine tk 4 (h:= ?_);refine tk 5 (h:= ?_);refine wpAnyH_take (i:=6) (v:=.agg #[.string s1,.int .i64 s2,.int .i64 s3,.string s4,.string s5,.int .i64 s6,.int .i64 s7,.int .i64 s8,.string s9,.int .i64 s10,.int .i64 s11]) (by simp only[List.getElem?_toArray,List.getElem?_cons_zero,List.getElem?_cons_succ];rfl) (by kernel_rfl) (by kernel_rfl) (by kernel_rfl) (by intro _ _ _ h;exact h) (yieldsIf_boxLoad (by rfl) rfl rfl (fun _ hw=>hw.2.2.2.2.2.2.2.2.2.2.2.1) ⟨_,Tryz.underlying84,by kernel_rfl⟩) (by assumption) ?_;refine td (h:= ?_);refine tk 7 (h:= ?_);refine rd1 8 (h:=fun K hK=> ?_);rw[if_pos (by rfl)];go_wp2_with fail
     refine(CJ.out V0).mono ?_;rintro e W6 ⟨rfl,hbn⟩;have bD:=bD.st hbn;clear hbn;go_wp2_with fail
     refine hK.out _ _ (HBB.out _ bD) (fun hHeld=> ?_);clear hK K;refine td (h:= ?_);refine wpAnyH_done (by kernel_rfl) ?_ _;have HBX6:=hid (HBX.out.st bD);have HO6:=hid (HOX.out.keep bD (Nat.le_refl _));have HS6:=hid (HSX.out.below bD HSX.out.lt);have HB6:=hid (HBZ.out.st bD);clear hHeld hSS bD HBB CJ y0 w1 m1 m2 m3;have wi:IntKind.i64.wrap ((i:Int)+1)=(i:Int)+1:=IntWalk.i64_in _ (by have:=HGL.out;have:=HIM.out;omega);cases cr
     ·have HF:=hid HTK.out;go_wp2_with fail
      go_roundg (gs.length-(i+1))
      case measure=>omega
      case rel=>exact⟨i+1,by have:=HIM.out;omega,by have:=HGL.out;have:=HIM.out;go_num,HBX6.out,fun j g' hj hg'=>by
       by_cases e:j=i
       ·subst e;rw[HGI.out]at hg';injection hg' with hg';subst hg';exact HF.out
       ·exact HNO.out j g' (by omega) hg'⟩
     ·have hsx:=HXV.out;subst hsx;have HF:=hid HTK.out;have HIN:=hid (fun(A2:Option Addr) (c2:Nat)=>show vals (gs.set i ⟨A2,c2,g.l++[(⟨⟨s1,s2,s3,s4,s5,s6,s7⟩,s8,s9,s10,s11⟩:Sn)]⟩)=groups (frTk gap) (sl.take (k+1)) by
       rw[HST.out,vals_set,←show vals gs=_ from HG.out];exact(ix_into HGI.out HF.out HNO.out).symm)
      have hgll:g.l.length≤100:=by have:=(HGO.out g (List.mem_of_getElem? HGI.out)).2.1;omega
      have hbs:w5.heap.size≤W6.heap.size:=HB6.out.size;have HOI:=HO6.out.ins g (List.mem_of_getElem? HGI.out);rw[HGA.out]at HOI;have HOI:=hid HOI;go_wp2_with(first|(refine wpList_boxLoad rfl (ty:=84) (x:=.tmp 7) (cs:=#[.string s1,.int .i64 s2,.int .i64 s3,.string s4,.string s5,.int .i64 s6,.int .i64 s7,.int .i64 s8,.string s9,.int .i64 s10,.int .i64 s11]) rfl HS6.out rfl ⟨_,Tryz.underlying84,by kernel_rfl⟩ ?_)|((at_builtin;refine wpList_app1a rfl (.tmp 40) (.tmp 42) tySn encSn_ok rfl (⟨⟨s1,s2,s3,s4,s5,s6,s7⟩,s8,s9,s10,s11⟩:Sn) rfl _ rfl (by simp) HOI.out rfl (by first|rfl|assumption|simp) (by first|omega|(simp;omega)) (by first|omega|(simp;omega)) hbs ?_;intro A7 c7 w7 hown7 hb7 hs7 hf7 hl7;have hbel7:=(HB6.out).trans hb7);have hOo:Own 51 encG 1 w7 w5.heap.size (some ⟨ob,0,none⟩) c9 gs:=HO6.out.out.keepB (fun x hx hxl=>hf7 x hxl (fun y hy=>(HO6.out.apart sne (List.mem_of_getElem? HGI.out) hx (HGA.out.trans hy)).symm));have y2:w7.cell? ⟨ob,i,none⟩=some (.slice g.A g.l.length g.c):=(by simpa using hOo.cells encG_ok rfl HGI.out (j:=0) rfl);have z2:=hOo.frozen rfl i;have HP:=hid (HO6.out.put sne HGI.out hown7 (by rw[HGA.out];exact hf7) (by rw[HGA.out];exact hl7) rfl);have HB2:=hid ((HB6.out.trans hb7).setCell (p:=⟨ob,i,none⟩) hob1 (.slice A7 (g.l++[(⟨⟨s1,s2,s3,s4,s5,s6,s7⟩,s8,s9,s10,s11⟩:Sn)]).length c7))))
      clear hown7 hb7 hs7 hf7 hl7 hbel7 hOo y2 z2;rw[List.length_append]at HP HB2;go_roundg (n-(k+1))
      case measure=>have:=HI.out;omega
      case rel=>exact⟨k+1,_,c9,gs.set i (⟨A7,c7,g.l++[(⟨⟨s1,s2,s3,s4,s5,s6,s7⟩,s8,s9,s10,s11⟩:Sn)]⟩:Gp Sn),by have:=HI.out;omega,by go_num,by rw[List.length_set],HIN.out A7 c7,HP.out,HB2.out⟩
    ·obtain rfl:i=gs.length:=by omega
     have HIN:=hid (show vals (gs++[(⟨some ⟨wr.heap.size,0,none⟩,1,[sx]⟩:Gp Sn)])=groups (frTk gap) (sl.take (k+1)) by
      rw[HST.out,vals_snoc,←show vals gs=_ from HG.out,←HXV.out];refine(ix_none fun g hg=> ?_).symm;obtain⟨j,hj⟩:=List.mem_iff_getElem?.1 hg;exact HNO.out j g (List.getElem?_eq_some_iff.1 hj).1 hj)
     have HO6:=hid (HOY.out.keep HBX.out (Nat.le_refl _));have HS6:=hid (HBS.out.below HBX.out HBS.out.lt);have HB6:=hid (HB.out.st (HBY.out.st HBX.out));obtain⟨V1,hV1⟩:∃V,wr.alloc (.cells #[.string s1,.int .i64 s2,.int .i64 s3,.string s4,.string s5,.int .i64 s6,.int .i64 s7,.int .i64 s8,.string s9,.int .i64 s10,.int .i64 s11] 84)=V:=⟨_,rfl⟩;have sV:V1.heap.size=wr.heap.size+1:=by rw[←hV1];simp
     have hbs:w5.heap.size≤wr.heap.size:=HB6.out.size;have HLit:Hid (Own 84 encSn 11 V1 w5.heap.size (some ⟨wr.heap.size,0,none⟩) 1 [sx]):=hid (by
      have:=Own.lit (e:=84) (cs:=#[.string s1,.int .i64 s2,.int .i64 s3,.string s4,.string s5,.int .i64 s6,.int .i64 s7,.int .i64 s8,.string s9,.int .i64 s10,.int .i64 s11]) wr w5.heap.size [sx] (g:=wr.heap.size) encSn_ok (by rw[HXV.out];rfl) rfl hbs (by simp)
      rwa [hV1]at this)
     have HBV:Hid (Below w5.heap.size w5 V1):=hid (by rw[←hV1];exact HB6.out.al _);have HOV:Hid (OwnG 51 84 encSn 11 V1 w5.heap.size A9 c9 gs):=hid (by rw[←hV1];exact HO6.out.alloc _);have hbs1:w5.heap.size≤V1.heap.size:=by omega
     have hgl:=HGL.out;have HAP:Hid (∀g'∈gs,Ap g'.A (some ⟨wr.heap.size,0,none⟩)):=hid (fun g' hg' x hx e=>by
      have:=(HO6.out.ins g' hg').lt2 hx
      injection e with e;injection e with e;omega)
     clear him hig;go_wp2_with(first|(refine wpList_boxLoad rfl (ty:=84) (x:=.tmp 7) (cs:=#[.string s1,.int .i64 s2,.int .i64 s3,.string s4,.string s5,.int .i64 s6,.int .i64 s7,.int .i64 s8,.string s9,.int .i64 s10,.int .i64 s11]) rfl HS6.out rfl ⟨_,Tryz.underlying84,by kernel_rfl⟩ ?_)|(at_builtin;refine wpList_app1b rfl (.tmp 46) (.tmp 49) tyG encG_ok rfl (⟨some ⟨wr.heap.size,0,none⟩,1,[sx]⟩:Gp Sn) rfl _ rfl (by simp) HOV.out.out rfl (by first|rfl|assumption|simp) (by first|omega|(simp;omega)) (by first|omega|(simp;omega)) hbs1 ?_;intro A7 c7 w7 hown7 hb7 hs7 hf7;have hbel7:=(HBV.out).trans hb7))
     have HP:=hid (HOV.out.push sne (g:=⟨some ⟨wr.heap.size,0,none⟩,1,[sx]⟩) HLit.out HAP.out hown7 hf7);have HB7:=hid hbel7;clear hown7 hb7 hs7 hf7 hbel7 hV1;go_roundg (n-(k+1))
     case measure=>have:=HI.out;omega
     case rel=>exact⟨k+1,A7,c7,gs++[(⟨some ⟨wr.heap.size,0,none⟩,1,[sx]⟩:Gp Sn)],by have:=HI.out;omega,by go_num,by simp,HIN.out,HP.out,HB7.out⟩
  ·obtain rfl:k=n:=by omega
   have HGLN:=hid (show gs.length≤k by rw[←vals_len,show vals gs=_ from HG.out];refine Nat.le_trans (groups_len _) ?_;rw[List.length_take];omega);have HGO2:=hid (show∀g∈gs,g.l≠[]from fun g hg=>groups_ne _ _ _ (by rw[←show vals gs=_ from HG.out];exact List.mem_map.2 ⟨g,hg,rfl⟩));have R:=hid (show GrpR gs (framesV gap l) by have h:=HG.out;rw[←HSL.out,List.take_length]at h;rw[HM.out];exact h);clear HG;go_wp2_with fail
   have hbk:blkOf wo cb=none:=by
    unfold blkOf;rw[(HBW.out.st HB.out).cell (p:=⟨cb,0,none⟩) HCB.out,Y3.out]
   have hB0:W.heap.size≤wo.heap.size:=(HBW.out.st HB.out).size;have hw5:W.heap.size≤w5.heap.size:=HBW.out.size;have HKL:=hid (show∀X,KpF cb wo X→∀i g,gs[i]? =some g→SeenX g X∧∀ob,A9=some ⟨ob,0,none⟩→X.cell? ⟨ob,i,none⟩=some (.slice g.A g.l.length g.c)from fun X hX i g hg=>by
    have hm:=List.mem_of_getElem? hg;have hne:∀b off,g.A=some ⟨b,off,none⟩→b≠cb:=fun b off ha e=>by
     have:=HCB.out
     rcases(HO.out.ins g hm).form with⟨q2,_⟩|⟨g2,q2,q3,_⟩
     ·rw[q2]at ha;cases ha
     ·rw[q2]at ha;injection ha with ha;injection ha with ha;omega
    refine⟨⟨(HGO2.out g hm),?_,?_⟩,fun ob hob=> ?_⟩
    ·refine Rd.more (Rd.blk encSn_ok (by omega) ((HO.out.ins g hm).rd encSn_ok) fun b o hb ⟨off,ha⟩ ho hoc=>hX.same b o ho hoc (hne b off ha) (by rw[hbk];simp)) hX.size
    ·obtain⟨b,off,cs,fr,ha,hh⟩:=(HO.out.ins g hm).seenB (HGO2.out g hm);exact⟨b,off,cs,fr,ha,hX.same b _ hh rfl (hne b off ha) (by rw[hbk];simp)⟩
    ·have hc:=HO.out.out.cells encG_ok hob hg (j:=0) (u:=.slice g.A g.l.length g.c) rfl;simp only[Nat.mul_one,Nat.add_zero]at hc;obtain⟨o,ho,hoc⟩:=cells_of_cell hc;have hl:=HO.out.out.lt2 hob;exact(World.cell?_of_block (a:=⟨ob,i,none⟩) ((hX.same ob o ho hoc (by have:=HCB.out;omega) (by rw[hbk];simp)).trans ho.symm)).trans hc)
   have hj:=HJ.out [] W wo none HJ0.out ⟨(HBW.out.st HB.out).os,(HBW.out.st HB.out).tape,(HBW.out.st HB.out).output,hB0,fun k hk _=>(HBW.out.st HB.out).block k hk⟩ (fun r e=>by cases e);have HJW:=hid hj;have hgl:gs.length≤100:=by have h:=HGLN.out;omega
   clear hj hbk hB0 hw5 hi;refine(wpIn_wide (n:=5)).1 ?_;gi_loopw [54] (fun si wr=>∃k:Nat,k≤gs.length∧si=.int .i64 k∧Hid (J (gs.take k) wr)∧Hid (KpF cb wo wr)) (fun si _=>gs.length-(RowKit.intOf si).toNat)
   case atStart=>exact⟨0,Nat.zero_le _,rfl,HJW.out,KpF.refl _ _⟩
   case round=>
    obtain⟨i,hi,rfl,HJ1,HK1⟩:=hrel;have i1:(0:Int)≤(i:Int):=by omega
    by_cases him:i<gs.length
    ·have HIM:=hid him;obtain⟨g,hg⟩:∃g,gs[i]? =some g:=⟨_,List.getElem?_eq_getElem him⟩;have hkl:=HKL.out wr HK1.out i g hg;obtain⟨ob,hA9,hob1,hob2⟩:=HO.out.out.exB (by intro q;rw[q]at him;simp at him);have y0:=hkl.2 ob hA9;subst hA9;have HTS:=hid (take_snoc hg);have i2:(i:Int)<(gs.length:Int):=by omega
     obtain⟨fn,tmps,assign,body,hy,hR⟩:=HY.out (gs.take i) g wr HJ1.out hkl.1 (by rw[List.length_take];omega);dsimp only[encX]at hy
     clear hkl hg hi;gi_wp2
     refine hR.mono ?_;rintro e W3 ⟨rfl,hJ3,hk3⟩;rw[←HTS.out]at hJ3;have HJ3:=hid hJ3;have HK3:=hid (HK1.out.trans hk3);clear hJ3 hk3;gi_wp2
     go_roundw
     case rel=>exact⟨i+1,HIM.out,by go_num,HJ3.out,HK3.out⟩
     case measure=>have:=HIM.out;simp[RowKit.intOf];omega
    ·obtain rfl:i=gs.length:=by omega
     have hj:=HJ1.out;rw[List.take_length]at hj;have HJF:=hid hj;clear hj him hi;gi_wp2
     first|rw[Exit.noGoto_normal]|simp only[Exit.noGoto]
     go_end0;exact⟨⟨_,rfl⟩,gs,R.out,HJF.out⟩
end
end Go.Proofs.YtimffppffbideaaGreatDoor
