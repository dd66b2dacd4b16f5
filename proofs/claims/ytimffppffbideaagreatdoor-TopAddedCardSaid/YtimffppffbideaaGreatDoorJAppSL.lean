import Derived.Test.YtimffppffbideaaGreatDoorSfInter
import Derived.Test.YtimffppffbideaaGreatDoorJSpreadM
set_option linter.unusedSimpArgs false
set_option linter.unusedVariables false
namespace Go.Proofs.YtimffppffbideaaGreatDoor
section
open Go.RowKit Go.Lib
section
variable {α:Type}{enc:α→List Value}{k:Nat}{A:Option Addr}{c:Nat}{l:List α}{P:Program}{t e bytes:Nat}
theorem wp_appSL {w:World}{o:Oper}{a:Act}{K:Act→World→Prop}{Q:Exit→Act→World→Prop}(s y:Operand)
  (T:TyS P t e k bytes) (hE:Enc enc k)
  (ho:o.op=.call {callee:=.builtin .append,args:=#[s,y],argTypes:=#[t,t]})
  (base:Nat) {n:Nat} (hs:a.eval s=.slice A n c) (hn:n=l.length) (hown:Own e enc k w base A c l)
  {B:Nat} {A2:Option Addr} {m d:Nat} (new:List α) (hx:a.eval y=.slice A2 m d) (hm:m=new.length) (hr:Rd enc k w B A2 new)
  (hbytes:(l.length+new.length)*bytes≤140737488355328) (hmax:l.length+new.length≤8000000000000000000) (hbase:base≤w.heap.size)
  (
   h:∀A' c' w',Own e enc k w' base A' c' (l++new)→Below base w w'→w.heap.size≤w'.heap.size→(∀b,b<w.heap.size→(∀g,A=some ⟨g,0,none⟩→b≠g)→w'.heap[b]? =w.heap[b]?)→
   (∀g,A'=some ⟨g,0,none⟩→A=some ⟨g,0,none⟩∨w.heap.size≤g)→K (a.put o.dst (.slice A' (n+m) c')) w'):o.wp P a w K Q:=by
 subst hn;subst hm;rcases A2 with _|ad
 ·have hnew:new=[]:=by
   rcases Classical.em (new=[])with h0|h0
   ·exact h0
   ·obtain⟨_,_,hA,_⟩:=hr h0;cases hA
  subst hnew;have hrun:=run_app_nil w base o.type T hown d;unfold Oper.wp execOp;simp only[ho,resolve,invoke,builtin,Sem.run_bind,Sem.run_pure,Result.andThen_ok,List.map_toArray,List.map_cons,List.map_nil,hs,hx,List.length_nil,hrun];exact h A c w (by simpa using hown) (Below.refl _ _) (Nat.le_refl _) (fun _ _ _=>rfl) (fun _ hg=>.inl hg)
 ·obtain⟨i,z,hi,hz,hsz,hby,hzs⟩:=T.info;have hnews:∀j u,(new.flatMap enc)[j]? =some u→w.cell? (ad.add j)=some u:=by
   rcases Classical.em (new=[])with h0|h0
   ·subst h0;intro j u hu;simp at hu
   ·obtain⟨b,off,hA,hb,hc⟩:=hr h0;injection hA with hA;subst hA;exact rd_flat hE T.pos hr
  obtain⟨v',w',hrun,hown',hg,h4,hloc⟩:=run_append_own_at (P:=P) w base t o.type e i z k bytes T.under hi hz hsz hby hzs T.pos (.slice A l.length c) l.length (l.flatMap enc) hown ad new.length d (new.flatMap enc) (flat_length hE new) hnews
   (
    fun u hu=>by
    rw[List.mem_flatMap]at hu;obtain⟨y,_,hy⟩:=hu;exact hE.2 y u hy) (by unfold maxLen;omega) hbytes hbase
  obtain⟨A',c'',hv⟩:∃A' c'',v'=.slice A' (l.length+new.length) c'':=by
   rcases hown'.2 with⟨hv,h0⟩|⟨g,cap,cur,hv,_⟩
   ·exact⟨none,0,by rw[hv,h0]⟩
   ·exact⟨_,_,hv⟩
  subst hv;have hblk2:∀b,b<w.heap.size→(∀g,A=some ⟨g,0,none⟩→b≠g)→w'.heap[b]? =w.heap[b]? :=fun b hb hne=>by
   refine hg.block b hb fun hh=> ?_;cases A with
   |none=>simp[Value.ownBlock]at hh
   |some q=>
    rcases hown.form with⟨hA,_⟩|⟨g,hA,_⟩
    ·cases hA
    ·injection hA with hA;subst hA;simp[Value.ownBlock]at hh;exact hne g rfl hh
  unfold Oper.wp execOp;simp only[ho,resolve,invoke,builtin,Sem.run_bind,Sem.run_pure,Result.andThen_ok,List.map_toArray,List.map_cons,List.map_nil,hs,hx,hrun];refine h A' c'' w' ?_ ?_ hg.size hblk2 ?_
  ·unfold Own;rw[←List.flatMap_append]at hown';rw[List.length_append];exact hown'
  ·refine(Below.refl base w).grown hg hbase fun g hgo=> ?_;exact(World.ownsRow.lt hown g (by rw[hgo])).1
  ·intro g hA;subst hA;simp only[Value.ownBlock]at hloc;cases A with
   |none=>right;simp at hloc;omega
   |some q=>
    rcases hown.form with⟨hA,_⟩|⟨g',hA,_⟩
    ·cases hA
    ·injection hA with hA;subst hA;simp at hloc;rcases hloc with q|q
     ·left;rw[q]
     ·right;omega
theorem wpList_appSL {w:World}{ops:Array Oper}{rest:List Oper}{o:Oper}{a:Act}{Q:Exit→Act→World→Prop}(hgd:o.guard=none)(s y:Operand)
  (T:TyS P t e k bytes) (hE:Enc enc k)
  (ho:o.op=.call {callee:=.builtin .append,args:=#[s,y],argTypes:=#[t,t]})
  (base:Nat) {n:Nat} (hs:a.eval s=.slice A n c) (hn:n=l.length) (hown:Own e enc k w base A c l)
  {B:Nat} {A2:Option Addr} {m d:Nat} (new:List α) (hx:a.eval y=.slice A2 m d) (hm:m=new.length) (hr:Rd enc k w B A2 new)
  (hbytes:(l.length+new.length)*bytes≤140737488355328) (hmax:l.length+new.length≤8000000000000000000) (hbase:base≤w.heap.size)
  (
   h:∀A' c' w',Own e enc k w' base A' c' (l++new)→Below base w w'→w.heap.size≤w'.heap.size→(∀b,b<w.heap.size→(∀g,A=some ⟨g,0,none⟩→b≠g)→w'.heap[b]? =w.heap[b]?)→
   (∀g,A'=some ⟨g,0,none⟩→A=some ⟨g,0,none⟩∨w.heap.size≤g)→wpList P ops Q rest (a.put o.dst (.slice A' (n+m) c')) w'):wpList P ops Q (o::rest) a w:=
 wpList_plain hgd fun _ hK=>wp_appSL s y T hE ho base hs hn hown new hx hm hr hbytes hmax hbase fun A' c' w' h1 h2 h3 h4 h5=>hK _ _ (h A' c' w' h1 h2 h3 h4 h5)
end
end
section
open Go.RowKit Go.Lib Go.Sort
open Mat
def psF (c:Cf)(f:List Sn)(i:Nat):List Pv:=(((pairsV c f).take i).filter (keepV c)).map (passV c (loopsOf f))
def rsF (c:Cf)(f:List Sn)(i:Nat):List Rj:=(((pairsV c f).take i).filter fun x=> !keepV c x).flatMap fun x=>rejsV 7 (fullV (loopsOf f) x)
theorem psF_yes {c:Cf}{f:List Sn}{i:Nat}{x:Vv×Int}(h:(pairsV c f)[i]? =some x)(hx:keepV c x=true):psF c f (i+1)=psF c f i++[passV c (loopsOf f) x]:=by
 unfold psF;rw[filt_snoc _ h,if_pos hx,List.map_append];rfl
theorem psF_no {c:Cf}{f:List Sn}{i:Nat}{x:Vv×Int}(h:(pairsV c f)[i]? =some x)(hx:keepV c x=false):psF c f (i+1)=psF c f i:=by
 unfold psF;rw[filt_snoc _ h,if_neg (by rw[hx];simp),List.append_nil]
theorem rsF_yes {c:Cf}{f:List Sn}{i:Nat}{x:Vv×Int}(h:(pairsV c f)[i]? =some x)(hx:keepV c x=true):rsF c f (i+1)=rsF c f i:=by
 unfold rsF;rw[filt_snoc _ h,if_neg (by rw[hx];simp),List.append_nil]
theorem rsF_no {c:Cf}{f:List Sn}{i:Nat}{x:Vv×Int}(h:(pairsV c f)[i]? =some x)(hx:keepV c x=false):rsF c f (i+1)=rsF c f i++rejsV 7 (fullV (loopsOf f) x):=by
 unfold rsF;rw[filt_snoc _ h,if_pos (by rw[hx];rfl),List.flatMap_append];simp
def rsG (f:List Sn)(js:List Int)(k:Nat):List Rj:=rejsV 6 ((aloneTo k js).map fun j=>(loopsOf f).getD j default)
theorem rsG_yes {f:List Sn}{js:List Int}{k:Nat}(h:js.contains (Int.ofNat k)=true):rsG f js (k+1)=rsG f js k:=by
 unfold rsG;rw[aloneTo_succ,if_pos h,List.append_nil]
theorem rsG_no {f:List Sn}{js:List Int}{k:Nat}{s:Sn}(h:js.contains (Int.ofNat k)=false)(hs:(loopsOf f)[k]? =some s):rsG f js (k+1)=rsG f js k++[⟨s.d,6⟩]:=by
 unfold rsG;rw[aloneTo_succ,if_neg (by rw[h];simp),List.map_append];simp only[List.map_cons,List.map_nil];rw[List.getD_eq_getElem?_getD,hs,Option.getD_some,rejsV_snoc]
theorem pairs_len (c:Cf)(f:List Sn):(pairsV c f).length=(vehV c f).length:=by
 unfold pairsV;rw[List.length_zip,(asg_loops (vehV c f) (loopsOf f)).1,Nat.min_self]
theorem pairs_at {c:Cf}{f:List Sn}{i:Nat}{v:Vv}{j:Int}(hv:(vehV c f)[i]? =some v)(hj:(loopAt (vehV c f) (loopsOf f))[i]? =some j):(pairsV c f)[i]? =some (v,j):=by
 unfold pairsV;rw[List.getElem?_zip_eq_some];exact⟨hv,hj⟩
theorem frPs_end {c:Cf}{f:List Sn}(h:blockedB f=false):frPs c f=ordS (ltOf cmpPv) (psF c f (vehV c f).length):=by
 unfold frPs psF;rw[if_neg (by rw[h];simp),List.take_of_length_le (by rw[pairs_len];exact Nat.le_refl _)]
theorem frRs_end {c:Cf}{f:List Sn}(h:blockedB f=false):frRs c f=ordS (ltOf cmpRj) (rsF c f (vehV c f).length++rsG f (loopAt (vehV c f) (loopsOf f)) (loopsOf f).length):=by
 unfold frRs rsF rsG;rw[if_neg (by rw[h];simp),List.take_of_length_le (by rw[pairs_len];exact Nat.le_refl _)];rfl
structure VehOk (f:List Sn)(v:Vv):Prop where
 ne:v.reads≠[]
 sub:∀x∈v.reads,x∈f
 t:0≤v.t∧v.t≤1000000000000
theorem makeV_ok {c:Cf}{m k:Int}{f g p:List Sn}(hok:∀x∈f,SnOk x)(hne:g++p≠[])(hs:∀x∈g++p,x∈f):VehOk f (makeV c m g p k):=by
 have hp:=make_reads c m g p k;have hne2:srtS (g++p)≠[]:=by
  intro e;have:=srtS_len (g++p)
  rw[e]at this;exact hne (List.eq_nil_of_length_eq_zero this.symm)
 refine⟨hne2,fun x hx=>hs x (hp.mem_iff.1 hx),?_⟩;obtain⟨x,l,hx⟩:=List.exists_cons_of_ne_nil hne2;have hm:x∈f:=hs x ((srtS_perm (g++p)).mem_iff.1 (by rw[hx];exact List.mem_cons_self));have ht:(makeV c m g p k).t=x.t:=by show((srtS (g++p)).headD default).t=_;rw[hx];rfl
 have h1:=hok x hm;rw[ht];exact⟨h1.t0,by have:=h1.t1;omega⟩
theorem part_sub {f:List Sn}(hok:∀x∈f,SnOk x):(∀g∈tagsOf f,∀x∈g,x∈f)∧(∀g∈platesOf f,∀x∈g,x∈f)∧(∀x∈loopsOf f,x∈f):=by
 have hp:=parts_perm (kinds_ok hok);refine⟨fun g hg x hx=>hp.mem_iff.1 ?_,fun g hg x hx=>hp.mem_iff.1 ?_,fun x hx=>hp.mem_iff.1 ?_⟩
 ·exact List.mem_append_left _ (List.mem_append_left _ (List.mem_flatten.2 ⟨g,hg,hx⟩))
 ·exact List.mem_append_left _ (List.mem_append_right _ (List.mem_flatten.2 ⟨g,hg,hx⟩))
 ·exact List.mem_append_right _ hx
theorem getD_in {α:Type}(l:List (List α))(i:Nat):l.getD i []∈l∨l.getD i []=[]:=by
 rw[List.getD_eq_getElem?_getD];cases h:l[i]? with
 |none=>exact .inr rfl
 |some x=>exact .inl (List.mem_of_getElem? h)
theorem veh_ok (c:Cf){f:List Sn}(hok:∀x∈f,SnOk x):∀v∈vehV c f,VehOk f v:=by
 obtain⟨s1,s2,_⟩:=part_sub hok;obtain⟨p1,p2,_⟩:=parts_sn hok;intro v hv;rcases List.mem_append.1 hv with h|h
 ·rw[tagVs_map]at h;obtain⟨i,hi,rfl⟩:=List.mem_map.1 h;have hi:=List.mem_range.1 hi;have hg:(tagsOf f)[i]? =some ((tagsOf f)[i]):=List.getElem?_eq_getElem hi;have hgd:(tagsOf f).getD i []=(tagsOf f)[i]:=by rw[List.getD_eq_getElem?_getD,hg];rfl
  have hgm:(tagsOf f)[i]∈tagsOf f:=List.getElem_mem hi;unfold tagV;simp only;rw[hgd];split
  ·exact makeV_ok hok (by rw[List.append_nil];exact(p1 _ hgm).1) (fun x hx=>s1 _ hgm x (by simpa using hx))
  ·refine makeV_ok hok (fun e=>(p1 _ hgm).1 (List.append_eq_nil_iff.1 e).1) (fun x hx=> ?_);rcases List.mem_append.1 hx with q|q
   ·exact s1 _ hgm x q
   ·rcases getD_in (platesOf f) ((best (asgM f)).getD i (-1)).toNat with z|z
    ·exact s2 _ z x q
    ·rw[z]at q;simp at q
 ·rw[plateVs_to]at h;obtain⟨i,hi,rfl⟩:=List.mem_map.1 h;have hi:=List.mem_range.1 (List.mem_filter.1 hi).1;have hgd:(platesOf f).getD i []=(platesOf f)[i]:=by rw[List.getD_eq_getElem?_getD,List.getElem?_eq_getElem hi];rfl
  have hgm:(platesOf f)[i]∈platesOf f:=List.getElem_mem hi;rw[hgd];exact makeV_ok hok (by rw[List.nil_append];exact(p2 _ hgm).1) (fun x hx=>s2 _ hgm x (by simpa using hx))
theorem veh_all_perm (c:Cf){f:List Sn}(hok:∀x∈f,SnOk x):(((vehV c f).map Vv.reads).flatten++loopsOf f).Perm f:=((veh_reads c f).append_right _).trans (parts_perm (kinds_ok hok))
theorem full_sub {c:Cf}{f:List Sn}{v:Vv}(hv:v∈vehV c f){l:List Sn}(hl:l.Sublist (loopsOf f)):(v.reads++l).Sublist (((vehV c f).map Vv.reads).flatten++loopsOf f):=
 List.Sublist.append (mem_flat (List.mem_map.2 ⟨v,hv,rfl⟩)) hl
theorem full_loop {f:List Sn}{v:Vv}{j:Int}:∃l,fullV (loopsOf f) (v,j)=v.reads++l∧(j<0∨j<(loopsOf f).length→l.Sublist (loopsOf f)):=by
 unfold fullV;by_cases hj:j<0
 ·exact⟨[],by rw[if_pos hj],fun _=>List.nil_sublist _⟩
 ·refine⟨[(loopsOf f).getD j.toNat default],by rw[if_neg hj],fun h=> ?_⟩;have hlt:j.toNat<(loopsOf f).length:=by omega
  rw[List.getD_eq_getElem?_getD,List.getElem?_eq_getElem hlt];exact List.singleton_sublist.2 (List.getElem_mem hlt)
theorem full_ok {c:Cf}{f:List Sn}(hok:∀x∈f,SnOk x)(hnd:(f.map keyS).Nodup){v:Vv}(hv:v∈vehV c f){j:Int}(hj:j<0∨j<(loopsOf f).length):
  fullV (loopsOf f) (v,j)≠[]∧(fullV (loopsOf f) (v,j)).length≤f.length∧((fullV (loopsOf f) (v,j)).map keyS).Nodup∧∀x∈fullV (loopsOf f) (v,j),SnOk x:=by
 obtain⟨l,hl,hs⟩:=full_loop (f:=f) (v:=v) (j:=j);have hsub:=full_sub hv (hs hj);have hp:=veh_all_perm c hok;rw[hl];refine⟨fun e=>(veh_ok c hok v hv).ne (List.append_eq_nil_iff.1 e).1,?_,?_,fun x hx=>hok x (hp.mem_iff.1 (hsub.subset hx))⟩
 ·exact Nat.le_trans hsub.length_le (Nat.le_of_eq hp.length_eq)
 ·exact(hsub.map keyS).nodup ((hp.map keyS).nodup_iff.2 hnd)
theorem vehV_len (c:Cf){f:List Sn}:(vehV c f).length≤(tagsOf f).length+(platesOf f).length:=by
 show(tagVs c f++plateVs c f).length≤_
 rw[List.length_append,tagVs_map,List.length_map,List.length_range,plateVs_to];have:(plateTo c f (platesOf f).length).length≤(platesOf f).length:=by
  unfold plateTo aloneTo;rw[List.length_map];exact Nat.le_trans (List.length_filter_le _ _) (by rw[List.length_range];exact Nat.le_refl _)
 omega
structure FS (W0:World)(fb:Nat)(c2 c3:Value)(ub nl:Nat)(us:List Bool)(wx:World)(pA:Option Addr)(pc:Nat)(ps:List Pg)(rA:Option Addr)(rc:Nat)(rs:List Rj):Prop where
 b:Blk wx fb #[.slice pA ps.length pc,.slice rA rs.length rc,c2,c3] 94
 p:Own 76 encPg 8 wx W0.heap.size pA pc ps
 s:∀x∈ps,Own 82 encSr 2 wx W0.heap.size x.A x.c x.v.src
 r:Own 88 encRj 8 wx W0.heap.size rA rc rs
 u:Own 4 encBo 1 wx W0.heap.size (some ⟨ub,0,none⟩) nl us
 x:BelX fb W0.heap.size W0 wx
section
variable {W0 wx wy W W1 w9 w':World}{fb ub nl pc rc:Nat}{c2 c3:Value}{us us':List Bool}{pA rA:Option Addr}{ps:List Pg}{rs:List Rj}
theorem FS.lt (h:FS W0 fb c2 c3 ub nl us wx pA pc ps rA rc rs):W0.heap.size≤wx.heap.size:=h.x.size
theorem FS.below (h:FS W0 fb c2 c3 ub nl us wx pA pc ps rA rc rs)(hfb:fb<W0.heap.size)(hb:Below wx.heap.size wx wy):FS W0 fb c2 c3 ub nl us wy pA pc ps rA rc rs:=
 ⟨h.b.below hb h.b.lt,h.p.keep hb (Nat.le_refl _),fun x hx=>(h.s x hx).keep hb (Nat.le_refl _),h.r.keep hb (Nat.le_refl _),h.u.keep hb (Nat.le_refl _),h.x.then hb h.lt (Nat.le_trans (Nat.le_of_lt hfb) h.lt)⟩
theorem pn1:76≠4:=by decide
theorem pn2:82≠4:=by decide
theorem pn3:88≠4:=by decide
theorem pn4:76≠82:=by decide
theorem pn5:76≠88:=by decide
theorem pn6:82≠88:=by decide
theorem FS.stay (h:FS W0 fb c2 c3 ub nl us wx pA pc ps rA rc rs)(hfb:fb<W0.heap.size)(hX:BelX ub wx.heap.size wx w')(hu:Own 4 encBo 1 w' W0.heap.size (some ⟨ub,0,none⟩) nl us'):FS W0 fb c2 c3 ub nl us' w' pA pc ps rA rc rs:=by
 have hub:=h.u.lt2 rfl;refine⟨h.b.same (hX.o fb h.b.lt (by omega)),h.p.keepB fun g hg hl=>hX.o g hl (h.p.apart h.u pn1 hg rfl),fun x hx=>(h.s x hx).keepB fun g hg hl=>hX.o g hl ((h.s x hx).apart h.u pn2 hg rfl),h.r.keepB fun g hg hl=>hX.o g hl (h.r.apart h.u pn3 hg rfl),hu,?_⟩;exact⟨h.x.b.trans (hX.b.mono (by omega)),fun k hk hne=>(hX.b.block k (by omega)).trans (h.x.o k hk hne)⟩
theorem FS.mark (h:FS W0 fb c2 c3 ub nl us wx pA pc ps rA rc rs){t:Nat}(ht:t<us.length):Own 4 encBo 1 (wx.setCell ⟨ub,t,none⟩ (.bool true)) W0.heap.size (some ⟨ub,0,none⟩) nl (us.set t true):=by
 have hx:us[t]? =some us[t]:=List.getElem?_eq_getElem ht;have:=h.u.stored encBo_ok rfl hx (j:=0) (by omega) (y:=true) (u:=.bool true) rfl
 simpa using this
theorem FS.pushP (h:FS W0 fb c2 c3 ub nl us W pA pc ps rA rc rs)(hfb:fb<W0.heap.size){x:Pg}(hx:Own 82 encSr 2 W W0.heap.size x.A x.c x.v.src)(h1:Below W.heap.size W W1){A':Option Addr}{c':Nat}
  (happ:Own 76 encPg 8 w9 W0.heap.size A' c' (ps++[x])) (hf:∀b,b<W1.heap.size→(∀y,pA=some ⟨y,0,none⟩→b≠y)→w9.heap[b]? =W1.heap[b]?) (hb:Below W0.heap.size W1 w9):
  FS W0 fb c2 c3 ub nl us (w9.setCell ⟨fb,0,none⟩ (.slice A' (ps.length+1) c')) A' c' (ps++[x]) rA rc rs:=by
 have hV:=h.below hfb h1;have hx1:=hx.keep h1 (Nat.le_refl _);have hb9:Blk w9 fb #[.slice pA ps.length pc,.slice rA rs.length rc,c2,c3] 94:=hV.b.same (hf fb hV.b.lt fun y hy=>by have:=(hV.p.lt2 hy).1;omega);have hsc:∀b,b≠fb→(w9.setCell ⟨fb,0,none⟩ (.slice A' (ps.length+1) c')).heap[b]? =w9.heap[b]? :=fun b hne=>set_oth _ _ _ _ hne;have hsr:∀y:Pg,Own 82 encSr 2 W1 W0.heap.size y.A y.c y.v.src→Own 82 encSr 2 (w9.setCell ⟨fb,0,none⟩ (.slice A' (ps.length+1) c')) W0.heap.size y.A y.c y.v.src:=fun y hy=>by
  have h2:Own 82 encSr 2 w9 W0.heap.size y.A y.c y.v.src:=hy.keepB fun b hbA hbl=>hf b hbl fun z hz=>hy.apart hV.p (fun e=>pn4 e.symm) hbA hz;exact h2.keepB fun b hbA _=>hsc b (by have:=(h2.lt2 hbA).1;omega)
 refine⟨?_,happ.keepB fun b hbA _=>hsc b (by have:=(happ.lt2 hbA).1;omega),?_,?_,?_,(hV.x.then hb (Nat.le_refl _) (Nat.le_of_lt hfb)).set 0 _⟩
 ·have:=hb9.set 0 (.slice A' (ps.length+1) c')
  rw[List.length_append];simpa using this
 ·intro y hy;rcases List.mem_append.1 hy with q|q
  ·exact hsr y (hV.s y q)
  ·have:y=x:=by simpa using q
   rw[this];exact hsr x hx1
 ·have h2:Own 88 encRj 8 w9 W0.heap.size rA rc rs:=hV.r.keepB fun b hbA hbl=>hf b hbl fun z hz=>hV.r.apart hV.p (fun e=>pn5 e.symm) hbA hz;exact h2.keepB fun b hbA _=>hsc b (by have:=(h2.lt2 hbA).1;omega)
 ·have h2:Own 4 encBo 1 w9 W0.heap.size (some ⟨ub,0,none⟩) nl us:=hV.u.keepB fun b hbA hbl=>hf b hbl fun z hz=>hV.u.apart hV.p (fun e=>pn1 e.symm) hbA hz;exact h2.keepB fun b hbA _=>hsc b (by have:=(h2.lt2 hbA).1;omega)
theorem FS.pushR (h:FS W0 fb c2 c3 ub nl us W pA pc ps rA rc rs)(hfb:fb<W0.heap.size)(h1:Below W.heap.size W W1){new:List Rj}{A':Option Addr}{c':Nat}
  (happ:Own 88 encRj 8 w9 W0.heap.size A' c' (rs++new)) (hf:∀b,b<W1.heap.size→(∀y,rA=some ⟨y,0,none⟩→b≠y)→w9.heap[b]? =W1.heap[b]?) (hb:Below W0.heap.size W1 w9):
  FS W0 fb c2 c3 ub nl us (w9.setCell ⟨fb,1,none⟩ (.slice A' (rs.length+new.length) c')) pA pc ps A' c' (rs++new):=by
 have hV:=h.below hfb h1;have hb9:Blk w9 fb #[.slice pA ps.length pc,.slice rA rs.length rc,c2,c3] 94:=hV.b.same (hf fb hV.b.lt fun y hy=>by have:=(hV.r.lt2 hy).1;omega);have hsc:∀b,b≠fb→(w9.setCell ⟨fb,1,none⟩ (.slice A' (rs.length+new.length) c')).heap[b]? =w9.heap[b]? :=fun b hne=>set_oth _ _ _ _ hne;refine⟨?_,?_,?_,happ.keepB fun b hbA _=>hsc b (by have:=(happ.lt2 hbA).1;omega),?_,(hV.x.then hb (Nat.le_refl _) (Nat.le_of_lt hfb)).set 1 _⟩
 ·have:=hb9.set 1 (.slice A' (rs.length+new.length) c')
  rw[List.length_append];simpa using this
 ·have h2:Own 76 encPg 8 w9 W0.heap.size pA pc ps:=hV.p.keepB fun b hbA hbl=>hf b hbl fun z hz=>hV.p.apart hV.r pn5 hbA hz;exact h2.keepB fun b hbA _=>hsc b (by have:=(h2.lt2 hbA).1;omega)
 ·intro y hy;have h2:Own 82 encSr 2 w9 W0.heap.size y.A y.c y.v.src:=(hV.s y hy).keepB fun b hbA hbl=>hf b hbl fun z hz=>(hV.s y hy).apart hV.r pn6 hbA hz;exact h2.keepB fun b hbA _=>hsc b (by have:=(h2.lt2 hbA).1;omega)
 ·have h2:Own 4 encBo 1 w9 W0.heap.size (some ⟨ub,0,none⟩) nl us:=hV.u.keepB fun b hbA hbl=>hf b hbl fun z hz=>hV.u.apart hV.r (fun e=>pn3 e.symm) hbA hz;exact h2.keepB fun b hbA _=>hsc b (by have:=(h2.lt2 hbA).1;omega)
theorem _root_.Go.Proofs.YtimffppffbideaaGreatDoor.BelX.setHi {t B:Nat}(h:BelX t B W W1){q:Nat}(hB:B≤q)(ht:t≤q)(i:Nat)(v:Value):BelX t B W (W1.setCell ⟨q,i,none⟩ v):=
 ⟨h.b.setCell (p:=⟨q,i,none⟩) ht v,fun k hk hne=>(set_oth _ _ _ _ (by omega)).trans (h.o k hk hne)⟩
end
end
end Go.Proofs.YtimffppffbideaaGreatDoor
