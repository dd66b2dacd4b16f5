import Derived.Test.YtimffppffbideaaGreatDoorSfMake
set_option linter.unusedSimpArgs false
set_option linter.unusedVariables false
namespace Go.Proofs.YtimffppffbideaaGreatDoor
namespace Mat
def usedL (k:Nat)(js:List Int):List Bool:=(List.range k).map fun j=>js.contains (Int.ofNat j)
theorem usedL_len (k:Nat)(js:List Int):(usedL k js).length=k:=by simp[usedL]
theorem usedL_nil (k:Nat):usedL k []=List.replicate k false:=by
 unfold usedL;refine List.ext_getElem? fun i=> ?_;rw[List.getElem?_map,List.getElem?_replicate];by_cases h:i<k
 ·rw[List.getElem?_range h,if_pos h];rfl
 ·rw[List.getElem?_eq_none (by simpa using h),if_neg h];rfl
theorem usedL_at {k:Nat}(js:List Int){j:Nat}(h:j<k):(usedL k js)[j]? =some (js.contains (Int.ofNat j)):=by
 unfold usedL;rw[List.getElem?_map,List.getElem?_range h];rfl
theorem contains_snoc (l:List Int)(j x:Int):(l++[j]).contains x=(l.contains x||x==j):=by
 rw[Bool.eq_iff_iff];simp
theorem usedL_neg (k:Nat)(l:List Int){j:Int}(h:j<0):usedL k (l++[j])=usedL k l:=by
 unfold usedL;refine List.map_congr_left fun t _=> ?_;rw[contains_snoc];have:(Int.ofNat t==j)=false:=by simp;omega
 rw[this,Bool.or_false]
theorem usedL_pos (k:Nat)(l:List Int)(t:Nat):usedL k (l++[(t:Int)])=(usedL k l).set t true:=by
 refine List.ext_getElem? fun i=> ?_;rw[List.getElem?_set,usedL_len];by_cases h:i<k
 ·rw[usedL_at _ h,contains_snoc];by_cases e:t=i
  ·subst e;rw[if_pos rfl,if_pos h];simp
  ·rw[if_neg e,usedL_at _ h];have:(Int.ofNat i==(t:Int))=false:=by simp;omega
   rw[this,Bool.or_false]
 ·rw[List.getElem?_eq_none (by rw[usedL_len];omega)];split
  ·rw[if_neg (by omega)]
  ·rw[List.getElem?_eq_none (by rw[usedL_len];omega)]
def aloneTo (n:Nat)(js:List Int):List Nat:=(List.range n).filter (fun j=> !js.contains (Int.ofNat j))
theorem aloneTo_succ (n:Nat)(js:List Int):aloneTo (n+1) js=aloneTo n js++if js.contains (Int.ofNat n)=true then[]else[n]:=by
 unfold aloneTo;rw[List.range_succ,List.filter_append];congr 1;cases h:js.contains (Int.ofNat n)
 ·rw[List.filter_cons_of_pos (by rw[h];rfl)];rfl
 ·rw[List.filter_cons_of_neg (by rw[h];simp)];rfl
end Mat
section
open Go.RowKit Go.Lib Go.Sort
open Mat
theorem asg_at {k:Nat}:∀{l:List Int} {mask:Nat} {j:Int},Asg k mask l→j∈l→j= -1∨(0≤j∧j<k):=by
 intro l;induction l with
 |nil=>intro _ _ _ h;exact absurd h (by simp)
 |cons a l ih=>
  intro mask j h hj;rcases List.mem_cons.1 hj with rfl|hj
  ·rcases h.1 with q|q
   ·exact .inl q
   ·exact .inr ⟨q.1,q.2.1⟩
  ·exact ih h.2 hj
def tagV (c:Cf)(f:List Sn)(i:Nat):Vv:=
 let j:=(best (asgM f)).getD i (-1)
 let g:=(tagsOf f).getD i []
 if j<0 then makeV c (marginV (asgM f)) g [] 200 else makeV c (marginV (asgM f)) g ((platesOf f).getD j.toNat []) ((asgM f).c i j.toNat)
theorem tagVs_map (c:Cf)(f:List Sn):tagVs c f=(List.range (tagsOf f).length).map (tagV c f):=rfl
theorem tagV_neg {c:Cf}{f:List Sn}{i:Nat}{j:Int}{g:List Sn}(hj:(best (asgM f))[i]? =some j)(hg:(tagsOf f)[i]? =some g)(h:j<0):tagV c f i=makeV c (marginV (asgM f)) g [] 200:=by
 unfold tagV;rw[List.getD_eq_getElem?_getD,List.getD_eq_getElem?_getD,hj,hg];simp only[Option.getD_some];rw[if_pos h]
theorem tagV_pos {c:Cf}{f:List Sn}{i t:Nat}{g p:List Sn}(hj:(best (asgM f))[i]? =some (t:Int))(hg:(tagsOf f)[i]? =some g)(hp:(platesOf f)[t]? =some p):tagV c f i=makeV c (marginV (asgM f)) g p ((asgM f).c i t):=by
 unfold tagV;rw[List.getD_eq_getElem?_getD,List.getD_eq_getElem?_getD,hj,hg];simp only[Option.getD_some];rw[if_neg (by omega),Int.toNat_natCast,List.getD_eq_getElem?_getD,hp];rfl
def plateTo (c:Cf)(f:List Sn)(k:Nat):List Vv:=(aloneTo k (best (asgM f))).map fun j=>makeV c (marginV (asgM f)) [] ((platesOf f).getD j []) 200
theorem plateVs_to (c:Cf)(f:List Sn):plateVs c f=plateTo c f (platesOf f).length:=by
 unfold plateVs alone plateTo;rw[List.map_map];rfl
theorem plateTo_zero (c:Cf)(f:List Sn):plateTo c f 0=[]:=rfl
theorem plateTo_yes {c:Cf}{f:List Sn}{k:Nat}(h:(best (asgM f)).contains (Int.ofNat k)=true):plateTo c f (k+1)=plateTo c f k:=by
 unfold plateTo;rw[aloneTo_succ,if_pos h,List.append_nil]
theorem plateTo_no {c:Cf}{f:List Sn}{k:Nat}{g:List Sn}(h:(best (asgM f)).contains (Int.ofNat k)=false)(hg:(platesOf f)[k]? =some g):plateTo c f (k+1)=plateTo c f k++[makeV c (marginV (asgM f)) [] g 200]:=by
 unfold plateTo;rw[aloneTo_succ,if_neg (by rw[h];simp),List.map_append];simp only[List.map_cons,List.map_nil];rw[List.getD_eq_getElem?_getD,hg];rfl
theorem c_at {m:Mat.M}{i j:Nat}{r:List Int}{v:Int}(hr:m.cost[i]? =some r)(hv:r[j]? =some v):m.c i j=v:=by
 unfold Mat.M.c;rw[List.getD_eq_getElem?_getD,List.getD_eq_getElem?_getD,hr];simp only[Option.getD_some];rw[hv];rfl
theorem mem_flat {α:Type}{l:List (List α)}{g:List α}(h:g∈l):g.Sublist l.flatten:=List.sublist_flatten_of_mem h
theorem kinds_ok {f:List Sn}(hok:∀x∈f,SnOk x):Kinds f:=fun x hx=>(hok x hx).kd
theorem pair_nodup {f g p:List Sn}(hok:∀x∈f,SnOk x)(hnd:(f.map keyS).Nodup)(hg:g∈tagsOf f∨g=[])(hp:p∈platesOf f∨p=[]):((g++p).map keyS).Nodup:=by
 have h1:=(parts_perm (kinds_ok hok)).map keyS;have h2:=h1.nodup_iff.2 hnd;have hs:(g++p).Sublist ((tagsOf f).flatten++(platesOf f).flatten++loopsOf f):=by
  refine List.Sublist.trans (List.Sublist.append ?_ ?_) (List.sublist_append_left _ _)
  ·rcases hg with h|h
   ·exact mem_flat h
   ·rw[h];exact List.nil_sublist _
  ·rcases hp with h|h
   ·exact mem_flat h
   ·rw[h];exact List.nil_sublist _
 exact(hs.map keyS).nodup h2
end
section
open Go.RowKit Go.Lib Go.Sort
open Mat
theorem Rd.cellAt {α:Type}{enc:α→List Value}{k B b off i j:Nat}{w:World}{l:List α}{x:α}{u:Value}(h:Rd enc k w B (some ⟨b,off,none⟩) l)(hx:l[i]? =some x)(hu:(enc x)[j]? =some u):w.cell? ⟨b,off+i*k+j,none⟩=some u:=by
 obtain⟨b2,off2,y,hA,_,hy,hc⟩:=h.at_ (List.getElem?_eq_some_iff.1 hx).1;injection hA with hA;injection hA with h1 h2;subst h1 h2;rw[hx]at hy;injection hy with hy;subst hy;exact hc j u hu
def encBo (b:Bool):List Value:=[.bool b]
theorem encBo_ok:Enc encBo 1:=⟨fun _=>rfl,fun x u hu=>by simp[encBo]at hu;subst hu;rfl⟩
theorem tyBo:TyS Tryz.prog 143 4 1 1:=TyS.mk' (z:=.bool false) Tryz.underlying143 (by kernel_rfl) rfl (by omega)
theorem tyVh:TyS Tryz.prog 135 145 10 144:=TyS.mk' (z:=.agg #[.slice none 0 0,.string ⟨#[]⟩,.string ⟨#[]⟩,.int .i64 0,.string ⟨#[]⟩,.string ⟨#[]⟩,.int .i64 0,.int .i64 0,.slice none 0 0,.int .i64 0]) Tryz.underlying135 (by kernel_rfl) rfl (by omega)
theorem vne:145≠84:=by decide
theorem vne2:145≠4:=by decide
structure VS (W0:World)(xb:Nat)(XC:Value→Array Value)(ub np:Nat)(us:List Bool)(wx:World)(vA:Option Addr)(vc:Nat)(vs:List Vh):Prop where
 b:Blk wx xb (XC (.slice vA vs.length vc)) 137
 v:Own 145 encVh 10 wx W0.heap.size vA vc vs
 r:∀x∈vs,Own 84 encSn 11 wx W0.heap.size x.A x.c x.v.reads
 u:Own 4 encBo 1 wx W0.heap.size (some ⟨ub,0,none⟩) np us
 x:BelX xb W0.heap.size W0 wx
section
variable {W0 wx wy W W1 w9:World}{xb ub np vc:Nat}{XC:Value→Array Value}{us:List Bool}{vA:Option Addr}{vs:List Vh}
theorem VS.lt (h:VS W0 xb XC ub np us wx vA vc vs):W0.heap.size≤wx.heap.size:=h.x.size
theorem VS.below (h:VS W0 xb XC ub np us wx vA vc vs)(hxb:xb<W0.heap.size)(hb:Below wx.heap.size wx wy):VS W0 xb XC ub np us wy vA vc vs:=
 ⟨h.b.below hb h.b.lt,h.v.keep hb (Nat.le_refl _),fun x hx=>(h.r x hx).keep hb (Nat.le_refl _),h.u.keep hb (Nat.le_refl _),h.x.then hb h.lt (Nat.le_trans (Nat.le_of_lt hxb) h.lt)⟩
theorem VS.push (h:VS W0 xb XC ub np us W vA vc vs)(hxb:xb<W0.heap.size)(hXC:∀v v',(XC v).setIfInBounds 10 v'=XC v'){x:Vh}(hx:Own 84 encSn 11 W W0.heap.size x.A x.c x.v.reads)(h1:Below W.heap.size W W1){A':Option Addr}{c':Nat}
  (happ:Own 145 encVh 10 w9 W0.heap.size A' c' (vs++[x])) (hf:∀b,b<W1.heap.size→(∀y,vA=some ⟨y,0,none⟩→b≠y)→w9.heap[b]? =W1.heap[b]?) (hb:Below W0.heap.size W1 w9):
  VS W0 xb XC ub np us (w9.setCell ⟨xb,10,none⟩ (.slice A' (vs.length+1) c')) A' c' (vs++[x]):=by
 have hV:=h.below hxb h1;have hx1:=hx.keep h1 (Nat.le_refl _);have hxn:∀y,vA=some ⟨y,0,none⟩→xb≠y:=fun y hy=>by have:=(hV.v.lt2 hy).1;omega
 have hb9:Blk w9 xb (XC (.slice vA vs.length vc)) 137:=hV.b.same (hf xb hV.b.lt hxn);have hsc:∀b,b≠xb→(w9.setCell ⟨xb,10,none⟩ (.slice A' (vs.length+1) c')).heap[b]? =w9.heap[b]? :=fun b hne=>set_oth _ _ _ _ hne;have hrd:∀y:Vh,Own 84 encSn 11 W1 W0.heap.size y.A y.c y.v.reads→Own 84 encSn 11 (w9.setCell ⟨xb,10,none⟩ (.slice A' (vs.length+1) c')) W0.heap.size y.A y.c y.v.reads:=fun y hy=>by
  have h2:Own 84 encSn 11 w9 W0.heap.size y.A y.c y.v.reads:=hy.keepB fun b hbA hbl=>hf b hbl fun z hz=>(hy.apart hV.v (fun e=>vne e.symm) hbA hz);exact h2.keepB fun b hbA _=>hsc b (by have:=(h2.lt2 hbA).1;omega)
 refine⟨?_,?_,?_,?_,?_⟩
 ·have:=hb9.set 10 (.slice A' (vs.length+1) c')
  rw[hXC]at this;rw[List.length_append];exact this
 ·exact happ.keepB fun b hbA _=>hsc b (by have:=(happ.lt2 hbA).1;omega)
 ·intro y hy;rcases List.mem_append.1 hy with q|q
  ·exact hrd y (hV.r y q)
  ·have:y=x:=by simpa using q
   rw[this];exact hrd x hx1
 ·have h2:Own 4 encBo 1 w9 W0.heap.size (some ⟨ub,0,none⟩) np us:=hV.u.keepB fun b hbA hbl=>hf b hbl fun z hz=>(hV.u.apart hV.v (fun e=>vne2 e.symm) hbA hz);exact h2.keepB fun b hbA _=>hsc b (by have:=(h2.lt2 hbA).1;omega)
 ·exact(hV.x.then hb (Nat.le_refl _) (Nat.le_of_lt hxb)).set 10 _
theorem VS.mark (h:VS W0 xb XC ub np us wx vA vc vs)(hxb:xb<W0.heap.size){t:Nat}(ht:t<us.length):VS W0 xb XC ub np (us.set t true) (wx.setCell ⟨ub,t,none⟩ (.bool true)) vA vc vs:=by
 have hu:=h.u.lt2 rfl;have hsc:∀b,b≠ub→(wx.setCell ⟨ub,t,none⟩ (.bool true)).heap[b]? =wx.heap[b]? :=fun b hne=>set_oth _ _ _ _ hne;refine⟨h.b.same (hsc xb (by omega)),h.v.keepB fun b hbA _=>hsc b (fun e=>(h.v.apart h.u vne2 hbA rfl) e),fun y hy=>(h.r y hy).keepB fun b hbA _=>hsc b (fun e=>((h.r y hy).apart h.u (by decide) hbA rfl) e),?_,?_⟩
 ·have hx:us[t]? =some us[t]:=List.getElem?_eq_getElem ht;have:=h.u.stored encBo_ok rfl hx (j:=0) (by omega) (y:=true) (u:=.bool true) rfl
  simpa using this
 ·exact⟨h.x.b.setCell (p:=⟨ub,t,none⟩) (by show xb≤ub;omega) _,fun k hk hne=>(set_oth _ _ _ _ (by omega)).trans (h.x.o k hk hne)⟩
end
end
end Go.Proofs.YtimffppffbideaaGreatDoor
