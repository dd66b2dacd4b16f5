import Derived.Test.YtimffppffbideaaGreatDoorJMatM
import Derived.Test.YtimffppffbideaaGreatDoorJDevRFind
import Derived.Lib.ItoaNum
set_option linter.unusedSimpArgs false
set_option linter.unusedVariables false
namespace Go.Proofs.YtimffppffbideaaGreatDoor
section
open Go.RowKit Go.Lib
structure Gp (α:Type) where
 A:Option Addr
 c:Nat
 l:List α
instance {α : Type} : Inhabited (Gp α) := ⟨⟨none, 0, []⟩⟩
section
variable {α:Type}{enc:α→List Value}{k:Nat}{w w':World}{B B' base eo e:Nat}{A:Option Addr}{c:Nat}{gs:List (Gp α)}
def encG (g:Gp α):List Value:=[.slice g.A g.l.length g.c]
theorem encG_ok:Enc (encG (α:=α)) 1:=⟨fun _=>rfl,fun x u hu=>by simp[encG]at hu;subst hu;rfl⟩
def vals (gs:List (Gp α)):List (List α):=gs.map (·.l)
theorem vals_len (gs:List (Gp α)):(vals gs).length=gs.length:=List.length_map _
theorem vals_at {i:Nat}{g:Gp α}(h:gs[i]? =some g):(vals gs)[i]? =some g.l:=by unfold vals;rw[List.getElem?_map,h];rfl
def RdG (enc:α→List Value)(k:Nat)(w:World)(B:Nat)(A:Option Addr)(gs:List (Gp α)):Prop:=
 Rd encG 1 w B A gs∧∀g∈gs,Rd enc k w B g.A g.l
theorem RdG.keep (h:RdG enc k w B A gs)(hb:Below B w w'):RdG enc k w' B A gs:=⟨h.1.keep hb,fun g hg=>(h.2 g hg).keep hb⟩
theorem RdG.more (h:RdG enc k w B A gs)(hB:B≤B'):RdG enc k w B' A gs:=⟨h.1.more hB,fun g hg=>(h.2 g hg).more hB⟩
theorem RdG.st (h:RdG enc k w w.heap.size A gs)(hb:Below w.heap.size w w'):RdG enc k w' w'.heap.size A gs:=(h.keep hb).more hb.size
theorem RdG.nil:RdG enc k w B A ([]:List (Gp α)):=⟨Rd.nil,fun g hg=>absurd hg (by simp)⟩
theorem RdG.at_ (h:RdG enc k w B A gs){i:Nat}(hi:i<gs.length):
  ∃b off g,A=some ⟨b,off,none⟩∧b<B∧gs[i]? =some g∧w.cell? ⟨b,off+i,none⟩=some (.slice g.A g.l.length g.c)∧Rd enc k w B g.A g.l:=by
 obtain⟨b,off,g,hA,hb,hg,hc⟩:=h.1.at_ hi;refine⟨b,off,g,hA,hb,hg,?_,h.2 g (List.mem_of_getElem? hg)⟩;have:=hc 0 (.slice g.A g.l.length g.c) rfl
 simpa using this
structure OwnG (eo e:Nat)(enc:α→List Value)(k:Nat)(w:World)(base:Nat)(A:Option Addr)(c:Nat)(gs:List (Gp α)):Prop where
 out:Own eo encG 1 w base A c gs
 ins:∀g∈gs,Own e enc k w base g.A g.c g.l
 ap:gs.Pairwise fun g h=>Ap g.A h.A
theorem OwnG.nil (w:World)(base:Nat):OwnG eo e enc k w base none 0 ([]:List (Gp α)):=⟨Own.nil _ _,fun g hg=>absurd hg (by simp),List.Pairwise.nil⟩
theorem OwnG.mono (h:OwnG eo e enc k w base A c gs){b:Nat}(hb:b≤base):OwnG eo e enc k w b A c gs:=⟨h.out.mono hb,fun g hg=>(h.ins g hg).mono hb,h.ap⟩
theorem OwnG.rd (h:OwnG eo e enc k w base A c gs)(hE:Enc enc k):RdG enc k w w.heap.size A gs:=⟨h.out.rd encG_ok,fun g hg=>(h.ins g hg).rd hE⟩
theorem OwnG.keep (h:OwnG eo e enc k w base A c gs)(hb:Below B w w')(hB:w.heap.size≤B):OwnG eo e enc k w' base A c gs:=⟨h.out.keep hb hB,fun g hg=>(h.ins g hg).keep hb hB,h.ap⟩
theorem OwnG.alloc (h:OwnG eo e enc k w base A c gs)(o:Obj):OwnG eo e enc k (w.alloc o) base A c gs:=⟨h.out.alloc o,fun g hg=>(h.ins g hg).alloc o,h.ap⟩
theorem OwnG.drewN (h:OwnG eo e enc k w base A c gs)(n:Nat):OwnG eo e enc k (w.drewN n) base A c gs:=⟨h.out,h.ins,h.ap⟩
theorem Own.lt2 {A:Option Addr}{c:Nat}{l:List α}(h:Own e enc k w base A c l){g:Nat}(hA:A=some ⟨g,0,none⟩):base≤g∧g<w.heap.size:=by
 rcases h.form with⟨h0,_⟩|⟨g',h1,h2,h3⟩
 ·rw[h0]at hA;cases hA
 ·rw[h1]at hA;injection hA with q;injection q with q;subst q;exact⟨h2,h3⟩
theorem OwnG.apart (h:OwnG eo e enc k w base A c gs)(hne:e≠eo){g:Gp α}(hg:g∈gs){b x:Nat}(hA:A=some ⟨x,0,none⟩)(hgA:g.A=some ⟨b,0,none⟩):b≠x:=
 (h.ins g hg).apart h.out hne hgA hA
theorem OwnG.push (h:OwnG eo e enc k w base A c gs)(hne:e≠eo){g:Gp α}(ho:Own e enc k w base g.A g.c g.l)(hap:∀g'∈gs,Ap g'.A g.A){A':Option Addr}{c':Nat}(hout:Own eo encG 1 w' base A' c' (gs++[g]))
  (hb:∀b,b<w.heap.size→(∀x,A=some ⟨x,0,none⟩→b≠x)→w'.heap[b]? =w.heap[b]?):OwnG eo e enc k w' base A' c' (gs++[g]):=by
 refine⟨hout,fun g' hg'=> ?_,?_⟩
 ·rcases List.mem_append.1 hg' with q|q
  ·exact(h.ins g' q).keepB fun b hbA hbl=>hb b hbl fun x hx=>h.apart hne q hx hbA
  ·have:g'=g:=by simpa using q
   subst this;exact ho.keepB fun b hbA hbl=>hb b hbl fun x hx=>ho.apart h.out hne hbA hx
 ·rw[List.pairwise_append];refine⟨h.ap,List.pairwise_singleton _ _,fun a ha b hb=> ?_⟩;have:b=g:=by simpa using hb
  rw[this];exact hap a ha
theorem setCell_other (w:World)(p:Addr)(v:Value){b:Nat}(h:b≠p.block):(w.setCell p v).heap[b]? =w.heap[b]? :=Below.heap_setCell w p v b h
theorem OwnG.put (h:OwnG eo e enc k w base A c gs)(hne:e≠eo){i:Nat}{g:Gp α}(hi:gs[i]? =some g){A2:Option Addr}{c2:Nat}{l2:List α}(ho:Own e enc k w' base A2 c2 l2)
  (hb:∀b,b<w.heap.size→(∀x,g.A=some ⟨x,0,none⟩→b≠x)→w'.heap[b]? =w.heap[b]?) (hl:∀x,A2=some ⟨x,0,none⟩→g.A=some ⟨x,0,none⟩∨w.heap.size≤x) {ob:Nat} (hA:A=some ⟨ob,0,none⟩):
  OwnG eo e enc k (w'.setCell ⟨ob,i,none⟩ (.slice A2 l2.length c2)) base A c (gs.set i ⟨A2,c2,l2⟩):=by
 have hmem:=List.mem_of_getElem? hi;have hob:=h.out.lt2 hA;have hne2:∀x,A2=some ⟨x,0,none⟩→x≠ob:=by
  intro x hx;rcases hl x hx with q|q
  ·exact h.apart hne hmem hA q
  ·omega
 have hO:Own eo encG 1 w' base A c gs:=h.out.keepB fun b hbA hbl=>hb b hbl fun x hx=>(h.apart hne hmem hbA hx).symm;refine⟨?_,fun g' hg'=> ?_,?_⟩
 ·have:=hO.stored encG_ok hA hi (j:=0) (by omega) (y:=⟨A2,c2,l2⟩) (u:=.slice A2 l2.length c2) rfl
  simpa using this
 ·obtain⟨j,hj⟩:=List.mem_iff_getElem?.1 hg';rw[List.getElem?_set]at hj;split at hj
  ·split at hj
   ·injection hj with hj;subst hj;exact ho.keepB fun b hbA hbl=>setCell_other _ _ _ (hne2 b hbA)
   ·cases hj
  ·rename_i hij;have hm:=List.mem_of_getElem? hj;have hap:Ap g'.A g.A:=by
    have hp:=List.pairwise_iff_getElem.1 h.ap;obtain⟨i1,i2⟩:=List.getElem?_eq_some_iff.1 hi;obtain⟨j1,j2⟩:=List.getElem?_eq_some_iff.1 hj;rcases Nat.lt_or_gt_of_ne hij with q|q
    ·have:=hp i j i1 j1 q;rw[i2,j2]at this;exact this.symm
    ·have:=hp j i j1 i1 q;rw[i2,j2]at this;exact this
   exact((h.ins g' hm).keepB fun b hbA hbl=>hb b hbl fun x hx=>fun e=>hap b hbA (by rw[hx,e])).keepB fun b hbA hbl=>setCell_other _ _ _ (h.apart hne hm hA hbA)
 ·rw[List.pairwise_iff_getElem];intro i1 j1 hi1 hj1 hij;rw[List.getElem_set,List.getElem_set];rw[List.length_set]at hi1 hj1;have hp:=List.pairwise_iff_getElem.1 h.ap;obtain⟨q1,q2⟩:=List.getElem?_eq_some_iff.1 hi;have moved:∀j (hj:j<gs.length),j≠i→Ap A2 gs[j].A:=fun j hj hji=>by
   have hap:Ap g.A gs[j].A:=by
    rcases Nat.lt_or_gt_of_ne hji with q|q
    ·have:=hp j i hj q1 q;rw[q2]at this;exact this.symm
    ·have:=hp i j q1 hj q;rw[q2]at this;exact this
   exact hap.moved (h.ins gs[j] (List.getElem_mem hj)) hl
  split
  ·rw[if_neg (by omega)];exact moved j1 hj1 (by omega)
  ·split
   ·exact(moved i1 hi1 (by omega)).symm
   ·exact hp i1 j1 hi1 hj1 hij
theorem OwnG.stored (h:OwnG eo e enc k w base A c gs)(hne:e≠eo)(hE:Enc enc k){i j m b:Nat}{g:Gp α}(hi:gs[i]? =some g)(hgA:g.A=some ⟨b,0,none⟩){x y:α}{u:Value}(hj:g.l[j]? =some x)(hm:m<k)(he:(enc x).set m u=enc y):
  OwnG eo e enc k (w.setCell ⟨b,j*k+m,none⟩ u) base A c (gs.set i ⟨g.A,g.c,g.l.set j y⟩):=by
 have hmem:=List.mem_of_getElem? hi;obtain⟨q1,q2⟩:=List.getElem?_eq_some_iff.1 hi;have hfl:(gs.set i ⟨g.A,g.c,g.l.set j y⟩).flatMap encG=gs.flatMap encG:=by
  refine List.ext_getElem? fun n=> ?_;have f1:=flat_get (encG_ok (α:=α)) (gs.set i ⟨g.A,g.c,g.l.set j y⟩) n 0 (by omega);have f2:=flat_get (encG_ok (α:=α)) gs n 0 (by omega);simp only[Nat.mul_one,Nat.add_zero]at f1 f2;rw[f1,f2,List.getElem?_set];split
  ·rename_i q;subst q;rw[hi];simp[encG]
  ·rfl
 have hO:Own eo encG 1 (w.setCell ⟨b,j*k+m,none⟩ u) base A c (gs.set i ⟨g.A,g.c,g.l.set j y⟩):=by
  have:Own eo encG 1 (w.setCell ⟨b,j*k+m,none⟩ u) base A c gs:=h.out.keepB fun x hx hxl=>setCell_other _ _ _ (h.apart hne hmem hx hgA).symm
  unfold Own at this ⊢;rw[hfl,List.length_set];exact this
 refine⟨hO,fun g' hg'=> ?_,?_⟩
 ·obtain⟨n,hn⟩:=List.mem_iff_getElem?.1 hg';rw[List.getElem?_set]at hn;split at hn
  ·injection hn with hn;subst hn;exact(h.ins g hmem).stored hE hgA hj hm he
  ·rename_i hij;have hap:Ap g'.A g.A:=by
    have hp:=List.pairwise_iff_getElem.1 h.ap;obtain⟨j1,j2⟩:=List.getElem?_eq_some_iff.1 hn;rcases Nat.lt_or_gt_of_ne hij with q|q
    ·have:=hp i n q1 j1 q;rw[q2,j2]at this;exact this.symm
    ·have:=hp n i j1 q1 q;rw[q2,j2]at this;exact this
   exact(h.ins g' (List.mem_of_getElem? hn)).keepB fun x hx hxl=>setCell_other _ _ _ fun e=>hap x hx (by rw[hgA,e])
 ·have hmap:(gs.set i ⟨g.A,g.c,g.l.set j y⟩).map (·.A)=gs.map (·.A):=by
   refine List.ext_getElem? fun n=> ?_;rw[List.getElem?_map,List.getElem?_map,List.getElem?_set];split
   ·rename_i q;subst q;rw[hi];simp
   ·rfl
  have h1:=h.ap;rw[←List.pairwise_map (f:=fun g:Gp α=>g.A) (R:=fun a b=>Ap a b)]at h1 ⊢;rw[hmap];exact h1
end
end
section
open Go.RowKit Go.Lib Go.Sort
open Mat
def ordS {α:Type}(lt:α→α→Bool)(l:List α):List α:=l.foldl (fun r x=>insS lt x r) []
theorem ordS_from {α:Type}{lt:α→α→Bool}(h:SWO lt):∀(l p r:List α),StabOf lt p r→StabOf lt (p++l) (l.foldl (fun r x=>insS lt x r) r):=by
 intro l;induction l with
 |nil=>intro p r q;simpa using q
 |cons x l ih=>
  intro p r q;have:=ih (p++[x]) (insS lt x r) (q.snoc h x)
  simpa using this
theorem ordS_ok {α:Type}{lt:α→α→Bool}(h:SWO lt)(l:List α):StabOf lt l (ordS lt l):=by
 exact ordS_from h l [] [] StabOf.nil
theorem StabOf.ord {α:Type}{lt:α→α→Bool}(h:SWO lt){l r:List α}(q:StabOf lt l r):r=ordS lt l:=q.unique (ordS_ok h l)
def srtS (l:List Sn):List Sn:=ordS (ltOf cmpSn) l
def nearB (a b gap:Int):Bool:=decide (max a b-min a b≤max gap 0)
def closeB (gap:Int)(a b:Sn):Bool:=eqS a.pt b.pt&&nearB a.t b.t gap
def frTk (gap:Int)(f:List Sn)(s:Sn):Bool:=closeB gap (f.getLastD default) s
def framesV (gap:Int)(S:List Sn):List (List Sn):=groups (frTk gap) (srtS S)
def lacksV (s:Sn):Int:=(1000-min (max s.d.sc 0) 1000)/10
def distI (a b:Int):Int:=max a b-min a b
def pairV (a b:Sn):Int:=
 if a.kind=1∧b.kind=2∧eqS a.pt b.pt=true∧distI a.t b.t≤20 then 10*distI a.t b.t+lacksV a+lacksV b+(if a.lane=b.lane then 0 else 50)else-1
def axlV (t:Int)(pt:ByteArray)(lane:Int)(s:Sn):Int:=
 if s.kind=3∧eqS pt s.pt=true∧distI t s.t≤10 then 5*distI t s.t+(if s.lane=lane then 0 else 40)else-1
def joinsB (f s:Sn):Bool:=if f.kind=s.kind then(if s.kind=1 then eqS f.d.tag s.d.tag else sameB f.d.pl s.d.pl)else false
def mgTk (g:List Sn)(s:Sn):Bool:=joinsB (g.headD default) s
def tcB (s:Sn):Bool:=s.kind==1||s.kind==2
def mergeV (l:List Sn):List (List Sn):=groups mgTk ((srtS l).filter tcB)
def leastStep (a:Sn)(m:Int)(b:Sn):Int:=if 0≤pairV a b∧(m<0∨pairV a b<m)then pairV a b else m
def leastV (ga gb:List Sn):Int:=ga.foldl (fun m a=>gb.foldl (leastStep a) m) (-1)
def matV (ts ps:List (List Sn)):M:=⟨List.replicate ts.length 200,List.replicate ps.length 200,ts.map fun a=>ps.map fun b=>leastV a b⟩
def loopsV (vs:List (ByteArray×Int×Int))(ls:List Sn):M:=⟨List.replicate vs.length 100,List.replicate ls.length 100,vs.map fun v=>ls.map fun s=>axlV v.2.1 v.1 v.2.2 s⟩
def confV (b m:Int):Int:=min (max (600+2*(if m= -1 then 1000 else m)-b) 0) 1000
def keyS (s:Sn):Src:=srcOf s.d
def cmpSr (a b:Src):Int:=firstI [cmpS a.1 b.1,cmpI a.2 b.2]
theorem cmpSr_pre:PreC cmpSr:=(cmpS_pre.on Prod.fst).cons (pre_one (cmpI_pre.on Prod.snd))
theorem cmpSr_zero {a b:Src}:cmpSr a b=0↔a=b:=by
 unfold cmpSr;rw[firstI_zero];constructor
 ·intro h;have h1:=cmpS_zero.1 (h (cmpS a.1 b.1) (by simp));have h2:=cmpI_zero.1 (h (cmpI a.2 b.2) (by simp));exact Prod.ext h1 h2
 ·rintro rfl x hx;simp only[List.mem_cons,List.not_mem_nil,or_false]at hx;rcases hx with rfl|rfl<;>first|exact cmpI_zero.2 rfl|exact cmpS_zero.2 rfl
def srcsV (l:List Sn):List Src:=ordS (ltOf cmpSr) (l.map keyS)
def dotB:ByteArray:=⟨#[46]⟩
def itoaB (n:Int):ByteArray:=⟨(Lib.itoa n).toArray⟩
def idV (l:List Src):ByteArray:=match l with
 |[]=>⟨#[]⟩
 |s::_=>s.1++dotB++itoaB s.2
def inSb (o:List ByteArray)(s:ByteArray):Bool:=o.any fun y=>eqS y s
def uniq (l:List ByteArray):List ByteArray:=l.foldl (fun o s=>if inSb o s=true then o else o++[s]) []
def ltS:ByteArray→ByteArray→Bool:=ltOf cmpS
def rdsV (g:List Sn):List (ByteArray×Int):=g.map fun s=>(s.d.pl,s.d.sc)
def vList (l:List (ByteArray×Int)):ByteArray:=(vBest (wSum l) (ordS ltS (uniq (l.map Prod.fst))) (ordS ltS (uniq (l.map Prod.fst)))).1
def voteV (g:List Sn):ByteArray:=vList (rdsV g)
structure Tg where
 tag:ByteArray
 frm:Int
 st:Int
instance : Inhabited Tg := ⟨⟨⟨#[]⟩, 0, 0⟩⟩
structure Cl where
 frm:Int
 to:Int
 cl:Int
instance : Inhabited Cl := ⟨⟨0, 0, 0⟩⟩
structure Cf where
 tags:List Tg
 cls:List Cl
 gap:Int
 weak:Int
def stLast (tag:ByteArray)(t:Int)(l:List Tg):Int:=l.foldl (fun s x=>if eqS x.tag tag=true∧x.frm≤t then x.st else s) 1
def stateV (l:List Tg)(tag:ByteArray)(t:Int):Int:=if tagB tag=true then stLast tag t l else 0
def clsV (l:List Cl)(n:Int):Int:=match l.find? (fun r=>decide (r.frm≤n)&&decide (n≤r.to))with
 |some r=>r.cl
 |none=>1
structure Vv where
 reads:List Sn
 pt:ByteArray
 t:Int
 tag:ByteArray
 pl:ByteArray
 sc:Int
 lane:Int
def makeV (c:Cf)(margin:Int)(ts ps:List Sn)(cost:Int):Vv:=
 let r:=srtS (ts++ps)
 let f:=r.headD default
 ⟨r,f.pt,f.t,if ts≠[]∧stateV c.tags (ts.headD default).d.tag f.t=1 then(ts.headD default).d.tag else⟨#[]⟩,voteV ps,confV cost margin,f.lane⟩
def loopB (s:Sn):Bool:=s.kind==3
def tagG (g:List Sn):Bool:=(g.headD default).kind==1
def loopsOf (f:List Sn):List Sn:=(srtS f).filter loopB
def tagsOf (f:List Sn):List (List Sn):=(mergeV (srtS f)).filter tagG
def platesOf (f:List Sn):List (List Sn):=(mergeV (srtS f)).filter fun g=> !tagG g
def blockedB (f:List Sn):Bool:=
 decide (24<f.length)||decide (8<(tagsOf f).length)||decide (8<(platesOf f).length)||decide (8<(loopsOf f).length)||(srtS f).any fun s=> !eqS s.pt ((srtS f).headD default).pt
def asgM (f:List Sn):M:=matV (tagsOf f) (platesOf f)
def costM (m:M):Int:=tab m (free m) m.n 0
def marginV (m:M):Int:=if(second m).ok=true then(second m).least-costM m else-1
def tagVs (c:Cf)(f:List Sn):List Vv:=
 (
  List.range (tagsOf f).length).map fun i=>
  let j:=(best (asgM f)).getD i (-1)
  let g:=(tagsOf f).getD i []
  if j<0 then makeV c (marginV (asgM f)) g [] 200 else makeV c (marginV (asgM f)) g ((platesOf f).getD j.toNat []) ((asgM f).c i j.toNat)
def plateVs (c:Cf)(f:List Sn):List Vv:=(alone (platesOf f) (best (asgM f))).map fun g=>makeV c (marginV (asgM f)) [] g 200
def vehV (c:Cf)(f:List Sn):List Vv:=tagVs c f++plateVs c f
def identB (v:Vv):Bool:= !(emp v.tag)|| !(emp v.pl)
def ptl (v:Vv):ByteArray×Int×Int:=(v.pt,v.t,v.lane)
def loopAt (vs:List Vv)(ls:List Sn):List Int:=
 if 8<(vs.filter identB).length then List.replicate vs.length (-1)else spread (vs.map identB) (best (loopsV ((vs.filter identB).map ptl) ls))
structure Pv where
 id:ByteArray
 pt:ByteArray
 t:Int
 tag:ByteArray
 pl:ByteArray
 cl:Int
 sc:Int
 src:List Src
def fullV (ls:List Sn)(x:Vv×Int):List Sn:=x.1.reads++(if x.2<0 then[]else[ls.getD x.2.toNat default])
def keepV (c:Cf)(x:Vv×Int):Bool:=identB x.1&&decide (c.weak≤x.1.sc)
def passV (c:Cf)(ls:List Sn)(x:Vv×Int):Pv:=
 ⟨idV (srcsV (fullV ls x)),x.1.pt,x.1.t,x.1.tag,x.1.pl,if x.2<0 then 1 else clsV c.cls (ls.getD x.2.toNat default).d.ax,x.1.sc,srcsV (fullV ls x)⟩
def rejsV (why:Int)(l:List Sn):List Rj:=l.map fun s=>⟨s.d,why⟩
def pairsV (c:Cf)(f:List Sn):List (Vv×Int):=(vehV c f).zip (loopAt (vehV c f) (loopsOf f))
def cmpPv (a b:Pv):Int:=firstI [cmpI a.t b.t,cmpS a.pt b.pt,cmpS a.id b.id]
def frPs (c:Cf)(f:List Sn):List Pv:=if blockedB f=true then[]else ordS (ltOf cmpPv) (((pairsV c f).filter (keepV c)).map (passV c (loopsOf f)))
def frRs (c:Cf)(f:List Sn):List Rj:=
 if blockedB f=true then ordS (ltOf cmpRj) (rejsV 8 f)
 else ordS (ltOf cmpRj) (((pairsV c f).filter fun x=> !keepV c x).flatMap (fun x=>rejsV 7 (fullV (loopsOf f) x))++rejsV 6 ((aloneN (loopsOf f).length (loopAt (vehV c f) (loopsOf f))).map fun j=>(loopsOf f).getD j default))
def allPs (c:Cf)(S:List Sn):List Pv:=ordS (ltOf cmpPv) ((framesV c.gap S).flatMap (frPs c))
def allRs (c:Cf)(S:List Sn):List Rj:=ordS (ltOf cmpRj) ((framesV c.gap S).flatMap (frRs c))
end
section
namespace Mat
section
variable {α:Type}{tk:List α→α→Bool}
theorem into_hit {s:α}:∀{out:List (List α)} {i:Nat} {g:List α},out[i]? =some g→(∀j g',j<i→out[j]? =some g'→tk g' s=false)→tk g s=true→into tk s out=out.set i (g++[s])
 |[],i,g,h,_,_=>by simp at h
 |a::out,0,g,h,_,ht=>by
  simp at h;subst h;unfold into;rw[if_pos ht];rfl
 |a::out,i+1,g,h,hn,ht=>by
  unfold into;have ha:=hn 0 a (by omega) rfl;rw[if_neg (by rw[ha];simp),List.set_cons_succ];rw[into_hit (out:=out) (i:=i) (g:=g) (by simpa using h) (fun j g' hj hg=>hn (j+1) g' (by omega) (by simpa using hg)) ht]
theorem into_miss {s:α}:∀{out:List (List α)},(∀g∈out,tk g s=false)→into tk s out=out++[[s]]
 |[],_=>rfl
 |a::out,h=>by
  unfold into;rw[if_neg (by rw[h a List.mem_cons_self];simp),into_miss (out:=out) fun g hg=>h g (List.mem_cons_of_mem _ hg)];rfl
theorem groups_snoc (l:List α)(s:α):groups tk (l++[s])=into tk s (groups tk l):=by unfold groups;rw[List.foldl_append];rfl
theorem groups_len:∀(l:List α),(groups tk l).length≤l.length:=by
 have hi:∀(s:α) (out:List (List α)),(into tk s out).length≤out.length+1:=by
  intro s out;induction out with
  |nil=>exact Nat.le_refl _
  |cons a out ih=>unfold into;split;simp;simpa using ih
 have:∀(l:List α) (out:List (List α)),(l.foldl (fun out s=>into tk s out) out).length≤out.length+l.length:=by
  intro l;induction l with
  |nil=>intro out;simp
  |cons a l ih=>intro out;have:=ih (into tk a out);have:=hi a out;simp only[List.foldl_cons,List.length_cons];omega
 intro l;have:=this l []
 simpa[groups]using this
theorem groups_mem {l:List α}{g:List α}(hg:g∈groups tk l):g.length≤l.length∧∀x∈g,x∈l:=by
 have hp:=groups_perm tk l;refine⟨?_,fun x hx=>hp.mem_iff.1 (List.mem_flatten.2 ⟨g,hg,hx⟩)⟩;rw[←hp.length_eq];exact(List.sublist_flatten_of_mem hg).length_le
end
end Mat
end
section
open Go.RowKit Go.Lib Go.Sort
open Mat
theorem ordS_perm {α:Type}{f:α→α→Int}(h:PreC f)(l:List α):(ordS (ltOf f) l).Perm l:=(ordS_ok h.swo l).perm
theorem srtS_perm (l:List Sn):(srtS l).Perm l:=ordS_perm cmpSn_pre l
theorem cmpPv_pre:PreC cmpPv:=(cmpI_pre.on Pv.t).cons ((cmpS_pre.on Pv.pt).cons (pre_one (cmpS_pre.on Pv.id)))
theorem frames_flat (gap:Int)(S:List Sn):(framesV gap S).flatten.Perm S:=(groups_perm _ _).trans (srtS_perm S)
theorem paired_range {α:Type}(ps:List (List α)):∀(gs:List (List α)) (js:List Int),gs.length=js.length→
  (List.range gs.length).map (fun i=>(gs.getD i [],if js.getD i (-1)<0 then[]else ps.getD (js.getD i (-1)).toNat []))=paired ps gs js
 |[],[],_=>rfl
 |[],_::_,h=>by simp at h
 |_::_,[],h=>by simp at h
 |g::gs,j::js,h=>by
  have ih:=paired_range ps gs js (by simpa using h);rw[List.length_cons,List.range_succ_eq_map,List.map_cons,List.map_map];unfold paired;rw[←ih];congr 1
theorem zip_paired (ls:List Sn):∀(vs:List Vv) (js:List Int),vs.length=js.length→(∀j∈js,0≤j→j<ls.length)→
  (vs.zip js).flatMap (fullV ls)=(paired (ls.map fun x=>[x]) (vs.map Vv.reads) js).flatMap fun v=>v.1++v.2
 |[],[],_,_=>rfl
 |[],_::_,h,_=>by simp at h
 |_::_,[],h,_=>by simp at h
 |v::vs,j::js,h,hj=>by
  have ih:=zip_paired ls vs js (by simpa using h) fun j q=>hj j (List.mem_cons_of_mem _ q);rw[List.zip_cons_cons,List.flatMap_cons,List.map_cons];unfold paired;rw[List.flatMap_cons,ih];congr 1;unfold fullV;by_cases q:j<0
  ·rw[if_pos q,if_pos q]
  ·have:=hj j List.mem_cons_self (by omega)
   rw[if_neg q,if_neg q];congr 1;rw[List.getD_eq_getElem?_getD,List.getD_eq_getElem?_getD,List.getElem?_map,List.getElem?_eq_getElem (show j.toNat<ls.length by omega)];rfl
theorem matV_ok (ts ps:List (List Sn)):Ok (matV ts ps):=by
 refine⟨fun c hc=> ?_,fun c hc=> ?_⟩<;>(simp only[matV]at hc;rw[List.eq_of_mem_replicate hc];omega)
theorem loopsV_ok (vs:List (ByteArray×Int×Int))(ls:List Sn):Ok (loopsV vs ls):=by
 refine⟨fun c hc=> ?_,fun c hc=> ?_⟩<;>(simp only[loopsV]at hc;rw[List.eq_of_mem_replicate hc];omega)
theorem asg_tags (f:List Sn):(best (asgM f)).length=(tagsOf f).length∧Asg (platesOf f).length 0 (best (asgM f)):=by
 have h:=best_asg (matV_ok (tagsOf f) (platesOf f));unfold asgM;refine⟨?_,?_⟩
 ·rw[h.1];simp[M.n,matV]
 ·have h2:=h.2;rwa [show(matV (tagsOf f) (platesOf f)).col.length=(platesOf f).length by simp[matV]]at h2
theorem asg_loops (vs:List Vv)(ls:List Sn):(loopAt vs ls).length=vs.length∧Asg ls.length 0 (loopAt vs ls):=by
 unfold loopAt;split
 ·exact⟨by simp,none_asg _ _⟩
 ·have h:=(best_asg (loopsV_ok ((vs.filter identB).map ptl) ls)).2;rw[show(loopsV ((vs.filter identB).map ptl) ls).col.length=ls.length by simp[loopsV]]at h;exact⟨by rw[spread_len,List.length_map],spread_asg _ _ _ h⟩
theorem make_reads (c:Cf)(m:Int)(ts ps:List Sn)(k:Int):(makeV c m ts ps k).reads.Perm (ts++ps):=srtS_perm _
theorem tagVs_reads (c:Cf)(f:List Sn):((tagVs c f).map Vv.reads).flatten.Perm (((paired (platesOf f) (tagsOf f) (best (asgM f))).map fun v=>v.1++v.2).flatten):=by
 rw[←paired_range (platesOf f) (tagsOf f) (best (asgM f)) (asg_tags f).1.symm];unfold tagVs;rw[List.map_map,List.map_map];refine flat_each (fun i=> ?_) _;simp only[Function.comp_apply];split
 ·exact make_reads _ _ _ _ _
 ·exact make_reads _ _ _ _ _
theorem plateVs_reads (c:Cf)(f:List Sn):((plateVs c f).map Vv.reads).flatten.Perm (alone (platesOf f) (best (asgM f))).flatten:=by
 unfold plateVs;rw[List.map_map];have:=flat_each (F:=Vv.reads∘fun g=>makeV c (marginV (asgM f)) [] g 200) (G:=id) (fun g=>by simpa using make_reads c (marginV (asgM f)) [] g 200) (alone (platesOf f) (best (asgM f)))
 simpa using this
theorem veh_reads (c:Cf)(f:List Sn):((vehV c f).map Vv.reads).flatten.Perm ((tagsOf f).flatten++(platesOf f).flatten):=by
 unfold vehV;rw[List.map_append,List.flatten_append];refine((tagVs_reads c f).append (plateVs_reads c f)).trans ?_;rw[←List.flatMap_def];exact vehicles_perm (asg_tags f).1.symm (asg_tags f).2
def Kinds (l:List Sn):Prop:=∀s∈l,s.kind=1∨s.kind=2∨s.kind=3
theorem filter_tc {l:List Sn}(h:Kinds l):l.filter tcB=l.filter fun s=> !loopB s:=by
 refine List.filter_congr fun s hs=> ?_;unfold tcB loopB;rcases h s hs with q|q|q<;>rw[q]<;>rfl
theorem parts_perm {f:List Sn}(h:Kinds f):((tagsOf f).flatten++(platesOf f).flatten++loopsOf f).Perm f:=by
 have hk:Kinds (srtS (srtS f)):=fun s hs=>h s ((srtS_perm f).mem_iff.1 ((srtS_perm (srtS f)).mem_iff.1 hs));have:=divide_perm (f:=f) (all:=srtS f) (srt:=srtS (srtS f)) mgTk tagG loopB (srtS_perm f) (srtS_perm _)
 rw[←filter_tc hk]at this;exact this
def fulls (c:Cf)(f:List Sn):List (List Sn):=if blockedB f=true then[]else((pairsV c f).filter (keepV c)).map (fullV (loopsOf f))
def offs (c:Cf)(f:List Sn):List Sn:=
 if blockedB f=true then f else((pairsV c f).filter fun x=> !keepV c x).flatMap (fullV (loopsOf f))++(aloneN (loopsOf f).length (loopAt (vehV c f) (loopsOf f))).map fun j=>(loopsOf f).getD j default
theorem alone_single {α:Type}[Inhabited α](ls:List α)(js:List Int):(alone (ls.map fun x=>[x]) js).flatten=(aloneN ls.length js).map fun j=>ls.getD j default:=by
 unfold alone;rw[List.length_map];have:∀l:List Nat,(∀j∈l,j<ls.length)→(l.map fun j=>(ls.map fun x=>[x]).getD j []).flatten=l.map fun j=>ls.getD j default:=by
  intro l;induction l with
  |nil=>intro _;rfl
  |cons a l ih=>
   intro h;rw[List.map_cons,List.flatten_cons,ih fun j q=>h j (List.mem_cons_of_mem _ q),List.map_cons];have ha:=h a List.mem_cons_self;rw[List.getD_eq_getElem?_getD,List.getElem?_map,List.getElem?_eq_getElem ha,List.getD_eq_getElem?_getD,List.getElem?_eq_getElem ha];rfl
 refine this _ fun j hj=> ?_;unfold aloneN at hj;exact List.mem_range.1 (List.mem_filter.1 hj).1
theorem fr_perm (c:Cf){f:List Sn}(h:Kinds f):((fulls c f).flatten++offs c f).Perm f:=by
 unfold fulls offs;by_cases hb:blockedB f=true
 ·rw[if_pos hb,if_pos hb];exact List.Perm.refl _
 ·rw[if_neg hb,if_neg hb,←List.flatMap_def,←List.append_assoc];have hl:=asg_loops (vehV c f) (loopsOf f);refine((flat_parts (keepV c) (fullV (loopsOf f)) (pairsV c f)).append_right _).trans ?_;unfold pairsV;rw[zip_paired (loopsOf f) (vehV c f) _ hl.1.symm fun j hj h0=>(asg_new hl.2 hj h0).1,←alone_single];have h1:=vehicles_perm (ps:=(loopsOf f).map fun x=>[x]) (gs:=(vehV c f).map Vv.reads) (js:=loopAt (vehV c f) (loopsOf f)) (mask:=0) (by rw[List.length_map,hl.1]) (by rw[List.length_map];exact hl.2);rw[single_flat]at h1;exact h1.trans (((veh_reads c f).append_right _).trans (parts_perm h))
theorem fr_ps (c:Cf)(f:List Sn):(frPs c f).map Pv.src|>.Perm ((fulls c f).map srcsV):=by
 unfold frPs fulls;split
 ·exact List.Perm.refl _
 ·refine((ordS_perm cmpPv_pre _).map Pv.src).trans ?_;rw[List.map_map,List.map_map];exact List.Perm.refl _
theorem fr_rs (c:Cf)(f:List Sn):((frRs c f).map Rj.d).Perm ((offs c f).map Sn.d):=by
 unfold frRs offs;have e:∀(w:Int) (l:List Sn),(rejsV w l).map Rj.d=l.map Sn.d:=fun w l=>by unfold rejsV;rw[List.map_map];rfl
 split
 ·refine((ordS_perm cmpRj_pre _).map Rj.d).trans ?_;rw[e]
 ·refine((ordS_perm cmpRj_pre _).map Rj.d).trans ?_;rw[List.map_append,List.map_append,e,List.map_flatMap,List.map_flatMap];simp only[e];exact List.Perm.refl _
theorem flat_perm2 {α β γ:Type}{F:α→List β}{G:α→List γ}{f:β→γ}(h:∀x,((F x).map f).Perm (G x)):∀l:List α,((l.flatMap F).map f).Perm (l.flatMap G)
 |[]=>List.Perm.refl _
 |a::l=>by rw[List.flatMap_cons,List.flatMap_cons,List.map_append];exact(h a).append (flat_perm2 h l)
theorem all_ps (c:Cf)(S:List Sn):((allPs c S).map Pv.src).Perm (((framesV c.gap S).flatMap (fulls c)).map srcsV):=by
 unfold allPs;refine((ordS_perm cmpPv_pre _).map Pv.src).trans ?_;rw[show((framesV c.gap S).flatMap (fulls c)).map srcsV=(framesV c.gap S).flatMap (fun f=>(fulls c f).map srcsV)from List.map_flatMap ..];exact flat_perm2 (fun f=>fr_ps c f) _
theorem all_rs (c:Cf)(S:List Sn):((allRs c S).map Rj.d).Perm (((framesV c.gap S).flatMap (offs c)).map Sn.d):=by
 unfold allRs;refine((ordS_perm cmpRj_pre _).map Rj.d).trans ?_;rw[show((framesV c.gap S).flatMap (offs c)).map Sn.d=(framesV c.gap S).flatMap (fun f=>(offs c f).map Sn.d)from List.map_flatMap ..];exact flat_perm2 (fun f=>fr_rs c f) _
theorem all_perm (c:Cf){S:List Sn}(h:Kinds S):(((framesV c.gap S).flatMap (fulls c)).flatten++(framesV c.gap S).flatMap (offs c)).Perm S:=
 frames_perm (frames_flat c.gap S) fun g hg=>fr_perm c fun s hs=>h s ((frames_flat c.gap S).mem_iff.1 (List.mem_flatten.2 ⟨g,hg,hs⟩))
theorem srcs_mem (g:List Sn)(k:Src):k∈srcsV g↔k∈g.map keyS:=(ordS_perm cmpSr_pre _).mem_iff
theorem srcs_nodup {g:List Sn}(h:(g.map keyS).Nodup):(srcsV g).Nodup:=(ordS_perm cmpSr_pre _).nodup_iff.2 h
instance : DecidableEq Src := inferInstanceAs (DecidableEq (ByteArray × Int))
def cntD (d:Dt)(l:List Dt):Nat:=l.countP fun x=>cmpDt x d==0
def cntK (k:Src)(l:List Src):Nat:=l.countP fun x=>eqS x.1 k.1&&x.2==k.2
theorem cntK_count (inst:DecidableEq Src)(k:Src)(l:List Src):cntK k l= @List.count Src (@instBEqOfDecidableEq Src inst) k l:=by
 unfold cntK;refine List.countP_congr (q:=fun x=> @BEq.beq Src (@instBEqOfDecidableEq Src inst) x k) fun x _=> ?_;show _↔ @decide (x=k) _=true
 rw[Bool.and_eq_true,eqS_iff,beq_iff_eq,decide_eq_true_eq,Prod.ext_iff]
def fateV (d:Dt)(ps:List Pv)(rs more:List Rj):Nat:=
 if 0<cntD d (rs.map Rj.d)+cntD d (more.map Rj.d)then cntD d (rs.map Rj.d)+cntD d (more.map Rj.d)else((ps.map Pv.src).map (cntK (srcOf d))).sum
theorem cntD_count (d:Dt)(l:List Dt):cntD d l=l.count d:=by
 unfold cntD List.count;refine List.countP_congr fun x _=> ?_;rw[beq_iff_eq,cmpDt_zero,beq_iff_eq]
theorem perm_sum {l r:List Nat}(h:l.Perm r):l.sum=r.sum:=by
 induction h with
 |nil=>rfl
 |cons x _ ih=>simp only[List.sum_cons,ih]
 |swap x y l=>simp only[List.sum_cons];omega
 |trans _ _ a b=>exact a.trans b
theorem asc_nodup {α:Type}{f:α→α→Int}(h:PreC f){l:List α}(hl:AscC f l):l.Nodup:=
 hl.imp fun{a b} hab e=>by subst e;have:=h.s a a;omega
section
variable {l:List Dv}{ds:List Dt}{S:List Sn}{R:List Rj}
theorem corS_d {d:Dt}(h:whyF l ds d=0):(corS l d).d=d:=by
 have hc:corW l d=0:=by
  unfold whyF at h;split at h
  ·omega
  ·exact h
 unfold corS;rw[if_pos hc];rfl
theorem whyF_con {d:Dt}(h:whyF l ds d=0):conB ds d=false:=by
 unfold whyF at h;cases q:conB ds d
 ·rfl
 ·rw[q,if_pos rfl]at h;omega
theorem sift_keys (h:SiftOf l ds S R):(S.map keyS).Nodup:=by
 obtain⟨h1,_,h3,_⟩:=h;unfold List.Nodup;rw[List.pairwise_map];refine List.Pairwise.imp_of_mem ?_ (asc_nodup cmpSn_pre h1);intro a b ha hb hab e;obtain⟨d,hd,hw,rfl⟩:=(h3 a).1 ha;obtain⟨d2,hd2,hw2,rfl⟩:=(h3 b).1 hb;unfold keyS at e;rw[corS_d hw,corS_d hw2]at e;have h5:=whyF_con hw;have h6:¬∃e∈ds,e.dev=d.dev∧e.seq=d.seq∧e≠d:=fun q=>by rw[(conB_iff ds d).2 q]at h5;cases h5
 refine h6 ⟨d2,hd2,?_,?_,fun q=>hab (by rw[q])⟩
 ·exact(congrArg Prod.fst e).symm
 ·exact(congrArg Prod.snd e).symm
theorem nodup_of_map {α β:Type}{f:α→β}:∀{l:List α},(l.map f).Nodup→l.Nodup
 |[],_=>List.Pairwise.nil
 |a::l,h=>by
  rw[List.map_cons,List.nodup_cons]at h;rw[List.nodup_cons];exact⟨fun q=>h.1 (List.mem_map_of_mem q),nodup_of_map h.2⟩
theorem seen_fate (c:Cf)(h:SiftOf l ds S R)(hk:Kinds S){d:Dt}(hd:d∈ds):fateV d (allPs c S) R (allRs c S)=1:=by
 have hkeys:=sift_keys h;have hperm:=all_perm c hk;have hdn:(S.map Sn.d).Nodup:=by
  have:S.map keyS=(S.map Sn.d).map srcOf:=by rw[List.map_map];rfl
  rw[this]at hkeys;exact nodup_of_map hkeys
 obtain⟨_,h2,h3,h4⟩:=h;have hR:(R.map Rj.d).Nodup:=by
  unfold List.Nodup;rw[List.pairwise_map];refine List.Pairwise.imp_of_mem ?_ (asc_nodup cmpRj_pre h2);intro a b ha hb hab e;obtain⟨d1,_,_,rfl⟩:=(h4 a).1 ha;obtain⟨d2,_,_,rfl⟩:=(h4 b).1 hb;simp only at e;exact hab (by rw[e])
 have hcR:cntD d (R.map Rj.d)=if whyF l ds d≠0 then 1 else 0:=by
  rw[cntD_count,hR.count];have q:d∈R.map Rj.d↔whyF l ds d≠0:=by
   rw[List.mem_map];constructor
   ·rintro⟨r,hr,rfl⟩;obtain⟨d1,_,hw,rfl⟩:=(h4 r).1 hr;exact hw
   ·intro hw;exact⟨⟨d,whyF l ds d⟩,(h4 _).2 ⟨d,hd,hw,rfl⟩,rfl⟩
  by_cases hw:whyF l ds d≠0
  ·rw[if_pos hw,if_pos (q.2 hw)]
  ·rw[if_neg hw,if_neg fun h=>hw (q.1 h)]
 have hcM:cntD d ((allRs c S).map Rj.d)=(((framesV c.gap S).flatMap (offs c)).map Sn.d).count d:=by rw[cntD_count];exact(all_rs c S).count_eq d
 have hoff:∀x∈(framesV c.gap S).flatMap (offs c),x∈S:=fun x hx=>hperm.mem_iff.1 (List.mem_append.2 (Or.inr hx));have hon:(((framesV c.gap S).flatMap (offs c)).map Sn.d).Nodup:=by
  have hp:=(hperm.map Sn.d).nodup_iff.2 hdn;rw[List.map_append,List.nodup_append]at hp;exact hp.2.1
 by_cases hw:whyF l ds d=0
 ·rw[if_neg (by simpa using hw)]at hcR;have hs:corS l d∈S:=(h3 _).2 ⟨d,hd,hw,rfl⟩;have hsd:=corS_d hw;by_cases hx:corS l d∈(framesV c.gap S).flatMap (offs c)
  ·have hc1:(((framesV c.gap S).flatMap (offs c)).map Sn.d).count d=1:=by
    rw[hon.count,if_pos];have:=List.mem_map_of_mem (f:=Sn.d) hx
    rwa [hsd]at this
   unfold fateV;rw[hcR,hcM,hc1];rfl
  ·have hc0:(((framesV c.gap S).flatMap (offs c)).map Sn.d).count d=0:=by
    rw[hon.count,if_neg];intro q;obtain⟨x,hxm,hxd⟩:=List.mem_map.1 q;obtain⟨d2,_,hw2,rfl⟩:=(h3 x).1 (hoff x hxm);rw[corS_d hw2]at hxd;subst hxd;exact hx hxm
   unfold fateV;rw[hcR,hcM,hc0,if_neg (by omega)];have hsum:((allPs c S).map Pv.src|>.map (cntK (srcOf d))).sum=((((framesV c.gap S).flatMap (fulls c)).map srcsV).map (cntK (srcOf d))).sum:=
    perm_sum ((all_ps c S).map _)
   rw[hsum,List.map_map];have:=fate_source (key:=keyS) (f:=srcsV) hperm hkeys (fun g hg=>⟨?_,srcs_mem g⟩) hs hx
   ·have e:keyS (corS l d)=srcOf d:=by unfold keyS;rw[hsd]
    rw[e]at this;refine Eq.trans (congrArg List.sum (List.map_congr_left fun g _=> ?_)) this;exact cntK_count _ _ _
   ·refine srcs_nodup ?_;have hp:=(hperm.map keyS).nodup_iff.2 hkeys;rw[List.map_append,List.nodup_append]at hp;exact List.Sublist.nodup (List.Sublist.map keyS (List.sublist_flatten_of_mem hg)) hp.1
 ·rw[if_pos hw]at hcR;have hc0:(((framesV c.gap S).flatMap (offs c)).map Sn.d).count d=0:=by
   rw[hon.count,if_neg];intro q;obtain⟨x,hxm,hxd⟩:=List.mem_map.1 q;obtain⟨d2,_,hw2,rfl⟩:=(h3 x).1 (hoff x hxm);rw[corS_d hw2]at hxd;subst hxd;exact hw hw2
  unfold fateV;rw[hcR,hcM,hc0];rfl
end
end
end Go.Proofs.YtimffppffbideaaGreatDoor
