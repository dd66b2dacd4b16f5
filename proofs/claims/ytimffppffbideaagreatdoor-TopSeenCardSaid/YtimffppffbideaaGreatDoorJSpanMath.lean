import Derived.Test.YtimffppffbideaaGreatDoorProg
import Derived.Test.YtimffppffbideaaGreatDoorJStabMath
import Derived.RangeFuncNested
import Derived.RangeFuncBound
set_option linter.unusedSimpArgs false
set_option linter.unusedVariables false
namespace Go.Proofs.YtimffppffbideaaGreatDoor
section
abbrev Iv:=Int×Int
def vld (x:Iv):Prop:=0≤x.1∧x.1<x.2∧x.2≤68719476736
instance (x : Iv) : Decidable (vld x) := by unfold vld; infer_instance
def validB (f t:Int):Bool:=decide (0≤f∧f<t∧t≤68719476736)
theorem validB_iff (f t:Int):validB f t=true↔vld (f,t):=by simp[validB,vld]
def Mem (l:List Iv)(t:Int):Prop:=∃x∈l,vld x∧x.1≤t∧t<x.2
def NF (l:List Iv):Prop:=(∀x∈l,vld x)∧l.Pairwise fun x y=>x.2<y.1
def len (l:List Iv):Int:=(l.map fun x=>x.2-x.1).sum
theorem Mem.nil (t:Int):¬Mem [] t:=by rintro⟨x,hx,_⟩;simp at hx
theorem Mem.cons (x:Iv)(l:List Iv)(t:Int):Mem (x::l) t↔(vld x∧x.1≤t∧t<x.2)∨Mem l t:=by
 simp[Mem]
theorem Mem.append (a b:List Iv)(t:Int):Mem (a++b) t↔Mem a t∨Mem b t:=by
 simp[Mem,or_and_right,exists_or]
theorem Mem.perm {a b:List Iv}(h:a.Perm b)(t:Int):Mem a t↔Mem b t:=by
 simp[Mem,h.mem_iff]
theorem Mem.range {l:List Iv}{t:Int}(h:Mem l t):0≤t∧t<68719476736:=by
 obtain⟨x,_,hv,h1,h2⟩:=h;unfold vld at hv;omega
theorem Mem.filter (l:List Iv)(t:Int):Mem (l.filter fun x=>validB x.1 x.2) t↔Mem l t:=by
 constructor
 ·rintro⟨x,hx,h⟩;rw[List.mem_filter]at hx;exact⟨x,hx.1,h⟩
 ·rintro⟨x,hx,hv,h⟩;exact⟨x,List.mem_filter.2 ⟨hx,(validB_iff _ _).2 hv⟩,hv,h⟩
theorem NF.nil:NF []:=⟨by simp,List.Pairwise.nil⟩
theorem NF.cons_iff (x:Iv)(l:List Iv):NF (x::l)↔vld x∧(∀y∈l,x.2<y.1)∧NF l:=by
 unfold NF;simp only[List.mem_cons,List.pairwise_cons,forall_eq_or_imp];constructor
 ·rintro⟨⟨a,b⟩,c,d⟩;exact⟨a,c,b,d⟩
 ·rintro⟨a,c,b,d⟩;exact⟨⟨a,b⟩,c,d⟩
theorem NF.tail_lt {x:Iv}{l:List Iv}(h:NF (x::l)){t:Int}(ht:Mem l t):x.2<t:=by
 obtain⟨y,hy,_,h1,_⟩:=ht;have:=((NF.cons_iff x l).1 h).2.1 y hy
 omega
theorem Mem.head {x:Iv}{l:List Iv}(h:vld x):Mem (x::l) x.1:=by
 rw[Mem.cons];left;unfold vld at*;omega
theorem NF.unique:∀{a b:List Iv},NF a→NF b→(∀t,Mem a t↔Mem b t)→a=b
 |[],[],_,_,_=>rfl
 |[],y::b,_,hb,h=>absurd ((h y.1).2 (Mem.head ((NF.cons_iff y b).1 hb).1)) (Mem.nil _)
 |x::a,[],ha,_,h=>absurd ((h x.1).1 (Mem.head ((NF.cons_iff x a).1 ha).1)) (Mem.nil _)
 |x::a,y::b,ha,hb,h=>by
  have vx:=((NF.cons_iff x a).1 ha).1;have vy:=((NF.cons_iff y b).1 hb).1;have e1:x.1=y.1:=by
   have p1:=(h x.1).1 (Mem.head vx);have p2:=(h y.1).2 (Mem.head vy);rw[Mem.cons]at p1 p2;have q1:y.1≤x.1:=by
    rcases p1 with p1|p1
    ·exact p1.2.1
    ·have:=hb.tail_lt p1;unfold vld at vy;omega
   have q2:x.1≤y.1:=by
    rcases p2 with p2|p2
    ·exact p2.2.1
    ·have:=ha.tail_lt p2;unfold vld at vx;omega
   omega
  have e2:x.2=y.2:=by
   rcases Int.lt_trichotomy x.2 y.2 with hlt|heq|hgt
   ·have p:Mem (y::b) x.2:=by rw[Mem.cons];left;unfold vld at*;omega
    have p:=(h x.2).2 p;rw[Mem.cons]at p;rcases p with p|p
    ·omega
    ·have:=ha.tail_lt p;omega
   ·exact heq
   ·have p:Mem (x::a) y.2:=by rw[Mem.cons];left;unfold vld at*;omega
    have p:=(h y.2).1 p;rw[Mem.cons]at p;rcases p with p|p
    ·omega
    ·have:=hb.tail_lt p;omega
  have e:x=y:=Prod.ext e1 e2;subst e;have:a=b:=by
   refine NF.unique ((NF.cons_iff x a).1 ha).2.2 ((NF.cons_iff x b).1 hb).2.2 fun t=> ?_;have ht:=h t;rw[Mem.cons,Mem.cons]at ht;constructor
   ·intro p;have g:=ha.tail_lt p;rcases ht.1 (.inr p)with q|q
    ·omega
    ·exact q
   ·intro p;have g:=hb.tail_lt p;rcases ht.2 (.inr p)with q|q
    ·omega
    ·exact q
  rw[this]
def cnt (M:Nat)(p:Int→Bool):Nat:=((List.range M).filter fun n:Nat=>p (n:Int)).length
open Classical in
noncomputable def memB (l:List Iv) (t:Int):Bool:=decide (Mem l t)
noncomputable def secs (M:Nat) (l:List Iv):Int:=cnt M (memB l)
theorem NF.length_le:∀{l:List Iv},NF l→∀b:Int,(∀x∈l,b≤x.1)→b+(l.length:Int)≤68719476736∨l=[]
 |[],_,_,_=>.inr rfl
 |x::l,h,b,hb=>by
  have h':=(NF.cons_iff x l).1 h;have vx:=h'.1;have hbx:=hb x (by simp);rcases NF.length_le h'.2.2 (b+1) (fun y hy=>by have:=h'.2.1 y hy;unfold vld at vx;omega)with k|k
  ·left;simp only[List.length_cons];omega
  ·left;subst k;unfold vld at vx;simp only[List.length_cons,List.length_nil];omega
theorem NF.append_one {l:List Iv}{x:Iv}(h:NF l)(hx:vld x)(hl:∀y∈l,y.2<x.1):NF (l++[x]):=by
 refine⟨?_,?_⟩
 ·intro y hy;rw[List.mem_append]at hy;rcases hy with hy|hy
  ·exact h.1 y hy
  ·simp at hy;subst hy;exact hx
 ·rw[List.pairwise_append];exact⟨h.2,by simp,fun a ha b hb=>by simp at hb;subst hb;exact hl a ha⟩
theorem NF.take {l:List Iv}(h:NF l)(k:Nat):NF (l.take k):=
 ⟨fun x hx=>h.1 x (List.mem_of_mem_take hx),h.2.sublist (List.take_sublist k l)⟩
theorem NF.drop {l:List Iv}(h:NF l)(k:Nat):NF (l.drop k):=
 ⟨fun x hx=>h.1 x (List.mem_of_mem_drop hx),h.2.sublist (List.drop_sublist k l)⟩
def jstep (out:List Iv)(i:Iv):List Iv:=
 match out.getLast? with
 |some l=>if i.1≤l.2 then out.dropLast++[(l.1,max l.2 i.2)]else out++[i]
 |none=>out++[i]
theorem jstep_nil (i:Iv):jstep [] i=[i]:=rfl
theorem jstep_snoc (o:List Iv)(l i:Iv):jstep (o++[l]) i=if i.1≤l.2 then o++[(l.1,max l.2 i.2)]else o++[l]++[i]:=by
 simp[jstep]
theorem snoc_cases (l:List Iv):l=[]∨∃o x,l=o++[x]:=by
 rcases List.eq_nil_or_concat l with h|⟨o,x,h⟩
 ·exact .inl h
 ·exact .inr ⟨o,x,by simpa using h⟩
def JInv (out:List Iv)(b:Int):Prop:=NF out∧∀x∈out,x.1≤b
theorem JInv.step {out:List Iv}{b:Int}{i:Iv}(h:JInv out b)(hb:b≤i.1)(hi:vld i):JInv (jstep out i) i.1∧∀t,Mem (jstep out i) t↔Mem out t∨Mem [i] t:=by
 rcases snoc_cases out with rfl|⟨o,l,rfl⟩
 ·rw[jstep_nil];refine⟨⟨(NF.cons_iff _ _).2 ⟨hi,by simp,NF.nil⟩,by simp⟩,fun t=>by simp[Mem.nil]⟩
 ·rw[jstep_snoc];obtain⟨hn,hle⟩:=h;have hl:vld l:=hn.1 l (by simp);have hl1:l.1≤b:=hle l (by simp);have hpw:=(List.pairwise_append.1 hn.2);have hno:NF o:=⟨fun x hx=>hn.1 x (by simp[hx]),hpw.1⟩;have hol:∀y∈o,y.2<l.1:=fun y hy=>hpw.2.2 y hy l (by simp);by_cases hc:i.1≤l.2
  ·rw[if_pos hc];have hv:vld (l.1,max l.2 i.2):=by unfold vld at*;simp only;omega
   refine⟨⟨hno.append_one hv (fun y hy=>hol y hy),?_⟩,?_⟩
   ·intro x hx;rw[List.mem_append]at hx;rcases hx with hx|hx
    ·have:=hle x (by simp[hx]);omega
    ·simp at hx;subst hx;simp only;omega
   ·intro t;rw[Mem.append,Mem.append,Mem.cons,Mem.cons,Mem.cons];simp only[hv,hl,hi,true_and,Mem.nil,or_false];constructor
    ·rintro(p|p)
     ·exact .inl (.inl p)
     ·by_cases q:t<l.2
      ·exact .inl (.inr ⟨p.1,q⟩)
      ·right;omega
    ·rintro((p|p)|p)
     ·exact .inl p
     ·right;omega
     ·right;omega
  ·rw[if_neg hc];refine⟨⟨hn.append_one hi ?_,?_⟩,?_⟩
   ·intro y hy;rw[List.mem_append]at hy;rcases hy with hy|hy
    ·have:=hol y hy;unfold vld at hl;omega
    ·simp at hy;subst hy;omega
   ·intro x hx;rw[List.mem_append]at hx;rcases hx with hx|hx
    ·have:=hle x hx;omega
    ·simp at hx;subst hx;omega
   ·intro t;rw[Mem.append]
def jfold (l:List Iv):List Iv:=l.foldl jstep []
def isect (a b:Iv):Iv:=(max a.1 b.1,min a.2 b.2)
def one? (m:Iv):List Iv:=if m.1<m.2 then[m]else[]
def meetL:List Iv→List Iv→List Iv
 |[],_=>[]
 |_::_,[]=>[]
 |a::x,b::y=>one? (isect a b)++if a.2<b.2 then meetL x (b::y)else meetL (a::x) y
termination_by x y=>x.length+y.length
def compl (from_:Int):List Iv→List Iv
 |[]=>[(from_,68719476736)]
 |x::l=>(from_,x.1)::compl x.2 l
def cpre:Int→List Iv→List Iv
 |_,[]=>[]
 |f,x::l=>(f,x.1)::cpre x.2 l
def cfrom:Int→List Iv→Int
 |f,[]=>f
 |_,x::l=>cfrom x.2 l
def putStep (n:Int)(s:List Int×Bool)(x:Int):List Int×Bool:=
 let s1:=if !s.2&&decide (n<x)then(s.1++[n],true)else s
 (s1.1++[x],s1.2||decide (n=x))
def putS (n:Int)(l:List Int):List Int×Bool:=l.foldl (putStep n) ([],false)
def putL (l:List Int)(n:Int):List Int:=if(putS n l).2 then(putS n l).1 else(putS n l).1++[n]
abbrev Asc (l:List Int):Prop:=l.Pairwise fun x y=>x<y
def endStep (out:List Int)(x:Iv):List Int:=if validB x.1 x.2 then putL (putL out x.1) x.2 else out
def endsL (l:List Iv)(o:List Int):List Int:=l.foldl endStep o
def segStep (c:Int→Bool)(out:List Iv)(s:Iv):List Iv:=
 if c s.1 then
  match out.getLast? with
  |some l=>if l.2=s.1 then out.dropLast++[(l.1,s.2)]else out++[s]
  |none=>out++[s]
 else out
def segs:List Int→List Iv
 |[]=>[]
 |[_]=>[]
 |p::q::l=>(p,q)::segs (q::l)
def segL (c:Int→Bool)(p:List Int):List Iv:=(segs p).foldl (segStep c) []
theorem segStep_snoc (c:Int→Bool)(o:List Iv)(l s:Iv)(h:c s.1=true):segStep c (o++[l]) s=if l.2=s.1 then o++[(l.1,s.2)]else o++[l]++[s]:=by
 simp[segStep,h]
theorem segStep_no (c:Int→Bool)(o:List Iv)(s:Iv)(h:c s.1=false):segStep c o s=o:=by
 simp[segStep,h]
def SInv (S:Int→Prop)(out:List Iv)(b:Int):Prop:=NF out∧(∀x∈out,x.2≤b)∧∀t,Mem out t↔S t∧t<b
theorem SInv.step {S:Int→Prop}{c:Int→Bool}{out:List Iv}{a b:Int}(h:SInv S out a)(hab:a<b)(hc:c a=true↔S a)(h0:0≤a)(hM:b≤68719476736)
  (hconst:∀t,a≤t→t<b→(S t↔S a)):SInv S (segStep c out (a,b)) b:=by
 obtain⟨hn,hle,hm⟩:=h;by_cases hca:c a=true
 ·have hS:=hc.1 hca;have hv:vld (a,b):=by unfold vld;simp only;omega
  have hmem:∀t,(S t∧t<b)↔(Mem out t∨(a≤t∧t<b)):=by
   intro t;rw[hm];constructor
   ·rintro⟨p,q⟩;by_cases k:t<a
    ·exact .inl ⟨p,k⟩
    ·right;omega
   ·rintro(⟨p,q⟩|⟨p,q⟩)
    ·exact⟨p,by omega⟩
    ·exact⟨(hconst t p q).2 hS,q⟩
  rcases snoc_cases out with rfl|⟨o,l,rfl⟩
  ·have e:segStep c [] (a,b)=[(a,b)]:=by simp[segStep,hca]
   rw[e];refine⟨(NF.cons_iff _ _).2 ⟨hv,by simp,NF.nil⟩,by simp,fun t=> ?_⟩;rw[hmem,Mem.cons];simp[hv,Mem.nil]
  ·rw[segStep_snoc _ _ _ _ hca];have hl:vld l:=hn.1 l (by simp);have hpw:=(List.pairwise_append.1 hn.2);have hno:NF o:=⟨fun x hx=>hn.1 x (by simp[hx]),hpw.1⟩;have hol:∀y∈o,y.2<l.1:=fun y hy=>hpw.2.2 y hy l (by simp);have hla:=hle l (by simp);by_cases he:l.2=a
   ·rw[if_pos he];have hv2:vld (l.1,b):=by unfold vld at*;simp only at*;omega
    refine⟨hno.append_one hv2 hol,?_,fun t=> ?_⟩
    ·intro x hx;rw[List.mem_append]at hx;rcases hx with hx|hx
     ·have:=hle x (by simp[hx]);omega
     ·simp at hx;subst hx;simp
    ·rw[hmem,Mem.append,Mem.append,Mem.cons,Mem.cons];simp only[hv2,hl,true_and,Mem.nil,or_false];unfold vld at hl;constructor
     ·rintro(p|p)
      ·exact .inl (.inl p)
      ·by_cases q:t<l.2
       ·exact .inl (.inr ⟨p.1,q⟩)
       ·right;omega
     ·rintro((p|p)|p)
      ·exact .inl p
      ·right;omega
      ·right;omega
   ·rw[if_neg he];refine⟨hn.append_one hv ?_,?_,fun t=> ?_⟩
    ·intro y hy;simp only;rw[List.mem_append]at hy;rcases hy with hy|hy
     ·have:=hol y hy;unfold vld at hl;omega
     ·simp at hy;subst hy;omega
    ·intro x hx;rw[List.mem_append]at hx;rcases hx with hx|hx
     ·have:=hle x hx;omega
     ·simp at hx;subst hx;simp
    ·rw[hmem,Mem.append,Mem.cons (a,b)];simp only[hv,true_and,Mem.nil,or_false]
 ·have hca':c a=false:=by simpa using hca
  rw[segStep_no _ _ _ hca'];refine⟨hn,fun x hx=>by have:=hle x hx;omega,fun t=> ?_⟩;rw[hm];constructor
  ·rintro⟨p,q⟩;exact⟨p,by omega⟩
  ·rintro⟨p,q⟩;refine⟨p,?_⟩;rcases(by omega:t<a∨a≤t)with k|k
   ·exact k
   ·exact absurd (hc.2 ((hconst t k q).1 p)) hca
def hasB (l:List Iv)(t:Int):Bool:=l.any fun x=>validB x.1 x.2&&decide (x.1≤t)&&decide (t<x.2)
def inB (a b:List Iv)(way:Int)(t:Int):Bool:=if way=1 then hasB a t||hasB b t else if way=2 then hasB a t&&hasB b t else hasB a t&& !hasB b t
def In (a b:List Iv)(way:Int)(t:Int):Prop:=if way=1 then Mem a t∨Mem b t else if way=2 then Mem a t∧Mem b t else Mem a t∧¬Mem b t
def combL (a b:List Iv)(way:Int):List Iv:=segL (inB a b way) (endsL b (endsL a []))
end
theorem take_snoc {α:Type}{l:List α}{k:Nat}{x:α}(h:l[k]? =some x):l.take (k+1)=l.take k++[x]:=by
 rw[List.take_add_one,h];rfl
theorem all_succ' {α:Type}{p:α→Bool}{l:List α}{k:Nat}{x:α}(hx:l[k]? =some x)(h:∀y∈l.take k,p y=false)(hp:p x=false):∀y∈l.take (k+1),p y=false:=by
 intro y hy;rw[take_snoc hx,List.mem_append]at hy;rcases hy with hy|hy
 ·exact h y hy
 ·simp at hy;subst hy;exact hp
theorem all_succ {α:Type}{p:α→Bool}{l:List α}{k:Nat}{x:α}(hx:l[k]? =some x)(h:∀y∈l.take k,p y=true)(hp:p x=true):∀y∈l.take (k+1),p y=true:=by
 intro y hy;rw[take_snoc hx,List.mem_append]at hy;rcases hy with hy|hy
 ·exact h y hy
 ·simp at hy;subst hy;exact hp
def firstE (f:Nat→Int)(n:Nat):Int:=(((List.range n).map f).find? fun e=>decide (e≠0)).getD 0
theorem firstE_none {f:Nat→Int}{n:Nat}(h:∀j,j<n→f j=0):firstE f n=0:=by
 unfold firstE;rw[List.find?_eq_none.2]
 ·rfl
 ·intro e he;simp only[List.mem_map,List.mem_range]at he;obtain⟨j,hj,rfl⟩:=he;simp[h j hj]
theorem firstE_some {f:Nat→Int}{n k:Nat}(h:∀j,j<k→f j=0)(hk:k<n)(hne:f k≠0):firstE f n=f k:=by
 have key:∀(m:Nat),k<m→(((List.range m).map f).find? fun e=>decide (e≠0))=some (f k):=by
  intro m;induction m with
  |zero=>intro hm;omega
  |succ m ih=>
   intro hm;rw[List.range_succ,List.map_append,List.find?_append];rcases(by omega:k<m∨k=m)with e|rfl
   ·rw[ih e];rfl
   ·rw[List.find?_eq_none.2]
    ·simp[hne]
    ·intro e he;simp only[List.mem_map,List.mem_range]at he;obtain⟨j,hj,rfl⟩:=he;simp[h j hj]
 unfold firstE;rw[key n hk];rfl
theorem firstE_up {f:Nat→Int}{k:Nat}(h:∀j,j<k→f j=0)(hk:f k=0):∀j,j<k+1→f j=0:=fun j hj=>by
 rcases(by omega:j<k∨j=k)with q|rfl
 ·exact h j q
 ·exact hk
theorem take_get {α:Type}{l:List α}{i k:Nat}{x:α}(h:l[k]? =some x)(hk:k<i):(l.take i)[k]? =some x:=by
 rw[List.getElem?_take_of_lt hk];exact h
section
open Go.RowKit Go.Lib
def encIv (x:Iv):List Value:=[.int .i64 x.1,.int .i64 x.2]
theorem encIv_ok:Enc encIv 2:=⟨fun _=>rfl,fun x u hu=>by simp[encIv]at hu;rcases hu with rfl|rfl<;>rfl⟩
theorem tyIv:TyS Tryz.prog 67 161 2 16:=TyS.mk' (z:=.agg #[.int .i64 0,.int .i64 0]) Tryz.underlying67 (by kernel_rfl) rfl (by omega)
theorem Rd.iv {w:World}{B:Nat}{A:Option Addr}{l:List Iv}(h:Rd encIv 2 w B A l){i:Nat}(hi:i<l.length):
  ∃b off f t,A=some ⟨b,off,none⟩∧b<B∧l[i]? =some (f,t)∧w.cell? ⟨b,off+i*2,none⟩=some (.int .i64 f)∧w.cell? ⟨b,off+i*2+1,none⟩=some (.int .i64 t):=by
 obtain⟨b,off,⟨f,t⟩,hA,hb,hx,hc⟩:=h.at_ hi;exact⟨b,off,f,t,hA,hb,hx,hc 0 _ rfl,hc 1 _ rfl⟩
end
section
open Go.RowKit Go.Lib
def encI (x:Int):List Value:=[.int .i64 x]
theorem encI_ok:Enc encI 1:=⟨fun _=>rfl,fun x u hu=>by simp[encI]at hu;subst hu;rfl⟩
theorem tyI:TyS Tryz.prog 33 3 1 8:=TyS.mk' (z:=.int .i64 0) Tryz.underlying33 (by kernel_rfl) rfl (by omega)
theorem Rd.i {w:World}{B:Nat}{A:Option Addr}{l:List Int}(h:Rd encI 1 w B A l){i:Nat}(hi:i<l.length):
  ∃b off x,A=some ⟨b,off,none⟩∧b<B∧l[i]? =some x∧w.cell? ⟨b,off+i,none⟩=some (.int .i64 x):=by
 obtain⟨b,off,x,hA,hb,hx,hc⟩:=h.at_ hi;exact⟨b,off,x,hA,hb,hx,by simpa using hc 0 _ rfl⟩
end
section
open Go.RowKit Go.Lib
theorem Own.st {α:Type}{e:Nat}{enc:α→List Value}{k:Nat}{w w':World}{base:Nat}{A:Option Addr}{c:Nat}{l:List α}(h:Own e enc k w base A c l)(hb:Below w.heap.size w w'):Own e enc k w' base A c l:=h.keep hb (Nat.le_refl _)
theorem _root_.Go.RowKit.Below.st {a b c:World}(h:Below a.heap.size a b)(k:Below b.heap.size b c):Below a.heap.size a c:=h.trans (k.mono h.size)
theorem Own.cap {α:Type}{e:Nat}{enc:α→List Value}{k:Nat}{w:World}{base:Nat}{A:Option Addr}{c:Nat}{l:List α}(h:Own e enc k w base A c l):l.length≤c:=by
 rcases h.2 with⟨h1,h2⟩|⟨g,cap,cur,hv,_,_,hn,_⟩
 ·rw[h2];exact Nat.zero_le _
 ·injection hv with p q r;rw[r];exact hn
end
section
open Go.RowKit Go.Lib
theorem Own.same {α:Type}{e:Nat}{enc:α→List Value}{k:Nat}{w w':World}{base:Nat}{A:Option Addr}{c:Nat}{l:List α}(h:Own e enc k w base A c l)(hk:∀g,base≤g→w'.heap[g]? =w.heap[g]?):Own e enc k w' base A c l:=by
 refine⟨h.1,?_⟩;rcases h.2 with h2|⟨g,cap,cur,hv,hg,hh,r⟩
 ·exact .inl h2
 ·exact .inr ⟨g,cap,cur,hv,hg,by rw[hk g hg];exact hh,r⟩
theorem Own.other {α:Type}{e:Nat}{enc:α→List Value}{k:Nat}{w:World}{base:Nat}{A:Option Addr}{c:Nat}{l:List α}(h:Own e enc k w base A c l){p:Addr}(hp:p.block<base)(v:Value):Own e enc k (w.setCell p v) base A c l:=
 h.same fun g hg=>Below.heap_setCell w p v g (by omega)
def Blk (W:World)(B:Nat)(cs:Array Value)(t:TypeId):Prop:=W.heap[B]? =some (.cells cs t (0,0))
theorem Blk.lt {W:World}{B:Nat}{cs:Array Value}{t:TypeId}(h:Blk W B cs t):B<W.heap.size:=(Array.getElem?_eq_some_iff.1 h).1
theorem Blk.cell {W:World}{B:Nat}{cs:Array Value}{t:TypeId}(h:Blk W B cs t)(j:Nat){v:Value}(hv:cs[j]? =some v):W.cell? ⟨B,j,none⟩=some v:=by
 rw[cell_of_row _ _ _ cs t (0,0) h];exact hv
theorem Blk.frozen {W:World}{B:Nat}{cs:Array Value}{t:TypeId}(h:Blk W B cs t)(j:Nat):W.frozen? ⟨B,j,none⟩=false:=frozen_of_row W B j cs t h
theorem Blk.set {W:World}{B:Nat}{cs:Array Value}{t:TypeId}(h:Blk W B cs t)(j:Nat)(v:Value):Blk (W.setCell ⟨B,j,none⟩ v) B (cs.setIfInBounds j v) t:=heap_setCell_same W B j cs t v h
theorem Blk.new (W:World)(cs:Array Value)(t:TypeId):Blk (W.alloc (.cells cs t)) W.heap.size cs t:=World.alloc_heap_new W _
theorem Blk.below {W W':World}{B B':Nat}{cs:Array Value}{t:TypeId}(h:Blk W B cs t)(hb:Below B' W W')(hB:B<B'):Blk W' B cs t:=(hb.block B hB).trans h
theorem Blk.alloc {W:World}{B:Nat}{cs:Array Value}{t:TypeId}(h:Blk W B cs t)(o:Obj):Blk (W.alloc o) B cs t:=(World.grownBy_alloc W o none).block B h.lt (by simp)|>.trans h
theorem Blk.drew {W:World}{B:Nat}{cs:Array Value}{t:TypeId}(h:Blk W B cs t):Blk W.drew B cs t:=h
theorem Blk.other {W:World}{B:Nat}{cs:Array Value}{t:TypeId}(h:Blk W B cs t){p:Addr}(hp:B≠p.block)(v:Value):Blk (W.setCell p v) B cs t:=(Below.heap_setCell W p v B hp).trans h
theorem _root_.Go.Boxed.below {W W':World}{B B':Nat}{t:TypeId}{v:Value}(h:Boxed W B t v)(hb:Below B' W W')(hB:B<B'):Boxed W' B t v:=(hb.block B hB).trans h
theorem own_kept {α:Type}{e:Nat}{enc:α→List Value}{k:Nat}{base:Nat}{A:Option Addr}{c:Nat}{l:List α}{X Y:World}{row:Option Nat}(h:Own e enc k X base A c l)(hg:X.grownBy Y row)
  (hr:∀r,row=some r→∃o:Obj,X.heap[r]? =some o∧o.isCells=false):Own e enc k Y base A c l:=by
 refine⟨h.1,?_⟩;rcases h.2 with h2|⟨g,cap,cur,hv,hb,hh,r⟩
 ·exact .inl h2
 ·refine .inr ⟨g,cap,cur,hv,hb,?_,r⟩;rw[hg.block g (Array.getElem?_eq_some_iff.1 hh).1 fun e'=> ?_]
  ·exact hh
  ·obtain⟨o,ho,hc⟩:=hr g e'.symm;rw[hh]at ho;cases ho;cases hc
section
variable {α:Type}{enc:α→List Value}{k:Nat}{A:Option Addr}{c:Nat}{l:List α}{P:Program}{t e bytes:Nat}
theorem wpList_app1b {w0:World}{ops:Array Oper}{rest:List Oper}{o:Oper}{a:Act}{Q:Exit→Act→World→Prop}(hgd:o.guard=none)(s y:Operand)
  (T:TyS P t e k bytes) (hE:Enc enc k)
  (ho:o.op=.call {callee:=.builtin .append,args:=#[s,y],argTypes:=#[t,t]})
  {cs:Array Value} (x:α) (hcs:cs.toList=enc x)
  (base:Nat) {n:Nat} (hs:a.eval s=.slice A n c) (hn:n=l.length) (hown:Own e enc k w0 base A c l)
  {g0:Nat} (hx:a.eval y=.slice (some ⟨g0,0,none⟩) 1 1) (hg0:w0.heap.size=g0)
  (hbytes:(l.length+1)*bytes≤140737488355328) (hmax:l.length≤8000000000000000000) (hbase:base≤w0.heap.size)
  (h:∀A' c' w',Own e enc k w' base A' c' (l++[x])→Below base w0 w'→w0.heap.size<w'.heap.size→(∀b,b<w0.heap.size→(∀g,A=some ⟨g,0,none⟩→b≠g)→w'.heap[b]? =w0.heap[b]?)→wpList P ops Q rest (a.put o.dst (.slice A' (n+1) c')) w'):wpList P ops Q (o::rest) a (w0.alloc (.cells cs e)):=by
 subst hn;subst hg0;refine wpList_app (w0.alloc (.cells cs e)) hgd s y T hE ho base hs (hown.alloc _) ⟨w0.heap.size,0,none⟩ 1 1 [x] hx rfl ?_ hbytes (by omega) (by simp;omega) ?_
 ·intro j u hu;have hadd:(⟨w0.heap.size,0,none⟩:Addr).add j=⟨w0.heap.size,j,none⟩:=by unfold Addr.add;split<;>simp_all
  rw[hadd,cell_of_row _ _ _ cs e (0,0) (heap_alloc_new w0 _)];simp only[List.flatMap_cons,List.flatMap_nil,List.append_nil]at hu;rw[←hcs]at hu;simpa using hu
 ·intro A' c' w' h1 h2 h3 h4;rw[show(l++[x]).length=l.length+1 by simp];refine h A' c' w' h1 (((Below.refl base w0).alloc hbase _).trans h2) ?_ fun b hb hne=> ?_
  ·simp at h3;omega
  ·refine(h4 b (by simp;omega) fun hh=> ?_).trans ((World.grownBy_alloc w0 _ none).block b hb (by simp));cases A with
   |none=>simp[Value.ownBlock]at hh
   |some q=>
    rcases hown.form with⟨hA,_⟩|⟨g,hA,_⟩
    ·cases hA
    ·injection hA with hA;subst hA;simp[Value.ownBlock]at hh;exact hne g rfl hh
theorem Own.keepB {w w':World}{base:Nat}(h:Own e enc k w base A c l)(hk:∀g,A=some ⟨g,0,none⟩→g<w.heap.size→w'.heap[g]? =w.heap[g]?):Own e enc k w' base A c l:=by
 refine⟨h.1,?_⟩;rcases h.2 with h2|⟨g,cap,cur,hv,hg,hh,r⟩
 ·exact .inl h2
 ·refine .inr ⟨g,cap,cur,hv,hg,?_,r⟩;injection hv with hA _ _;rw[hk g hA (Array.getElem?_eq_some_iff.1 hh).1];exact hh
theorem Own.apart {β:Type}{enc2:β→List Value}{k2 e2 base base2 c2:Nat}{A2:Option Addr}{l2:List β}{w:World}(h:Own e enc k w base A c l)(h2:Own e2 enc2 k2 w base2 A2 c2 l2)(hne:e≠e2){g g2:Nat}(hA:A=some ⟨g,0,none⟩)(hA2:A2=some ⟨g2,0,none⟩):g≠g2:=by
 subst hA hA2;rintro rfl;rcases h.2 with⟨q,_⟩|⟨g1,cap,cur,hv,_,hh,_⟩
 ·injection q with q;cases q
 ·injection hv with q;injection q with q;injection q with q;subst q;rcases h2.2 with⟨q,_⟩|⟨g1,cap,cur2,hv,_,hh2,_⟩
  ·injection q with q;cases q
  ·injection hv with q;injection q with q;injection q with q;subst q;rw[hh]at hh2;injection hh2 with q;injection q with _ q _;exact hne q
end
end
section
open Go.RowKit Go.Lib
structure Dv where
 name:ByteArray
 pt:ByteArray
 kind:Int
 lane:Int
 oA:Option Addr
 oc:Nat
 os:List Iv
 dA:Option Addr
 dc:Nat
 ds:List Iv
instance : Inhabited Dv := ⟨⟨⟨#[]⟩, ⟨#[]⟩, 0, 0, none, 0, [], none, 0, []⟩⟩
def encD (d:Dv):List Value:=[.string d.name,.string d.pt,.int .i64 d.kind,.int .i64 d.lane,.slice d.oA d.os.length d.oc,.slice d.dA d.ds.length d.dc]
theorem encD_ok:Enc encD 6:=⟨fun _=>rfl,fun x u hu=>by simp[encD]at hu;rcases hu with rfl|rfl|rfl|rfl|rfl|rfl<;>rfl⟩
def DV (d:Dv):Value:=.agg #[.string d.name,.string d.pt,.int .i64 d.kind,.int .i64 d.lane,.slice d.oA d.os.length d.oc,.slice d.dA d.ds.length d.dc]
def DOk (w:World)(d:Dv):Prop:=Rd encIv 2 w w.heap.size d.oA d.os∧Rd encIv 2 w w.heap.size d.dA d.ds
theorem DOk.st {w w':World}{d:Dv}(h:DOk w d)(hb:Below w.heap.size w w'):DOk w' d:=⟨h.1.st hb,h.2.st hb⟩
def DsOk (w:World)(l:List Dv):Prop:=∀d∈l,DOk w d
theorem DsOk.st {w w':World}{l:List Dv}(h:DsOk w l)(hb:Below w.heap.size w w'):DsOk w' l:=fun d hd=>(h d hd).st hb
theorem Rd.d {w:World}{B:Nat}{A:Option Addr}{l:List Dv}(h:Rd encD 6 w B A l){i:Nat}(hi:i<l.length):
  ∃b off d,A=some ⟨b,off,none⟩∧b<B∧l[i]? =some d∧w.cell? ⟨b,off+i*6,none⟩=some (.string d.name)∧w.cell? ⟨b,off+i*6+1,none⟩=some (.string d.pt)∧w.cell? ⟨b,off+i*6+2,none⟩=some (.int .i64 d.kind)∧w.cell? ⟨b,off+i*6+3,none⟩=some (.int .i64 d.lane)∧w.cell? ⟨b,off+i*6+4,none⟩=some (.slice d.oA d.os.length d.oc)∧w.cell? ⟨b,off+i*6+5,none⟩=some (.slice d.dA d.ds.length d.dc):=by
 obtain⟨b,off,d,hA,hb,hx,hc⟩:=h.at_ hi;exact⟨b,off,d,hA,hb,hx,hc 0 _ rfl,hc 1 _ rfl,hc 2 _ rfl,hc 3 _ rfl,hc 4 _ rfl,hc 5 _ rfl⟩
abbrev Val:=ByteArray×ByteArray×Int×Int×List Iv×List Iv
def vD (d:Dv):Val:=(d.name,d.pt,d.kind,d.lane,d.os,d.ds)
def smallD (d:Dv):Prop:=d.os.length≤8796093022208∧d.ds.length≤100000000000
def tB (t:Int):Bool:=decide (0≤t∧t<68719476736)
theorem tB_yes {t:Int}(h:tB t=true):0≤t∧t<68719476736:=by simpa[tB]using h
def delta (os:List Iv)(raw:Int):Int:=os.foldl (fun d o=>if o.1≤raw then o.2 else d) 0
theorem delta_snoc (os:List Iv)(o:Iv)(raw:Int):delta (os++[o]) raw=if o.1≤raw then o.2 else delta os raw:=by simp[delta]
def clockB (d:Dv)(raw:Int):Bool:=tB raw&&decide (-raw≤delta d.os raw)&&decide (delta d.os raw<68719476736-raw)
def clockN (d:Dv)(raw:Int):Int:=if clockB d raw=true then raw+delta d.os raw else 0
theorem clock_no {d:Dv}{raw:Int}(h:clockB d raw=false):clockN d raw=0:=by unfold clockN;rw[h];rfl
theorem clock_1 {d:Dv}{raw:Int}(h:tB raw=false):clockB d raw=false:=by unfold clockB;rw[h];rfl
theorem clock_2 {d:Dv}{raw:Int}(h:tB raw=true)(h2:delta d.os raw< -raw∨68719476736-raw≤delta d.os raw):clockB d raw=false:=by
 unfold clockB;rw[h];rcases h2 with k|k
 ·rw[decide_eq_false (by omega:¬ -raw≤delta d.os raw)];simp
 ·rw[decide_eq_false (by omega:¬delta d.os raw<68719476736-raw)];simp
theorem clock_3 {d:Dv}{raw:Int}(h:tB raw=true)(h1:¬delta d.os raw< -raw)(h2:¬68719476736-raw≤delta d.os raw):clockB d raw=true∧clockN d raw=raw+delta d.os raw:=by
 have e:clockB d raw=true:=by
  unfold clockB;rw[h,decide_eq_true (by omega: -raw≤delta d.os raw),decide_eq_true (by omega:delta d.os raw<68719476736-raw)];rfl
 exact⟨e,by unfold clockN;rw[if_pos e]⟩
def worksB (d:Dv)(t:Int):Bool:=tB t&& !hasB d.ds t
theorem time_any (t:Int)(w:World):Calls Tryz.prog 82 #[.int .i64 t] w fun e w'=>e=.returned (.bool (tB t))∧w'=w:=by
 unfold tB;go_enter Tryz.func82,Tryz.ntmps82;go_wp2;all_goals(go_ret;exact⟨ret_bool (by rw[Bool.eq_iff_iff];simp;omega),rfl⟩)
theorem rtime_any (t:Int)(w:World):Calls Tryz.prog 62 #[.int .i64 t] w fun e w'=>e=.returned (.bool (tB t))∧w'=w:=by
 unfold tB;go_enter Tryz.func62,Tryz.ntmps62;go_wp2;all_goals(go_ret;exact⟨ret_bool (by rw[Bool.eq_iff_iff];simp;omega),rfl⟩)
theorem rspan_any (f t:Int)(w:World):
  Calls Tryz.prog 63 #[.agg #[.int .i64 f,.int .i64 t]] w fun e w'=>e=.returned (.bool (validB f t))∧w.alloc (.cells #[.int .i64 f,.int .i64 t] 161)=w':=by
 unfold validB;go_enter Tryz.func63,Tryz.ntmps63;go_wp2;all_goals(go_ret;exact⟨ret_bool (by rw[Bool.eq_iff_iff];simp;omega),rfl⟩)
end
section
open Go.RowKit Go.Lib
structure Dt where
 dev:ByteArray
 seq:Int
 time:Int
 tag:ByteArray
 pl:ByteArray
 ax:Int
 sc:Int
instance : Inhabited Dt := ⟨⟨⟨#[]⟩, 0, 0, ⟨#[]⟩, ⟨#[]⟩, 0, 0⟩⟩
structure Sn where
 d:Dt
 t:Int
 pt:ByteArray
 lane:Int
 kind:Int
instance : Inhabited Sn := ⟨⟨default, 0, ⟨#[]⟩, 0, 0⟩⟩
structure Rj where
 d:Dt
 why:Int
instance : Inhabited Rj := ⟨⟨default, 0⟩⟩
def encDt (d:Dt):List Value:=[.string d.dev,.int .i64 d.seq,.int .i64 d.time,.string d.tag,.string d.pl,.int .i64 d.ax,.int .i64 d.sc]
def encSn (s:Sn):List Value:=[.string s.d.dev,.int .i64 s.d.seq,.int .i64 s.d.time,.string s.d.tag,.string s.d.pl,.int .i64 s.d.ax,.int .i64 s.d.sc,.int .i64 s.t,.string s.pt,.int .i64 s.lane,.int .i64 s.kind]
def encRj (r:Rj):List Value:=[.string r.d.dev,.int .i64 r.d.seq,.int .i64 r.d.time,.string r.d.tag,.string r.d.pl,.int .i64 r.d.ax,.int .i64 r.d.sc,.int .i64 r.why]
def DtV (d:Dt):Value:=.agg #[.string d.dev,.int .i64 d.seq,.int .i64 d.time,.string d.tag,.string d.pl,.int .i64 d.ax,.int .i64 d.sc]
def SnV (s:Sn):Value:=.agg #[.string s.d.dev,.int .i64 s.d.seq,.int .i64 s.d.time,.string s.d.tag,.string s.d.pl,.int .i64 s.d.ax,.int .i64 s.d.sc,.int .i64 s.t,.string s.pt,.int .i64 s.lane,.int .i64 s.kind]
def RjV (r:Rj):Value:=.agg #[.string r.d.dev,.int .i64 r.d.seq,.int .i64 r.d.time,.string r.d.tag,.string r.d.pl,.int .i64 r.d.ax,.int .i64 r.d.sc,.int .i64 r.why]
theorem encDt_ok:Enc encDt 7:=⟨fun _=>rfl,fun x u hu=>by simp[encDt]at hu;rcases hu with rfl|rfl|rfl|rfl|rfl|rfl|rfl<;>rfl⟩
theorem encSn_ok:Enc encSn 11:=⟨fun _=>rfl,fun x u hu=>by simp[encSn]at hu;rcases hu with rfl|rfl|rfl|rfl|rfl|rfl|rfl|rfl|rfl|rfl|rfl<;>rfl⟩
theorem encRj_ok:Enc encRj 8:=⟨fun _=>rfl,fun x u hu=>by simp[encRj]at hu;rcases hu with rfl|rfl|rfl|rfl|rfl|rfl|rfl|rfl<;>rfl⟩
theorem tyDt:TyS Tryz.prog 47 61 7 80:=TyS.mk' (z:=.agg #[.string ⟨#[]⟩,.int .i64 0,.int .i64 0,.string ⟨#[]⟩,.string ⟨#[]⟩,.int .i64 0,.int .i64 0]) Tryz.underlying47 (by kernel_rfl) rfl (by omega)
theorem tySn:TyS Tryz.prog 51 84 11 120:=TyS.mk' (z:=.agg #[.string ⟨#[]⟩,.int .i64 0,.int .i64 0,.string ⟨#[]⟩,.string ⟨#[]⟩,.int .i64 0,.int .i64 0,.int .i64 0,.string ⟨#[]⟩,.int .i64 0,.int .i64 0]) Tryz.underlying51 (by kernel_rfl) rfl (by omega)
theorem tyRj:TyS Tryz.prog 52 88 8 88:=TyS.mk' (z:=.agg #[.string ⟨#[]⟩,.int .i64 0,.int .i64 0,.string ⟨#[]⟩,.string ⟨#[]⟩,.int .i64 0,.int .i64 0,.int .i64 0]) Tryz.underlying52 (by kernel_rfl) rfl (by omega)
def cmpDt (a b:Dt):Int:=firstI [cmpS a.dev b.dev,cmpI a.seq b.seq,cmpI a.time b.time,cmpS a.tag b.tag,cmpS a.pl b.pl,cmpI a.ax b.ax,cmpI a.sc b.sc]
def cmpSn (a b:Sn):Int:=firstI [cmpI a.t b.t,cmpS a.pt b.pt,cmpI a.kind b.kind,cmpI a.lane b.lane,cmpDt a.d b.d]
def cmpRj (a b:Rj):Int:=firstI [cmpDt a.d b.d,cmpI a.why b.why]
theorem firstI_zero:∀{l:List Int},firstI l=0↔∀x∈l,x=0
 |[]=>by simp[firstI]
 |x::l=>by
  unfold firstI;by_cases h:x=0
  ·rw[if_neg (by simp[h]),firstI_zero];simp[h]
  ·rw[if_pos h];simp[h]
theorem firstI_one (x:Int):firstI [x]=x:=by unfold firstI;split;rfl;rename_i h;simp[firstI];omega
theorem pre_one {α:Type}{f:α→α→Int}(h:PreC f):PreC (fun a b=>firstI [f a b]):=by
 have:(fun a b=>firstI [f a b])=f:=by funext a b;exact firstI_one _
 rw[this];exact h
theorem cmpDt_pre:PreC cmpDt:=
 (cmpS_pre.on Dt.dev).cons ((cmpI_pre.on Dt.seq).cons ((cmpI_pre.on Dt.time).cons ((cmpS_pre.on Dt.tag).cons ((cmpS_pre.on Dt.pl).cons ((cmpI_pre.on Dt.ax).cons (pre_one (cmpI_pre.on Dt.sc)))))))
theorem cmpSn_pre:PreC cmpSn:=
 (cmpI_pre.on Sn.t).cons ((cmpS_pre.on Sn.pt).cons ((cmpI_pre.on Sn.kind).cons ((cmpI_pre.on Sn.lane).cons (pre_one (cmpDt_pre.on Sn.d)))))
theorem cmpRj_pre:PreC cmpRj:=(cmpDt_pre.on Rj.d).cons (pre_one (cmpI_pre.on Rj.why))
theorem cmpDt_zero {a b:Dt}:cmpDt a b=0↔a=b:=by
 unfold cmpDt;rw[firstI_zero];constructor
 ·intro h;have h1:=cmpS_zero.1 (h (cmpS a.dev b.dev) (by simp));have h2:=cmpI_zero.1 (h (cmpI a.seq b.seq) (by simp));have h3:=cmpI_zero.1 (h (cmpI a.time b.time) (by simp));have h4:=cmpS_zero.1 (h (cmpS a.tag b.tag) (by simp));have h5:=cmpS_zero.1 (h (cmpS a.pl b.pl) (by simp));have h6:=cmpI_zero.1 (h (cmpI a.ax b.ax) (by simp));have h7:=cmpI_zero.1 (h (cmpI a.sc b.sc) (by simp));cases a;cases b;simp_all
 ·rintro rfl x hx;simp only[List.mem_cons,List.not_mem_nil,or_false]at hx;rcases hx with rfl|rfl|rfl|rfl|rfl|rfl|rfl<;>first|exact cmpS_zero.2 rfl|exact cmpI_zero.2 rfl
theorem cmpSn_zero {a b:Sn}:cmpSn a b=0↔a=b:=by
 unfold cmpSn;rw[firstI_zero];constructor
 ·intro h;have h1:=cmpI_zero.1 (h (cmpI a.t b.t) (by simp));have h2:=cmpS_zero.1 (h (cmpS a.pt b.pt) (by simp));have h3:=cmpI_zero.1 (h (cmpI a.kind b.kind) (by simp));have h4:=cmpI_zero.1 (h (cmpI a.lane b.lane) (by simp));have h5:=cmpDt_zero.1 (h (cmpDt a.d b.d) (by simp));cases a;cases b;simp_all
 ·rintro rfl x hx;simp only[List.mem_cons,List.not_mem_nil,or_false]at hx;rcases hx with rfl|rfl|rfl|rfl|rfl<;>first|exact cmpS_zero.2 rfl|exact cmpI_zero.2 rfl|exact cmpDt_zero.2 rfl
theorem cmpRj_zero {a b:Rj}:cmpRj a b=0↔a=b:=by
 unfold cmpRj;rw[firstI_zero];constructor
 ·intro h;have h1:=cmpDt_zero.1 (h (cmpDt a.d b.d) (by simp));have h2:=cmpI_zero.1 (h (cmpI a.why b.why) (by simp));cases a;cases b;simp_all
 ·rintro rfl x hx;simp only[List.mem_cons,List.not_mem_nil,or_false]at hx;rcases hx with rfl|rfl<;>first|exact cmpI_zero.2 rfl|exact cmpDt_zero.2 rfl
end
section
open Go.RowKit Go.Lib Go.MapKept Go.ChangeMaps
open Go.Maps (Keyed)
def MapL (P:Program)(k:TypeId)(w:World)(b:Nat)(l:List (Value×Value)):Prop:=
 ∃es clock,w.heap[b]? =some (.map es clock)∧es.toList.map (fun e=>(e.key,e.val))=l∧∀e∈es.toList,∃x,keyOf P k e.key=some x
section
variable {P:Program}{k e t:TypeId}{w w':World}{b:Nat}{l:List (Value×Value)}
theorem MapL.made (P:Program)(k:TypeId)(w:World):MapL P k (w.alloc (.map #[] 0)) w.heap.size []:=
 ⟨#[],0,(MapKept.heap_alloc w _).1,rfl,by simp⟩
theorem MapL.lt (h:MapL P k w b l):b<w.heap.size:=by
 obtain⟨es,clock,hb,_⟩:=h;exact(Array.getElem?_eq_some_iff.1 hb).1
theorem MapL.keepB (h:MapL P k w b l)(hk:w'.heap[b]? =w.heap[b]?):MapL P k w' b l:=by
 obtain⟨es,clock,hb,r⟩:=h;exact⟨es,clock,hk.trans hb,r⟩
theorem MapL.below {B:Nat}(h:MapL P k w b l)(hb:Below B w w')(hB:b<B):MapL P k w' b l:=h.keepB (hb.block b hB)
theorem MapL.st (h:MapL P k w b l)(hb:Below w.heap.size w w'):MapL P k w' b l:=h.below hb h.lt
theorem MapL.alloc (h:MapL P k w b l)(o:Obj):MapL P k (w.alloc o) b l:=h.keepB ((World.grownBy_alloc w o none).block b h.lt (by simp))
theorem MapL.drewN (h:MapL P k w b l)(n:Nat):MapL P k (w.drewN n) b l:=h
theorem MapL.look_no (h:MapL P k w b l)(K:Keyed P k)(ht:P.underlying t=some (.map k e)){z:Value}(hz:(zeroValue e).run P w=.ok z w){key:Value}{kl:Lit}(hkey:keyOf P k key=some kl)
  (hno:∀p∈l,p.1≠key) (c:Bool):(Instr.lookup t (.map (some b)) key c).run P w=.ok (if c then .tuple #[z,.bool false]else z) w:=by
 obtain⟨es,clock,hb,rfl,hk⟩:=h;rcases K.find w hkey es.toList hk with⟨h1,h2⟩|⟨j,e0,h1,h2,h3⟩
 ·simp[Instr.lookup,run_underlying ht,MapKept.run_getObj_map hb,K.check w _ hkey,h1,hz,Result.andThen]
 ·exact absurd h3 (hno (e0.key,e0.val) (List.mem_map.2 ⟨e0,List.mem_of_getElem? h2,rfl⟩))
theorem MapL.look_at (h:MapL P k w b l)(K:Keyed P k)(ht:P.underlying t=some (.map k e)){key v:Value}{kl:Lit}(hkey:keyOf P k key=some kl)
  (hin:∃p∈l,p.1=key) (hv:∀p∈l,p.1=key→p.2=v) (c:Bool):(Instr.lookup t (.map (some b)) key c).run P w=.ok (if c then .tuple #[v,.bool true]else v) w:=by
 obtain⟨es,clock,hb,rfl,hk⟩:=h;rcases K.find w hkey es.toList hk with⟨h1,h2⟩|⟨j,e0,h1,h2,h3⟩
 ·obtain⟨p,hp,rfl⟩:=hin;obtain⟨x,hx,rfl⟩:=List.mem_map.1 hp;exact absurd rfl (h2 x hx)
 ·have e1:e0.val=v:=hv (e0.key,e0.val) (List.mem_map.2 ⟨e0,List.mem_of_getElem? h2,rfl⟩) h3;simp[Instr.lookup,run_underlying ht,MapKept.run_getObj_map hb,K.check w _ hkey,h1,Result.andThen,e1]
theorem MapL.store_new (h:MapL P k w b l)(K:Keyed P k)(ht:P.underlying t=some (.map k e)){key val:Value}{kl:Lit}(hkey:keyOf P k key=some kl)(hno:∀p∈l,p.1≠key):
  ∃w',(Instr.mapUpdate t (.map (some b)) key val).run P w=.ok () w'∧MapL P k w' b (l++[(key,val)])∧w.grownBy w' (some b):=by
 obtain⟨es,clock,hb,rfl,hk⟩:=h;rcases K.find w hkey es.toList hk with⟨h1,h2⟩|⟨j,e0,h1,h2,h3⟩
 ·refine⟨setBlock w b (.map (es.push ⟨key,val,clock⟩) (clock+1)),?_,⟨_,_,heap_setBlock_same hb _,by simp,?_⟩,⟨rfl,rfl,rfl,by simp[setBlock],fun i _ hi=>heap_setBlock_other hb _ (fun e=>hi (by rw[e]))⟩⟩
  ·simp[Instr.mapUpdate,run_underlying ht,MapKept.run_getObj_map hb,K.check w false hkey,h1,MapKept.run_setObj_map _ hb,Result.andThen,setBlock]
  ·intro x hx;simp only[Array.toList_push,List.mem_append,List.mem_singleton]at hx;rcases hx with hx|rfl
   ·exact hk x hx
   ·exact⟨kl,hkey⟩
 ·exact absurd h3 (hno (e0.key,e0.val) (List.mem_map.2 ⟨e0,List.mem_of_getElem? h2,rfl⟩))
theorem MapL.store_at (h:MapL P k w b l)(K:Keyed P k)(ht:P.underlying t=some (.map k e)){key v val:Value}{kl:Lit}(hkey:keyOf P k key=some kl){j:Nat}(hj:l[j]? =some (key,v))
  (hu:∀i u,l[i]? =some (key,u)→i=j):
  ∃w',(Instr.mapUpdate t (.map (some b)) key val).run P w=.ok () w'∧MapL P k w' b (l.set j (key,val))∧w.grownBy w' (some b):=by
 obtain⟨es,clock,hb,rfl,hk⟩:=h;rcases K.find w hkey es.toList hk with⟨h1,h2⟩|⟨i,e0,h1,h2,h3⟩
 ·obtain⟨x,hx,he⟩:=List.mem_map.1 (List.mem_of_getElem? hj);injection he with he _;exact absurd he (h2 x hx)
 ·have hi:i=j:=hu i e0.val (by rw[List.getElem?_map,h2,Option.map_some,h3]);subst hi;have hji:es[i]? =some e0:=by simpa using h2
  have hlist:(es.modify i (fun e'=>{e' with key:=key,val:=val})).toList=es.toList.set i {e0 with key:=key,val:=val}:=by rw[Array.toList_modify,modify_eq_set _ _ _ _ h2]
  refine⟨setBlock w b (.map (es.modify i (fun e'=>{e' with key:=key,val:=val})) clock),?_,⟨_,_,heap_setBlock_same hb _,by rw[hlist,List.map_set],?_⟩,⟨rfl,rfl,rfl,by simp[setBlock],fun i _ hi=>heap_setBlock_other hb _ (fun e=>hi (by rw[e]))⟩⟩
  ·simp[Instr.mapUpdate,run_underlying ht,MapKept.run_getObj_map hb,K.check w false hkey,h1,hji,h3,K.stays w hkey,MapKept.run_setObj_map _ hb,Result.andThen,setBlock]
  ·intro x hx;rw[hlist]at hx;rcases List.mem_or_eq_of_mem_set hx with hx|rfl
   ·exact hk x hx
   ·exact⟨kl,hkey⟩
end
theorem grown_block {w w':World}{b i:Nat}(hg:w.grownBy w' (some b))(hi:i<w.heap.size)(hne:i≠b):w'.heap[i]? =w.heap[i]? :=hg.block i hi (fun e=>hne (Option.some.inj e))
theorem below_store {B:Nat}{a w w':World}{b:Nat}(h:Below B a w)(hg:w.grownBy w' (some b))(hB:B≤w.heap.size)(hb:B≤b):Below B a w':=
 h.grown hg hB fun g hgo=>by injection hgo with e;omega
end
end Go.Proofs.YtimffppffbideaaGreatDoor
