import Derived.Test.YtimffppffbideaaGreatDoorJSpanMath
import Derived.DeepKeys4
import Derived.Shelf.SlSortCmp.NoneTotal
set_option linter.unusedSimpArgs false
set_option linter.unusedVariables false
set_option maxRecDepth 100000
set_option maxHeartbeats 2000000
namespace Go.Proofs.YtimffppffbideaaGreatDoor
section
open Go.RowKit Go.Lib Go.MapKept Go.ChangeMaps
open Go.Maps (Keyed)
abbrev Src:=ByteArray×Int
def srcV (s:Src):Value:=.agg #[.string s.1,.int .i64 s.2]
def SrcOk (s:Src):Prop:=s.1.size≤100∧(Lit.int .i64 s.2).wf=true
theorem srcLaid:laidOutB Tryz.prog=true:=by kernel_rfl
theorem keySrc:Keyed Tryz.prog 82:=Keyed.of_law (deep_law_laid srcLaid (m:=2) (by omega) (of_decide_eq_true (by kernel_rfl)) (by kernel_rfl) (by kernel_rfl))
theorem srcV_inj {s t:Src}(h:srcV s=srcV t):s=t:=by
 simp only[srcV,Value.agg.injEq,Array.mk.injEq,List.cons.injEq,Value.string.injEq,Value.int.injEq,and_true,true_and]at h;exact Prod.ext h.1 h.2
theorem srcKey (s:Src)(h:SrcOk s):∃kl,keyOf Tryz.prog 82 (srcV s)=some kl:=by
 obtain⟨a,n⟩:=s;obtain⟨h1,h2⟩:=h;have h3:a.size≤maxLen:=by unfold maxLen;simp only at h1;omega
 have hkt:Program.keyType Tryz.prog 82=true:=by kernel_rfl
 have hf:Value.formed Tryz.prog 82 (srcV (a,n))=true:=by kernel_rfl
 have hpos:0<(Tryz.prog).types.size:=of_decide_eq_true (by kernel_rfl);obtain⟨m,hm⟩:∃m,(Tryz.prog).types.size=m+1:=⟨(Tryz.prog).types.size-1,by omega⟩;have hcs:(Tryz.prog).cellsOf 82=2:=by kernel_rfl
 have hcs1:(Tryz.prog).cellsOf 9=1:=by kernel_rfl
 have hcs2:(Tryz.prog).cellsOf 3=1:=by kernel_rfl
 refine⟨.string (keyBytes [.string a.data.toList,.int .i64 n]),?_⟩;unfold keyOf;rw[Tryz.underlying82];simp only;rw[if_pos (by rw[hkt,hf];rfl),hm];unfold Program.keyLits;rw[Tryz.underlying82];simp only[Value.cells,srcV];simp[hcs,hcs1,hcs2,Program.keyLits,Tryz.underlying9,Tryz.underlying3,h3,h2]
def MapB (w:World)(b:Nat)(l:List (Src×Int)):Prop:=
 ∃es clock,w.heap[b]? =some (.map es clock)∧es.toList.map (fun e=>(e.key,e.val))=l.map (fun p=>(srcV p.1,Value.int .i64 p.2))∧(∀p∈l,SrcOk p.1)∧clock=es.size∧(∀(i:Nat) (e:MapEntry),es[i]? =some e→e.born=i)∧l.Pairwise (fun p q=>p.1≠q.1)
def CntOf (l:List (Src×Int))(g:Src→Int):Prop:=(∀p∈l,g p.1=p.2)∧∀s,(∀p∈l,p.1≠s)→g s=0
def CntMap (w:World)(b:Nat)(g:Src→Int):Prop:=∃l,MapB w b l∧CntOf l g
def CntAt (w:World)(b:Nat)(g:Src→Int)(s:Src)(j:Nat):Prop:=∃l,MapB w b l∧CntOf l g∧∃n,l[j]? =some (s,n)
theorem CntAt.map {w:World}{b:Nat}{g:Src→Int}{s:Src}{j:Nat}(h:CntAt w b g s j):CntMap w b g:=by
 obtain⟨l,h1,h2,_⟩:=h;exact⟨l,h1,h2⟩
theorem CntMap.made (w:World):CntMap (w.alloc (.map #[] 0)) w.heap.size (fun _=>0):=
 ⟨[],⟨#[],0,(MapKept.heap_alloc w _).1,rfl,by simp,rfl,by simp,by simp⟩,by simp,fun _ _=>rfl⟩
theorem CntMap.keepB {w w':World}{b:Nat}{g:Src→Int}(h:CntMap w b g)(hk:w'.heap[b]? =w.heap[b]?):CntMap w' b g:=by
 obtain⟨l,⟨es,clock,h1,r⟩,h2⟩:=h;exact⟨l,⟨es,clock,hk.trans h1,r⟩,h2⟩
theorem CntAt.keepB {w w':World}{b:Nat}{g:Src→Int}{s:Src}{j:Nat}(h:CntAt w b g s j)(hk:w'.heap[b]? =w.heap[b]?):CntAt w' b g s j:=by
 obtain⟨l,⟨es,clock,h1,r⟩,h2⟩:=h;exact⟨l,⟨es,clock,hk.trans h1,r⟩,h2⟩
theorem CntMap.lt {w:World}{b:Nat}{g:Src→Int}(h:CntMap w b g):b<w.heap.size:=by
 obtain⟨l,⟨es,clock,hb,_⟩,_⟩:=h;exact(Array.getElem?_eq_some_iff.1 hb).1
theorem CntMap.st {w w':World}{b:Nat}{g:Src→Int}(h:CntMap w b g)(hb:Below w.heap.size w w'):CntMap w' b g:=h.keepB (hb.block b h.lt)
theorem MapB.keys {w:World}{b:Nat}{l:List (Src×Int)}{es:Array MapEntry}(h:es.toList.map (fun e=>(e.key,e.val))=l.map (fun p=>(srcV p.1,Value.int .i64 p.2)))(ho:∀p∈l,SrcOk p.1):∀e∈es.toList,∃x,keyOf Tryz.prog 82 e.key=some x:=by
 intro e he;have:(e.key,e.val)∈l.map (fun p=>(srcV p.1,Value.int .i64 p.2)):=by rw[←h];exact List.mem_map.2 ⟨e,he,rfl⟩
 obtain⟨p,hp,e2⟩:=List.mem_map.1 this;injection e2 with e3 e4;rw[←e3];exact srcKey p.1 (ho p hp)
theorem map_at {l:List (Src×Int)}{es:Array MapEntry}(h:es.toList.map (fun e=>(e.key,e.val))=l.map (fun p=>(srcV p.1,Value.int .i64 p.2))){j:Nat}{e:MapEntry}(he:es.toList[j]? =some e):∃p,l[j]? =some p∧e.key=srcV p.1∧e.val=.int .i64 p.2:=by
 have h1:(es.toList.map (fun e=>(e.key,e.val)))[j]? =some (e.key,e.val):=by rw[List.getElem?_map,he];rfl
 rw[h,List.getElem?_map]at h1;cases hq:l[j]? with
 |none=>rw[hq]at h1;cases h1
 |some p=>
  rw[hq]at h1;simp only[Option.map_some,Option.some.injEq,Prod.mk.injEq]at h1;exact⟨p,rfl,h1.1.symm,h1.2.symm⟩
theorem CntMap.look {w:World}{b:Nat}{g:Src→Int}(h:CntMap w b g){s:Src}(hs:SrcOk s):(Instr.lookup 80 (.map (some b)) (srcV s) false).run Tryz.prog w=.ok (.int .i64 (g s)) w:=by
 obtain⟨l,⟨es,clock,hb,hl,ho,_,_,hd⟩,hg,h0⟩:=h;obtain⟨kl,hkey⟩:=srcKey s hs;rcases keySrc.find w hkey es.toList (MapB.keys (w:=w) (b:=b) hl ho)with⟨h1,h2⟩|⟨j,e0,h1,h2,h3⟩
 ·have:g s=0:=h0 s fun p hp e=>by
   have:(srcV p.1,Value.int .i64 p.2)∈es.toList.map (fun e=>(e.key,e.val)):=by rw[hl];exact List.mem_map.2 ⟨p,hp,rfl⟩
   obtain⟨x,hx,e2⟩:=List.mem_map.1 this;injection e2 with e3 e4;exact h2 x hx (by rw[e3,e])
  simp[Instr.lookup,run_underlying Tryz.underlying80,MapKept.run_getObj_map hb,keySrc.check w _ hkey,h1,Tryz.zeroValue3,Result.andThen,this]
 ·obtain⟨p,hp,e1,e2⟩:=map_at hl h2;have e3:p.1=s:=srcV_inj (e1.symm.trans h3);have e4:=hg p (List.mem_of_getElem? hp);rw[e3]at e4;simp[Instr.lookup,run_underlying Tryz.underlying80,MapKept.run_getObj_map hb,keySrc.check w _ hkey,h1,Result.andThen,e2,e4]
theorem CntMap.entry {w:World}{b:Nat}{g:Src→Int}(h:CntMap w b g){s:Src}(hs:SrcOk s):
  ∃(j:Nat) (w1:World),(Instr.mapEntry 80 (.map (some b)) (srcV s)).run Tryz.prog w=.ok (.tuple #[.int .i64 (g s),.int .i64 (j:Int)]) w1∧CntAt w1 b g s j∧w.grownBy w1 (some b):=by
 obtain⟨l,⟨es,clock,hb,hl,ho,hc,hn,hd⟩,hg,h0⟩:=h;obtain⟨kl,hkey⟩:=srcKey s hs;have hlen:es.size=l.length:=by have:=congrArg List.length hl;simpa using this
 rcases keySrc.find w hkey es.toList (MapB.keys (w:=w) (b:=b) hl ho)with⟨h1,h2⟩|⟨j,e0,h1,h2,h3⟩
 ·have hno:∀p∈l,p.1≠s:=fun p hp e=>by
   have:(srcV p.1,Value.int .i64 p.2)∈es.toList.map (fun e=>(e.key,e.val)):=by rw[hl];exact List.mem_map.2 ⟨p,hp,rfl⟩
   obtain⟨x,hx,e2⟩:=List.mem_map.1 this;injection e2 with e3 e4;exact h2 x hx (by rw[e3,e])
  have hz:g s=0:=h0 s hno;refine⟨clock,setBlock w b (.map (es.push ⟨srcV s,.int .i64 0,clock⟩) (clock+1)),?_,⟨l++[(s,0)],⟨_,_,heap_setBlock_same hb _,by simp[hl],?_,by simp[hc],?_,?_⟩,⟨?_,?_⟩,0,?_⟩,⟨rfl,rfl,rfl,by simp[setBlock],fun i _ hi=>heap_setBlock_other hb _ (fun e=>hi (by rw[e]))⟩⟩
  ·simp[Instr.mapEntry,run_underlying Tryz.underlying80,MapKept.run_getObj_map hb,keySrc.check w false hkey,h1,Tryz.zeroValue3,MapKept.run_setObj_map _ hb,Result.andThen,setBlock,hz,goInt]
  ·intro p hp;rcases List.mem_append.1 hp with hp|hp
   ·exact ho p hp
   ·rw[List.mem_singleton]at hp;subst hp;exact hs
  ·intro i e he;rw[Array.getElem?_push]at he;split at he
   ·rename_i q;have he2:=Option.some.inj he;rw[←he2];show clock=i
    rw[q];exact hc
   ·exact hn i e he
  ·refine List.pairwise_append.2 ⟨hd,by simp,fun p hp q hq=> ?_⟩;rw[List.mem_singleton]at hq;subst hq;exact hno p hp
  ·intro p hp;rcases List.mem_append.1 hp with hp|hp
   ·exact hg p hp
   ·rw[List.mem_singleton]at hp;subst hp;exact hz
  ·intro s' hs';exact h0 s' fun p hp=>hs' p (List.mem_append_left _ hp)
  ·rw[hc,hlen];simp
 ·obtain⟨p,hp,e1,e2⟩:=map_at hl h2;have e3:p.1=s:=srcV_inj (e1.symm.trans h3);have e4:=hg p (List.mem_of_getElem? hp);rw[e3]at e4;have hji:es[j]? =some e0:=by simpa using h2
  have hborn:=hn j e0 hji;have hlist:(es.modify j (fun e'=>{e' with key:=srcV s})).toList=es.toList.set j {e0 with key:=srcV s}:=by rw[Array.toList_modify,modify_eq_set _ _ _ _ h2]
  have hsame:es.toList.set j {e0 with key:=srcV s}=es.toList:=by
   have he:({e0 with key:=srcV s}:MapEntry)=e0:=by obtain⟨k0,v0,b0⟩:=e0;simp only at h3;subst h3;rfl
   rw[he];apply List.ext_getElem?
   intro i;rw[List.getElem?_set];split
   ·rename_i q;subst q;rw[h2];simp;exact(Array.getElem?_eq_some_iff.1 hji).1
   ·rfl
  have hes:es.modify j (fun e'=>{e' with key:=srcV s})=es:=Array.ext' (hlist.trans hsame);have hp2:l[j]? =some (s,g s):=by rw[hp];exact congrArg some (Prod.ext e3 e4.symm)
  refine⟨j,setBlock w b (.map (es.modify j (fun e'=>{e' with key:=srcV s})) clock),?_,⟨l,⟨_,_,heap_setBlock_same hb _,by rw[hes];exact hl,ho,by rw[hes];exact hc,by rw[hes];exact hn,hd⟩,⟨hg,h0⟩,g s,hp2⟩,⟨rfl,rfl,rfl,by simp[setBlock],fun i _ hi=>heap_setBlock_other hb _ (fun e=>hi (by rw[e]))⟩⟩;simp[Instr.mapEntry,run_underlying Tryz.underlying80,MapKept.run_getObj_map hb,keySrc.check w false hkey,h1,hji,h3,keySrc.stays w hkey,MapKept.run_setObj_map _ hb,Result.andThen,setBlock,goInt,e2,e4,hborn]
theorem CntAt.store {w:World}{b:Nat}{g g':Src→Int}{s:Src}{j:Nat}(h:CntAt w b g s j)(n:Int)(h1:g' s=n)(h2:∀s',s'≠s→g' s'=g s'):
  ∃w2,(Instr.entryStore 80 (.map (some b)) (.int .i64 (j:Int)) (.int .i64 n)).run Tryz.prog w=.ok () w2∧CntMap w2 b g'∧w.grownBy w2 (some b):=by
 obtain⟨l,⟨es,clock,hb,hl,ho,hc,hn,hd⟩,⟨hg,h0⟩,m,hj⟩:=h;have hlen:es.size=l.length:=by have:=congrArg List.length hl;simpa using this
 have hjl:j<l.length:=(List.getElem?_eq_some_iff.1 hj).1;have hji:∃e0,es[j]? =some e0:=⟨es[j],Array.getElem?_eq_getElem (by omega)⟩;obtain⟨e0,hji⟩:=hji;have hfind:es.findIdx? (fun e=>(e.born:Int)==(j:Int))=some j:=by
  rw[Array.findIdx?_eq_some_iff_getElem];have hjs:j<es.size:=by omega
  refine⟨hjs,?_,fun i hi=> ?_⟩
  ·have:=hn j _ (Array.getElem?_eq_getElem hjs);simp[this]
  ·have:=hn i _ (Array.getElem?_eq_getElem (Nat.lt_trans hi hjs));simp[this];omega
 have h2':es.toList[j]? =some e0:=by simpa using hji
 have hlist:(es.modify j (fun e'=>{e' with val:=Value.int .i64 n})).toList=es.toList.set j {e0 with val:=Value.int .i64 n}:=by rw[Array.toList_modify,modify_eq_set _ _ _ _ h2']
 obtain⟨p,hp,e1,e2⟩:=map_at hl h2';have hps:p=(s,m):=Option.some.inj (hp.symm.trans hj);subst hps;refine⟨setBlock w b (.map (es.modify j (fun e'=>{e' with val:=Value.int .i64 n})) clock),?_,⟨l.set j (s,n),⟨_,_,heap_setBlock_same hb _,?_,?_,by simp[hc],?_,?_⟩,?_,?_⟩,⟨rfl,rfl,rfl,by simp[setBlock],fun i _ hi=>heap_setBlock_other hb _ (fun e=>hi (by rw[e]))⟩⟩
 ·simp[Instr.entryStore,MapKept.run_getObj_map hb,asInt,asIntOf,hfind,MapKept.run_setObj_map _ hb,Result.andThen,setBlock]
 ·rw[hlist,List.map_set,List.map_set,hl];simp only[e1]
 ·intro q hq;rcases List.mem_or_eq_of_mem_set hq with hq|rfl
  ·exact ho q hq
  ·exact ho (s,m) (List.mem_of_getElem? hj)
 ·intro i e he;rw[Array.getElem?_modify]at he;split at he
  ·rename_i q;subst q;rw[hji]at he;simp only[Option.map_some,Option.some.injEq]at he;subst he;exact hn j e0 hji
  ·exact hn i e he
 ·rw[List.pairwise_iff_getElem]at hd ⊢;intro i k hi hk hik;simp only[List.length_set]at hi hk;have a1:(l.set j (s,n))[i].1=l[i].1:=by
   rw[List.getElem_set];split
   ·rename_i q;subst q;have:=(List.getElem?_eq_some_iff.1 hj).2;rw[this]
   ·rfl
  have a2:(l.set j (s,n))[k].1=l[k].1:=by
   rw[List.getElem_set];split
   ·rename_i q;subst q;have:=(List.getElem?_eq_some_iff.1 hj).2;rw[this]
   ·rfl
  rw[a1,a2];exact hd i k hi hk hik
 ·intro q hq;by_cases e:q.1=s
  ·obtain⟨i,hi,e3⟩:=List.getElem_of_mem hq;simp only[List.length_set]at hi;rw[List.getElem_set]at e3;split at e3
   ·rw[←e3];exact h1
   ·rename_i hij;exfalso;have hk:l[i].1=s:=by rw[e3];exact e
    have hjv:=(List.getElem?_eq_some_iff.1 hj).2;rw[List.pairwise_iff_getElem]at hd;rcases Nat.lt_or_ge i j with c|c
    ·exact hd i j hi hjl c (by rw[hk,hjv])
    ·exact hd j i hjl hi (by omega) (by rw[hk,hjv])
  ·rw[h2 _ e];rcases List.mem_or_eq_of_mem_set hq with hq|rfl
   ·exact hg q hq
   ·exact absurd rfl e
 ·intro s' hs';have hne:s'≠s:=by
   rintro rfl;exact hs' (s',n) (List.mem_of_getElem? (by rw[List.getElem?_set_self hjl])) rfl
  rw[h2 s' hne];refine h0 s' fun q hq e=> ?_;obtain⟨i,hi,e3⟩:=List.getElem_of_mem hq;by_cases c:i=j
  ·subst c;have hjv:=(List.getElem?_eq_some_iff.1 hj).2;rw[hjv]at e3;subst e3;exact hne e.symm
  ·have:(l.set j (s,n))[i]? =some q:=by rw[List.getElem?_set_ne (by omega),List.getElem?_eq_getElem hi,e3]
   exact hs' q (List.mem_of_getElem? this) e
end
section
open Go.RowKit Go.Lib
def digB (c:Nat):Bool:=decide (48≤c)&&decide (c≤57)
def digTo (s:ByteArray)(k:Nat):Prop:=∀i (h:i<s.size),i<k→digB (s[i]'h).toNat=true
def lv (i c:Nat):Int:=if i%2=0 then(if 9<2*((c:Int)-48)then 2*((c:Int)-48)-9 else 2*((c:Int)-48))else(c:Int)-48
def lsum (s:ByteArray):Nat→Int
 |0=>0
 |k+1=>lsum s k+lv k (s.get! k).toNat
def allDig (s:ByteArray):Bool:=(List.range s.size).all fun i=>digB (s.get! i).toNat
def tagB (s:ByteArray):Bool:=decide (s.size=12)&&allDig s&&decide (lsum s 12%10=0)
theorem get_at2 (s:ByteArray)(i:Nat)(h:i<s.size):s.get! i=s[i]'h:=get_at s i h
theorem allDig_iff (s:ByteArray):allDig s=true↔digTo s s.size:=by
 unfold allDig digTo;simp only[List.all_eq_true,List.mem_range];constructor
 ·intro h i hi _;rw[←get_at2 s i hi];exact h i hi
 ·intro h i hi;rw[get_at2 s i hi];exact h i hi hi
theorem allDig_no {s:ByteArray}{k:Nat}(hk:k<s.size)(h:digB (s[k]'hk).toNat=false):allDig s=false:=by
 cases hb:allDig s
 ·rfl
 ·have:=(allDig_iff s).1 hb k hk hk
  rw[h]at this;cases this
theorem digTo_succ {s:ByteArray}{k:Nat}(h:digTo s k)(hk:k<s.size)(ho:digB (s[k]'hk).toNat=true):digTo s (k+1):=by
 intro i hi hik;rcases(by omega:i<k∨i=k)with e|rfl
 ·exact h i hi e
 ·exact ho
theorem digB_yes {c:Nat}(h:digB c=true):48≤(c:Int)∧(c:Int)≤57:=by unfold digB at h;simp at h;omega
theorem digB_no {c:Nat}(h:digB c=false):(c:Int)<48∨(48≤(c:Int)∧57<(c:Int)):=by unfold digB at h;simp at h;omega
theorem lv_bounds {i c:Nat}(h:digB c=true):0≤lv i c∧lv i c≤9:=by
 have:=digB_yes h
 unfold lv;split
 ·split<;>omega
 ·omega
theorem lsum_bounds {s:ByteArray}(h:allDig s=true):∀k,k≤s.size→0≤lsum s k∧lsum s k≤9*(k:Int)
 |0,_=>by simp[lsum]
 |k+1,hk=>by
  have ih:=lsum_bounds h k (by omega);have:=(allDig_iff s).1 h k (by omega) (by omega)
  rw[←get_at2 s k (by omega)]at this;have hv:=lv_bounds (i:=k) this;unfold lsum;omega
theorem below_iter2 (w:World)(s:ByteArray)(pos:Nat):Below w.heap.size w (w.iter s pos):=(Below.refl _ w).al _
theorem next_dig {P:Program}(w:World)(s:ByteArray)(pos:Nat)(hp:pos<s.size):
  ∃c wd:Nat,(∀ty,(Instr.next (.pointer (some ⟨w.heap.size,0,none⟩)) true ty).run P (w.iter s pos)=.ok (.tuple #[.bool true,.int .i64 pos,.int .i32 c]) (w.iter s (pos+wd)))∧
   digB c=digB (s[pos]'hp).toNat∧(digB c=true→wd=1∧c=(s[pos]'hp).toNat)∧c≤2147483647:=by
 by_cases ha:(s[pos]'hp).toNat<128
 ·exact⟨(s[pos]'hp).toNat,1,fun ty=>run_next_ascii w s pos ty hp ha,rfl,fun _=>⟨rfl,rfl⟩,by omega⟩
 ·have h1:=(decode_high s pos hp (by omega)).1;have e1:digB (Utf8.decode s pos).1=false:=by
   unfold digB;simp only[Bool.and_eq_false_iff,decide_eq_false_iff_not];omega
  have e2:digB (s[pos]'hp).toNat=false:=by
   unfold digB;simp only[Bool.and_eq_false_iff,decide_eq_false_iff_not];omega
  refine⟨(Utf8.decode s pos).1,(Utf8.decode s pos).2,fun ty=>run_next_any w s pos ty hp,by rw[e1,e2],fun h=> ?_,decode_le s pos⟩;rw[e1]at h;cases h
theorem digits_any (s:ByteArray)(w:World):
  Calls Tryz.prog 116 #[.string s,.int .i64 12] w fun e w'=>e=.returned (.bool (decide (s.size=12)&&allDig s))∧Below w.heap.size w w':=by
 generalize hr:(decide (s.size=12)&&allDig s)=r;have HR:=hid hr;clear hr;go_enter Tryz.func116,Tryz.ntmps116;go_wp2;go_loopw [6] (fun _ wr=>∃pos,pos≤s.size∧wr=w.iter s pos∧Hid (digTo s pos)) (fun _ wr=>s.size-wr.iterPos w.heap.size)
 case atStart=>exact⟨0,Nat.zero_le _,rfl,fun i _ h=>absurd h (Nat.not_lt_zero _)⟩
 case round=>
  obtain⟨pos,hpl,rfl,HN⟩:=hrel;by_cases hp:pos<s.size
  ·obtain⟨c,wd,hnx,hoc,hwd,hcm⟩:=next_dig (P:=Tryz.prog) w s pos hp;cases ho:digB c
   ·have R:=hid (show r=false by rw[←HR.out,allDig_no hp (by rw[←hoc];exact ho),Bool.and_false]);have hno:=digB_no ho;clear hoc hwd ho;rcases hno with h1|⟨h1,h2⟩
    all_goals(go_wp2;all_goals first|(go_ret;rw[R.out];exact⟨rfl,below_iter2 w s _⟩)|(exfalso;rename_i hx;simp at hx;omega))
   ·have hw1:=(hwd ho).1;subst hw1;have R:=hid (digTo_succ HN.out hp (by rw[←hoc];exact ho));have hyes:=digB_yes ho;obtain⟨h1,h2⟩:=hyes;clear hoc hwd ho;go_wp2;go_roundw
    case rel=>exact⟨pos+1,by omega,rfl,R⟩
    case measure=>simp[World.iterPos_iter];omega
  ·obtain rfl:pos=s.size:=by omega
   have hnx:=fun ty=>run_next_end (P:=Tryz.prog) w s s.size ty (by omega);have R:=hid (show r=decide (s.size=12) by rw[←HR.out,(allDig_iff s).2 HN.out,Bool.and_true]);go_wp2;go_ret;rw[R.out];exact⟨ret_bool (by rw[Bool.eq_iff_iff];simp;omega),below_iter2 w s _⟩
end
section
open Go.RowKit Go.Lib Go.Sort Go.Shelf
def Gr (w w':World):Prop:=∃q os,w'=grow (w.drewN q) os
theorem Gr.refl (w:World):Gr w w:=⟨0,#[],by rw[grow_empty];rfl⟩
theorem Gr.alloc (w:World)(o:Obj):Gr w (w.alloc o):=⟨0,#[o],by rw[alloc_eq_grow];rfl⟩
theorem Gr.trans {a b c:World}(h:Gr a b)(k:Gr b c):Gr a c:=by
 obtain⟨q,os,rfl⟩:=h;obtain⟨q',os',rfl⟩:=k;exact⟨q+q',os++os',by
  rw[←grow_grow];congr 1;simp[grow,World.drewN,Nat.add_assoc]⟩
theorem Gr.drewN {a b:World}(h:Gr a b)(n:Nat):Gr a (b.drewN n):=h.trans ⟨n,#[],by rw[grow_empty]⟩
theorem Gr.drew {a b:World}(h:Gr a b):Gr a b.drew:=h.drewN 1
theorem Gr.below {a b:World}(h:Gr a b):Below a.heap.size a b:=by
 obtain⟨q,os,rfl⟩:=h;exact⟨rfl,rfl,rfl,by simp[World.drewN],fun k hk=>by rw[heap_grow_old (a.drewN q) os (k:=k) hk];rfl⟩
section
variable {α:Type}[Inhabited α]{enc:α→List Value}{k:Nat}{w:World}{base e:Nat}{A:Option Addr}{c:Nat}{l:List α}
theorem arr_get! (l:List α)(i:Nat)(h:i<l.length):l.toArray[i]! =l[i]:=by
 simp[h]
omit [Inhabited α] in
theorem enc_get! (x:α)(j:Nat)(hE:Enc enc k)(hj:j<k):(enc x)[j]? =some (enc x)[j]! :=by
 have:j<(enc x).length:=by rw[hE.1];exact hj
 simp[this]
theorem Own.holds (h:Own e enc k w base A c l)(hE:Enc enc k){g:Nat}(hA:A=some ⟨g,0,none⟩):HoldsK enc k w g 0 l.toArray:=by
 intro t ht;rw[size_flatK]at ht;simp only[List.size_toArray]at ht;have k0:0<k:=by
            rcases Nat.eq_zero_or_pos k with h|h;· subst h;simp at ht
            ·exact h
 have hi:t/k<l.length:=(Nat.div_lt_iff_lt_mul k0).2 ht;have hj:t%k<k:=Nat.mod_lt _ k0;have e1:t/k*k+t%k=t:=by rw[Nat.mul_comm];exact Nat.div_add_mod t k
 rw[get_flatK _ _ _ _ (by simpa using ht),Nat.zero_add];refine⟨?_,h.frozen hA t⟩;have:=h.cells hE hA (i:=t/k) (x:=l[t/k]) (List.getElem?_eq_getElem hi) (enc_get! _ _ hE hj)
 rw[e1]at this;rw[this,arr_get! l _ hi];rfl
theorem flat_toList (hE:Enc enc k)(d:Array α):(flatK enc k d).toList=d.toList.flatMap enc:=by
 apply List.ext_getElem?
 intro t;by_cases ht:t<d.size*k
 ·have k0:0<k:=by
             rcases Nat.eq_zero_or_pos k with h|h;· subst h;simp at ht
             ·exact h
  have hi:t/k<d.size:=(Nat.div_lt_iff_lt_mul k0).2 ht;have hj:t%k<k:=Nat.mod_lt _ k0;have e1:t/k*k+t%k=t:=by rw[Nat.mul_comm];exact Nat.div_add_mod t k
  have hL:(flatK enc k d).toList[t]? =some ((enc d[t/k]!)[t%k]!):=by
   have h1:=get_flatK enc k d t ht;rw[Array.getElem?_toList,←h1];have:t<(flatK enc k d).size:=by rw[size_flatK];exact ht
   rw[getElem!_pos (flatK enc k d) t this,Array.getElem?_eq_getElem this]
  have hR:=flat_get hE d.toList (t/k) (t%k) hj;rw[e1]at hR;rw[hL,hR,List.getElem?_eq_getElem (by simpa using hi)];simp only[Option.bind_some,Array.getElem_toList];rw[enc_get! _ _ hE hj,getElem!_pos d _ hi]
 ·rw[List.getElem?_eq_none (by simp;omega),List.getElem?_eq_none (by rw[flat_length hE];simp;omega)]
theorem Own.sorted (h:Own e enc k w base A c l)(hE:Enc enc k){g n:Nat}{os:Array Obj}{d':Array α}(hA:A=some ⟨g,0,none⟩)(hd:d'.size=l.length):
  Own e enc k (sortWorldK enc k w g 0 n d' os) base A c d'.toList∧Below base w (sortWorldK enc k w g 0 n d' os):=by
 subst hA;rcases h.2 with⟨h1,_⟩|⟨g',cap,cur,hv,hb,hg,hnc,hcm,hcs,htake⟩
 ·simp at h1
 ·simp only[Value.slice.injEq,Option.some.injEq,Addr.mk.injEq,and_true,true_and]at hv;obtain⟨rfl,rfl⟩:=hv;have hgl:g<w.heap.size:=(Array.getElem?_eq_some_iff.1 hg).1;have hh:(sortWorldK enc k w g 0 n d' os).heap[g]? =some (.cells (putCells id 0 (flatK enc k d') cur) e (0,0)):=by
   unfold sortWorldK putRowK;rw[heap_grow_old _ _ (by simpa[putRow,mapBlock,Sort.ahead]using hgl)];simp[putRow,mapBlock,Sort.ahead,Array.getElem?_modify,hg,onCells]
  have hle:l.length*k≤cur.size:=by rw[hcs];exact Nat.mul_le_mul_right k hnc
  refine⟨⟨by rw[flat_length hE,Array.length_toList],.inr ⟨g,c,_,by rw[Array.length_toList,hd],hb,hh,by rw[Array.length_toList,hd];exact hnc,hcm,by simp[putCells,hcs],?_⟩⟩,?_⟩
  ·rw[Array.length_toList,hd,←flat_toList hE];apply List.ext_getElem?
   intro j;by_cases hj:j<l.length*k
   ·rw[List.getElem?_take_of_lt hj,Array.getElem?_toList,Array.getElem?_toList];have hj2:j<(flatK enc k d').size:=by rw[size_flatK,hd];exact hj
    simp[putCells,hd,hj,show j<cur.size by omega]
   ·rw[List.getElem?_take_eq_none (by omega),List.getElem?_eq_none (by simp[hd];omega)]
  ·refine⟨rfl,rfl,rfl,by simp[sortWorldK,putRowK,putRow,mapBlock,Sort.ahead],fun q hq=> ?_⟩;unfold sortWorldK putRowK;by_cases hql:q<w.heap.size
   ·rw[heap_grow_old _ _ (by simpa[putRow,mapBlock,Sort.ahead]using hql)];have:g≠q:=by omega
    simp[putRow,mapBlock,Sort.ahead,Array.getElem?_modify,this]
   ·exact absurd hq (by omega)
theorem sort_own {P:Program}{ρ:Ren}(L:SlLaysF0.n6 P ρ)(aE:∀w,(isAgg (ρ.t 24)).run P w=.ok true w)(zE:∀w,(Go.sizeOf (ρ.t 24)).run P w=.ok k w)(hE:Enc enc k)(cf:α→α→Int)(hO:SWO (ltOf cf))(g:Nat)(cb:Array Value)
  (eg:∀args w,(callFunc g args).run P w=.ok (.enter g args) w) (hcmp:∀(W:World) (x y:α),Calls P g (#[.agg (enc x).toArray,.agg (enc y).toArray]++cb) W fun e w'=>e=.returned (.int .i64 (cf x y))∧Gr W w')
  (h:Own e enc k w base A c l) (hb:base≤w.heap.size) (hsz:l.length<4611686018427387904):
  Calls P (ρ.f 6) #[.slice A l.length c,.func (.func g) #[] cb] w fun en w'=>en=.returned (.tuple #[])∧∃l':List α,l'.Perm l∧l'.Pairwise (fun x y=>ltOf cf y x=false)∧Own e enc k w' base A c l'∧Below base w w':=by
 rcases h.form with⟨rfl,rfl,rfl⟩|⟨g0,hA,hg1,hg2⟩
 ·refine(AnyF.slices_SortFunc_none L none 0 _ w).mono ?_;rintro en w' ⟨rfl,rfl⟩;exact⟨rfl,[],List.Perm.refl _,List.Pairwise.nil,h,Below.refl _ _⟩
 ·have hcon:=AnyQ.slices_SortFunc L k aE zE enc hE.1 hE.2 cf hO g cb g0 0 c l.toArray w eg (fun _ _ _ _ x y=>hcmp _ x y) (h.holds hE hA) hg2 (by simpa using hsz);subst hA;rw[List.size_toArray]at hcon;refine hcon.mono ?_;rintro en w' ⟨rfl,d',n,os,hp,hs,rfl⟩;have hd:d'.size=l.length:=by simpa using hp.1
  obtain⟨h1,h2⟩:=h.sorted hE (g:=g0) (n:=n) (os:=os) rfl hd;refine⟨rfl,d'.toList,?_,?_,h1,h2⟩
  ·have:=hp.2.2
   have e1:d'.extract 0 l.length=d':=by rw[←hd,Array.extract_size]
   have e2:l.toArray.extract 0 l.length=l.toArray:=by rw[←List.size_toArray,Array.extract_size]
   rw[e1,e2]at this;exact this
  ·rw[List.pairwise_iff_getElem];intro i j hi hj hij;rw[Array.length_toList]at hi hj;have:=hs i j (Nat.zero_le _) hij (by omega)
   rw[getElem!_pos d' j hj,getElem!_pos d' i hi]at this;simpa using this
end
end
end Go.Proofs.YtimffppffbideaaGreatDoor
