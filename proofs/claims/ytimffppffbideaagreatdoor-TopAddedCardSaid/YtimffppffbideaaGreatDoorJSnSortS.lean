import Derived.Test.YtimffppffbideaaGreatDoorShelf2
import Derived.Sort.OwnSorted
import Derived.Test.YtimffppffbideaaGreatDoorJSnDist
set_option linter.unusedSimpArgs false
set_option linter.unusedVariables false
set_option maxRecDepth 100000
set_option maxHeartbeats 8000000
namespace Go.Proofs.YtimffppffbideaaGreatDoor
section
open Go.RowKit Go.Lib Go.Sort Go.Shelf
def encSb (s:ByteArray):List Value:=[.string s]
theorem encSb_ok:Enc encSb 1:=⟨fun _=>rfl,fun x u hu=>by simp[encSb]at hu;subst hu;rfl⟩
theorem tySb:TyS Tryz.prog 247 9 1 16:=TyS.mk' (z:=.string ⟨#[]⟩) Tryz.underlying247 (by kernel_rfl) rfl (by omega)
theorem Rd.sb {w:World}{B:Nat}{A:Option Addr}{l:List ByteArray}(h:Rd encSb 1 w B A l){i:Nat}(hi:i<l.length):
  ∃b off x,A=some ⟨b,off,none⟩∧b<B∧l[i]? =some x∧w.cell? ⟨b,off+i,none⟩=some (.string x):=by
 obtain⟨b,off,x,hA,hb,hx,hc⟩:=h.at_ hi;exact⟨b,off,x,hA,hb,hx,by simpa using hc 0 _ rfl⟩
theorem flat_sb:∀l:List ByteArray,l.flatMap encSb=l.map (encStr∘fun s=>s.data.toList)
 |[]=>rfl
 |x::l=>by rw[List.flatMap_cons,flat_sb l,List.map_cons];rfl
theorem sortStr_any {A:Option Addr}{c:Nat}{l:List ByteArray}{w:World}{base:Nat}(h:Own 9 encSb 1 w base A c l)(hb:base≤w.heap.size)(hl:l.length<4611686018427387904):
  Calls Tryz.prog 176 #[.slice A l.length c] w fun e w'=>e=.returned (.tuple #[])∧Own 9 encSb 1 w' base A c (ordS ltS l)∧Below base w w'∧∀b,b<w.heap.size→(∀g,A=some ⟨g,0,none⟩→b≠g)→w'.heap[b]? =w.heap[b]? :=by
 have hlen:(ordS ltS l).length=l.length:=ord_len cmpS_pre l;rcases h.2 with⟨hv,hn⟩|⟨g,cap,cur,hv,hbg,hh,hnc,hcm,hcs,htk⟩
 ·have hl0:l=[]:=List.eq_nil_of_length_eq_zero hn;subst hl0;injection hv with h1 _ h3;subst h1 h3;refine(Any.slices_Sort_string_none Tryz.lay_sortstr_f176 none 0 w).mono ?_;rintro e w' ⟨rfl,rfl⟩;exact⟨rfl,h,Below.refl _ _,fun _ _ _=>rfl⟩
 ·injection hv with h1 _ h3;subst h1 h3;obtain⟨ss,hss⟩:∃ss,l.map (fun s=>s.data.toList)=ss:=⟨_,rfl⟩;have hsl:ss.length=l.length:=by rw[←hss,List.length_map]
  have hfl:l.flatMap encSb=ss.map encStr:=by
   rw[←hss,List.map_map];exact flat_sb l
  have hH:=holds_of_block hh (ss:=ss) (by rw[hsl];simpa[hfl]using htk);have hc:=Any.slices_Sort_string Tryz.lay_sortstr_f176 g 0 c ss w hH (Array.getElem?_eq_some_iff.1 hh).1 (by omega);rw[hsl]at hc;refine hc.mono ?_;rintro e w' ⟨rfl,n,os,rfl⟩;obtain⟨ts,hts⟩:∃ts,(ss.mergeSort fun x y=>decide (x≤y))=ts:=⟨_,rfl⟩;have hperm:ts.Perm ss:=by rw[←hts];exact List.mergeSort_perm _ _
  have hsort:ts.Pairwise fun x y=>x≤y:=by
   rw[←hts];have:=List.pairwise_mergeSort (le:=fun x y:List UInt8=>decide (x≤y)) (fun a b c h1 h2=>by simp at h1 h2 ⊢;exact List.le_trans h1 h2) (fun a b=>by simp;exact List.le_total a b) ss
   exact this.imp fun{a b} h=>by simpa using h
  have hback:∀l:List ByteArray,(l.map (fun s=>s.data.toList)).map (fun x:List UInt8=>(⟨x.toArray⟩:ByteArray))=l:=by
   intro l;rw[List.map_map];conv=>rhs;rw[←List.map_id l]
   exact List.map_congr_left fun x _=>rfl
  have hord:ts.map (fun x:List UInt8=>(⟨x.toArray⟩:ByteArray))=ordS ltS l:=by
   refine ord_uniq cmpS_pre (fun _ _=>cmpS_zero.1) ?_ ?_
   ·have:=hperm.map (fun x:List UInt8=>(⟨x.toArray⟩:ByteArray))
    rw[←hss,hback]at this;exact this
   ·rw[List.pairwise_map];refine hsort.imp fun{a b} hab=> ?_;have h1:=mt (cb_gt a b).1 (fun q=>absurd hab (List.not_le.2 q));show Lib.compareBytes a b≤0
    omega
  have hbk:∀b,b<w.heap.size→(∀g',some (⟨g,0,none⟩:Addr)=some ⟨g',0,none⟩→b≠g')→(grow (putRow encStr (Sort.ahead w n) g 0 ts.toArray) os).heap[b]? =w.heap[b]? :=fun b hb2 hne=>(grownBy_sorted ts.toArray).block b hb2 fun e=>hne g rfl (Option.some.inj e);refine⟨rfl,?_,?_,?_⟩
  ·have:=ownsRow_sorted (os:=os) (n:=n) (ss:=ss) (ts:=ts) (by exact hperm.length_eq) hbg hh (by omega) hcm hcs
   rw[←hord,hts];unfold Own;rw[List.length_map,hperm.length_eq,hsl];rw[hsl]at this;have e:(ts.map fun x:List UInt8=>(⟨x.toArray⟩:ByteArray)).flatMap encSb=ts.map encStr:=by
    generalize ts=t;induction t with
    |nil=>rfl
    |cons x t ih=>rw[List.map_cons,List.flatMap_cons,ih,List.map_cons];rfl
   rw[e];exact this
  ·rw[hts];exact⟨rfl,rfl,rfl,(grownBy_sorted ts.toArray).size,fun q hq=>hbk q (by omega) (fun g' e=>by injection e with e;injection e with e;omega)⟩
  ·rw[hts];exact hbk
end
section
open Go.RowKit Go.Lib Go.Sort
open Go.Maps (Keyed)
open Mat
theorem inSb_iff {o:List ByteArray}{s:ByteArray}:inSb o s=true↔s∈o:=by
 unfold inSb;rw[List.any_eq_true];constructor
 ·rintro⟨y,hy,e⟩;rw[eqS_iff]at e;exact e▸hy
 ·intro h;exact⟨s,h,(eqS_iff s s).2 rfl⟩
theorem uniq_snoc (l:List ByteArray)(x:ByteArray):uniq (l++[x])=if inSb (uniq l) x=true then uniq l else uniq l++[x]:=by unfold uniq;rw[List.foldl_append];rfl
theorem uniq_mem (l:List ByteArray)(s:ByteArray):s∈uniq l↔s∈l:=by
 have h:∀(l o:List ByteArray),s∈l.foldl (fun o s=>if inSb o s=true then o else o++[s]) o↔s∈o∨s∈l:=by
  intro l;induction l with
  |nil=>intro o;simp
  |cons x l ih=>
   intro o;rw[List.foldl_cons,ih];split
   ·rename_i q;have q:=inSb_iff.1 q;rw[List.mem_cons];constructor
    ·rintro(h|h)
     ·exact Or.inl h
     ·exact Or.inr (Or.inr h)
    ·rintro(h|h|h)
     ·exact Or.inl h
     ·exact Or.inl (h▸q)
     ·exact Or.inr h
   ·rw[List.mem_append,List.mem_singleton,List.mem_cons,or_assoc]
 rw[uniq,h];simp
theorem uniq_nodup (l:List ByteArray):(uniq l).Nodup:=by
 have h:∀(l o:List ByteArray),o.Nodup→(l.foldl (fun o s=>if inSb o s=true then o else o++[s]) o).Nodup:=by
  intro l;induction l with
  |nil=>intro o q;exact q
  |cons x l ih=>
   intro o q;rw[List.foldl_cons];refine ih _ ?_;split
   ·exact q
   ·rename_i hx;rw[List.nodup_append];refine⟨q,List.pairwise_singleton _ _,?_⟩;intro a ha b hb e;rw[List.mem_singleton]at hb;subst hb e;exact hx (inSb_iff.2 ha)
 exact h l [] List.nodup_nil
theorem uniq_len (l:List ByteArray):(uniq l).length≤l.length:=by
 have h:∀(l o:List ByteArray),(l.foldl (fun o s=>if inSb o s=true then o else o++[s]) o).length≤o.length+l.length:=by
  intro l;induction l with
  |nil=>intro o;simp
  |cons x l ih=>
   intro o;rw[List.foldl_cons,List.length_cons];refine Nat.le_trans (ih _) ?_;split
   ·omega
   ·simp;omega
 have:=h l []
 simpa[uniq]using this
theorem nodup_ix {α:Type}{l:List α}(h:l.Nodup){i j:Nat}{x:α}(hi:l[i]? =some x)(hj:l[j]? =some x):i=j:=by
 obtain⟨i1,i2⟩:=List.getElem?_eq_some_iff.1 hi;obtain⟨j1,j2⟩:=List.getElem?_eq_some_iff.1 hj;have hp:=List.pairwise_iff_getElem.1 h;rcases Nat.lt_trichotomy i j with q|q|q
 ·exact absurd (i2.trans j2.symm) (hp i j i1 j1 q)
 ·exact q
 ·exact absurd (j2.trans i2.symm) (hp j i j1 i1 q)
theorem wSum_snoc (l:List (ByteArray×Int))(x:ByteArray×Int)(p:ByteArray):wSum (l++[x]) p=wSum l p+if x.1=p then wOne x.2 else 0:=by unfold wSum;simp
theorem wSum_none {l:List (ByteArray×Int)}{p:ByteArray}(h:p∉l.map Prod.fst):wSum l p=0:=by
 unfold wSum;induction l with
 |nil=>rfl
 |cons a l ih=>
  rw[List.map_cons,List.mem_cons,not_or]at h;rw[List.map_cons,List.sum_cons,ih h.2,if_neg fun e=>h.1 e.symm];rfl
def wts (l:List (ByteArray×Int))(ks:List ByteArray):List (Value×Value):=ks.map fun s=>(.string s,.int .i64 (wSum l s))
theorem wts_new {l:List (ByteArray×Int)}{ks:List ByteArray}{x:ByteArray×Int}(hx:x.1∉ks)(hl:∀s,s∈ks↔s∈l.map Prod.fst):wts l ks++[(.string x.1,.int .i64 (wOne x.2))]=wts (l++[x]) (ks++[x.1]):=by
 unfold wts;rw[List.map_append];congr 1
 ·refine List.map_congr_left fun s hs=> ?_;rw[wSum_snoc,if_neg (fun e:x.1=s=>hx (by rw[e];exact hs)),Int.add_zero]
 ·rw[List.map_singleton,wSum_snoc,if_pos rfl,wSum_none (fun h=>hx ((hl _).2 h)),Int.zero_add]
theorem wts_at {l:List (ByteArray×Int)}{ks:List ByteArray}(hn:ks.Nodup){x:ByteArray×Int}{j:Nat}(hj:ks[j]? =some x.1):(wts l ks).set j (.string x.1,.int .i64 (wSum l x.1+wOne x.2))=wts (l++[x]) ks:=by
 unfold wts;refine List.ext_getElem? fun i=> ?_;rw[List.getElem?_set,List.getElem?_map];have hj1:=(List.getElem?_eq_some_iff.1 hj).1;by_cases e:j=i
 ·subst e;rw[if_pos rfl,if_pos (by simpa using hj1),List.getElem?_map,hj,Option.map_some,wSum_snoc,if_pos rfl]
 ·rw[if_neg e,List.getElem?_map];cases hi:ks[i]? with
  |none=>rfl
  |some s=>
   rw[Option.map_some,Option.map_some,wSum_snoc,if_neg,Int.add_zero];intro q;refine e ?_;exact nodup_ix hn hj (by rw[hi,q])
theorem keyStr:Keyed Tryz.prog 9:=Go.Maps.string_keyed Tryz.underlying9
theorem wkey {s:ByteArray}(h:s.size≤100):keyOf Tryz.prog 9 (.string s)=some (.string s.data.toList):=Go.WideMaps.keyOf_string_mk Tryz.underlying9 (by unfold maxLen;omega)
theorem look_wts {w:World}{b:Nat}{l:List (ByteArray×Int)}{ks:List ByteArray}(h:MapL Tryz.prog 9 w b (wts l ks)){s:ByteArray}(hs:s∈ks)(hsz:s.size≤100)(c:Bool):
  (Instr.lookup 261 (.map (some b)) (.string s) c).run Tryz.prog w=.ok (if c then .tuple #[.int .i64 (wSum l s),.bool true]else .int .i64 (wSum l s)) w:=by
 refine h.look_at keyStr Tryz.underlying261 (wkey hsz) ⟨(.string s,.int .i64 (wSum l s)),List.mem_map.2 ⟨s,hs,rfl⟩,rfl⟩ (fun p hp e=> ?_) c;obtain⟨s',_,rfl⟩:=List.mem_map.1 hp;injection e with e;subst e;rfl
theorem look_wno {w:World}{b:Nat}{l:List (ByteArray×Int)}{ks:List ByteArray}(h:MapL Tryz.prog 9 w b (wts l ks)){s:ByteArray}(hs:s∉ks)(hsz:s.size≤100)(c:Bool):
  (Instr.lookup 261 (.map (some b)) (.string s) c).run Tryz.prog w=.ok (if c then .tuple #[.int .i64 0,.bool false]else .int .i64 0) w:=by
 refine h.look_no keyStr Tryz.underlying261 (Tryz.zeroValue3 w) (wkey hsz) (fun p hp e=> ?_) c;obtain⟨s',hs',rfl⟩:=List.mem_map.1 hp;injection e with e;subst e;exact hs hs'
theorem wp_storeL {P:Program}{k e t:TypeId}{w:World}{b:Nat}{l:List (Value×Value)}{o:Oper}{a:Act}{K0:Act→World→Prop}{Q:Exit→Act→World→Prop}
  (m x v:Operand) (hop:o.op=Op.mapUpdate t m x v) (K:Keyed P k) (ht:P.underlying t=some (.map k e)) (hm:a.eval m=.map (some b)) (hown:MapL P k w b l)
  (key val:Value) (kl:Lit) (hx:a.eval x=key) (hv:a.eval v=val) (hkey:keyOf P k key=some kl) (hno:∀p∈l,p.1≠key)
  (hK:∀w',MapL P k w' b (l++[(key,val)])→w.grownBy w' (some b)→K0 (a.put o.dst undef) w'):o.wp P a w K0 Q:=by
 obtain⟨w',hrun,r1,r2⟩:=hown.store_new K ht (val:=val) hkey hno;unfold Oper.wp;simp[execOp,hop,hm,hx,hv,hrun,Result.andThen];exact hK w' r1 r2
theorem wp_storeA {P:Program}{k e t:TypeId}{w:World}{b:Nat}{l:List (Value×Value)}{o:Oper}{a:Act}{K0:Act→World→Prop}{Q:Exit→Act→World→Prop}
  (m x v:Operand) (hop:o.op=Op.mapUpdate t m x v) (K:Keyed P k) (ht:P.underlying t=some (.map k e)) (hm:a.eval m=.map (some b)) (hown:MapL P k w b l)
  (key val v0:Value) (kl:Lit) (hx:a.eval x=key) (hv:a.eval v=val) (hkey:keyOf P k key=some kl) {j:Nat} (hj:l[j]? =some (key,v0)) (hu:∀i u,l[i]? =some (key,u)→i=j)
  (hK:∀w',MapL P k w' b (l.set j (key,val))→w.grownBy w' (some b)→K0 (a.put o.dst undef) w'):o.wp P a w K0 Q:=by
 obtain⟨w',hrun,r1,r2⟩:=hown.store_at K ht (val:=val) hkey hj hu;unfold Oper.wp;simp[execOp,hop,hm,hx,hv,hrun,Result.andThen];exact hK w' r1 r2
theorem wts_no {l:List (ByteArray×Int)}{ks:List ByteArray}{s:ByteArray}(hs:s∉ks):∀p∈wts l ks,p.1≠.string s:=by
 intro p hp e;obtain⟨s',hs',rfl⟩:=List.mem_map.1 hp;injection e with e;subst e;exact hs hs'
theorem wts_get {l:List (ByteArray×Int)}{ks:List ByteArray}{j:Nat}{s:ByteArray}(hj:ks[j]? =some s):(wts l ks)[j]? =some (.string s,.int .i64 (wSum l s)):=by unfold wts;rw[List.getElem?_map,hj];rfl
theorem wts_one {l:List (ByteArray×Int)}{ks:List ByteArray}(hn:ks.Nodup){j:Nat}{s:ByteArray}(hj:ks[j]? =some s)(i:Nat)(u:Value)(hi:(wts l ks)[i]? =some (.string s,u)):i=j:=by
 unfold wts at hi;rw[List.getElem?_map]at hi;cases h:ks[i]? with
 |none=>rw[h]at hi;cases hi
 |some s'=>
  rw[h,Option.map_some]at hi;injection hi with hi;injection hi with hi _;injection hi with hi;subst hi;exact nodup_ix hn h hj
theorem own_map_ne {α:Type}{e:Nat}{enc:α→List Value}{k:Nat}{w:World}{base:Nat}{A:Option Addr}{c:Nat}{l:List α}(h:Own e enc k w base A c l){P:Program}{kt:TypeId}{b:Nat}{m:List (Value×Value)}(hm:MapL P kt w b m){g:Nat}(hA:A=some ⟨g,0,none⟩):b≠g:=by
 rintro rfl;subst hA;obtain⟨es,clock,hb,_⟩:=hm;rcases h.2 with⟨q,_⟩|⟨g1,cap,cur,hv,_,hh,_⟩
 ·injection q with q;cases q
 ·injection hv with q;injection q with q;injection q with q;subst q;rw[hb]at hh;cases hh
end
section
open Go.RowKit Go.Lib Go.Sort
open Go.Maps (Keyed)
open Mat
def VoteR (l:List (ByteArray×Int))(e:Ending):Prop:=∃n:Int,e=.returned (.tuple #[.string (vList l),.int .i64 n])
theorem vote_any {A B:Option Addr}(c cb:Nat){l:List (ByteArray×Int)}{w:World}(hr:Rd encSb 1 w w.heap.size A (l.map Prod.fst))(hb:Rd encI 1 w w.heap.size B (l.map Prod.snd))(hl:l.length≤100)(hsz:∀x∈l,x.1.size≤32):
  Calls Tryz.prog 155 #[.slice A l.length c,.slice B l.length cb] w fun e w'=>VoteR l e∧Below w.heap.size w w':=by
 have HR:=hid hr;have HB:=hid hb;have HSZ:=hid hsz;obtain⟨n,hn⟩:∃n,l.length=n:=⟨_,rfl⟩;have HN:=hid hn;rw[hn]at hl ⊢;clear hr hb hsz hn;obtain⟨Y,hY⟩:∃Y,w.alloc (.map #[] 0)=Y:=⟨_,rfl⟩;have HM0:Hid (MapL Tryz.prog 9 Y w.heap.size []):=hid (by rw[←hY];exact MapL.made _ _ _);have HB0:Hid (Below w.heap.size w Y):=hid (by rw[←hY];exact(Below.refl _ w).al _);have hmm:= @run_makeMap Tryz.prog;by_cases h0:n=0
 ·subst h0;have R:=hid (show vList l=⟨#[]⟩ by rw[List.eq_nil_of_length_eq_zero HN.out];rfl);go_enter Tryz.func155,Tryz.ntmps155;go_wp2_with fail
  go_ret2;exact⟨⟨0,by rw[R.out];rfl⟩,Below.refl _ _⟩
 ·have hn0:((n:Int)==0)=false:=by simp[h0]
  have HP:=hid h0;clear h0;obtain⟨mb,hmb⟩:∃mb,w.heap.size=mb:=⟨_,rfl⟩;have HMB:=hid hmb;have MS:=fun(X:World)=>hmm 261 X;go_enter Tryz.func155,Tryz.ntmps155;go_wp2_with fail
  rw[hmb]at HM0;clear hmm MS hY hmb;go_loopw [32,7] (fun si sa wr=>∃(k:Nat) (A:Option Addr) (c:Nat) (ks:List ByteArray),k≤n∧si=.int .i64 k∧sa=.slice A ks.length c∧Hid (ks=uniq ((l.take k).map Prod.fst))∧Hid (Own 9 encSb 1 wr mb A c ks)∧Hid (MapL Tryz.prog 9 wr mb (wts (l.take k) ks))∧Hid (Below mb w wr)) (fun si _ _=>n-(RowKit.intOf si).toNat)
  case atStart=>exact⟨0,none,0,[],Nat.zero_le _,rfl,rfl,rfl,Own.nil _ _,HM0,by unfold Hid;rw[←HMB.out];exact HB0.out⟩
  case round=>
   clear HM0 HB0;obtain⟨k,A9,c9,ks,hk,rfl,rfl,HKS,HO,HM,HBW⟩:=hrel;have HKL:=hid (show ks.length≤n by rw[HKS.out];refine Nat.le_trans (uniq_len _) ?_;rw[List.length_map,List.length_take];omega);have HBZ:Hid (Below w.heap.size w wr):=hid (by rw[HMB.out];exact HBW.out);have k1:(0:Int)≤(k:Int):=by omega
   by_cases hi:k<n
   ·have k2:(k:Int)<(n:Int):=by omega
    obtain⟨x,hx⟩:∃x,l[k]? =some x:=⟨_,List.getElem?_eq_getElem (by rw[HN.out];exact hi)⟩;have HX:=hid hx;have hxs:=HSZ.out x (List.mem_of_getElem? hx);obtain⟨b1,o1,y1,hA1,hb1,hy1,d1⟩:=(HR.out.keep HBZ.out).sb (i:=k) (by rw[List.length_map,HN.out];exact hi);obtain⟨b2,o2,y2,hA2,hb2,hy2,d2⟩:=(HB.out.keep HBZ.out).i (i:=k) (by rw[List.length_map,HN.out];exact hi);rw[List.getElem?_map,hx]at hy1 hy2;injection hy1 with hy1;injection hy2 with hy2;subst hy1 hy2 hA1 hA2;obtain⟨s,v⟩:=x;simp only at d1 d2 hxs;have HI:=hid hi;have HT:=hid (take_snoc hx);have HW1:=hid (fun(h:s∉ks)=>wts_new (l:=l.take k) (ks:=ks) (x:=(s,v)) h (fun s=>by rw[HKS.out];exact uniq_mem _ _));have HND:Hid ks.Nodup:=hid (by rw[HKS.out];exact uniq_nodup _);have HRG:=hid (wSum_rng (l.take k) s);have HLT:=hid (show(l.take k).length≤n by rw[List.length_take];omega);have HWO:=hid (show wOne v=(if(if 1000<v then 1000 else v)<0 then 0 else(if 1000<v then 1000 else v)) by unfold wOne;split<;>split<;>omega);have hlb2:b2<mb:=by have:=HMB.out;omega
    clear hx hi hb1 hb2 hk;by_cases hs:s∈ks
    ·obtain⟨j,hj⟩:=List.mem_iff_getElem?.1 hs;have HU:=hid (show ks=uniq ((l.take (k+1)).map Prod.fst) by rw[HT.out,List.map_append,List.map_singleton,uniq_snoc,if_pos (inSb_iff.2 (by rw[←HKS.out];exact hs)),←HKS.out]);have hlk:=look_wts HM.out hs (show s.size≤100 by omega) true;simp only[if_true]at hlk;have hm5:MapL Tryz.prog 9 wr.drew mb (wts (l.take k) ks):=HM.out.drewN 1;have hl5:=look_wts hm5 hs (show s.size≤100 by omega) false;simp only[Bool.false_eq_true,if_false]at hl5;have HWA:=hid (wts_at (l:=l.take k) HND.out (x:=(s,v)) hj);have HJ:=hid hj;have hkey:=wkey (show s.size≤100 by omega);obtain⟨u,hu⟩:∃u,wSum (l.take k) s=u:=⟨_,rfl⟩;have HUU:=hid hu;rw[hu]at hlk hl5 HRG;have hrg:=HRG.out;have hlt:=HLT.out;clear hs hj hu;go_upto_region 11 with fail
     have HS4:Hid ((fun X:World=>X.cell? ⟨b2,o2+k,none⟩=some (.int .i64 v)) wr.drew):=hid d2;clear d1 d2 hlk;refine wp_region_held_drew (S:=(fun X:World=>X.cell? ⟨b2,o2+k,none⟩=some (.int .i64 v))) (by kernel_rfl) HS4.out (fun hHeld=> ?_);have hSS:(fun X:World=>X.cell? ⟨b2,o2+k,none⟩=some (.int .i64 v)) wr.drew:=HS4.out;have hlb3:b2<wr.drew.heap.size:=by show b2<wr.heap.size;have:=HBZ.out.size;have:=HMB.out;omega
     have HO4:=hid (HO.out.drew);have HB4:=hid (HBW.out.drew);clear HS4 HM HO HBW;generalize wr.drew=V0 at*;change wpAnyH _ _ _ _ _ 11 _ _ _;refine tk 0 (h:= ?_);refine tk 1 (h:= ?_);refine tk 3 (h:= ?_);refine tk 4 (h:= ?_);refine tk 5 (h:= ?_);refine tk 6 (h:= ?_);refine tk 7 (h:= ?_);refine tk 8 (h:= ?_);refine rd1 2 (h:=fun K hK=> ?_);rw[if_pos (by rfl)];go_wp2_with fail
     refine hK.out _ _ hSS (fun hHeld=> ?_);clear hK K hl5;refine td (h:= ?_);refine tk 9 (h:= ?_);refine rd1 10 (h:=fun K hK=> ?_);rw[if_pos (by rfl)];refine wp_storeA (.tmp 49) (.tmp 50) (.tmp 58) rfl keyStr Tryz.underlying261 rfl hm5 (.string s) (.int .i64 (u+wOne v)) (.int .i64 u) _ rfl ?_ hkey (j:=j) (by rw[←HUU.out];exact wts_get HJ.out) (fun i x h=>wts_one HND.out HJ.out i x h) ?_
     ·refine congrArg (Value.int .i64) ?_;have:=wOne_rng v
      exact IntWalk.i64_in _ (by omega)
     intro w6 hm6 hg6;refine hK.out _ _ ?_ (fun hHeld=> ?_)
     ·exact(World.cell?_of_block (a:=⟨b2,_,none⟩) (grown_block hg6 hlb3 (by show b2≠mb;omega))).trans hSS
     clear hK K;refine td (h:= ?_);refine wpAnyH_done (by kernel_rfl) ?_ _;have HM6:Hid (MapL Tryz.prog 9 w6 mb (wts (l.take (k+1)) ks)):=hid (by rw[HT.out,←HWA.out];show MapL _ _ _ _ ((wts _ _).set j (.string s,.int .i64 (wSum (l.take k) s+wOne v)));rw[HUU.out];exact hm6);have HO6:=hid (HO4.out.keepB (w':=w6) (fun g hg hl=>grown_block hg6 hl (fun e=>own_map_ne HO4.out hm5 hg e.symm)));have HB6:=hid (below_store HB4.out hg6 (by have:=HB4.out.size;have:=HMB.out;have:=HBZ.out.size;omega) (Nat.le_refl _));clear hm6 hg6 hHeld hSS;go_wp2_with fail
     go_roundw
     case rel=>exact⟨k+1,A9,c9,ks,HI.out,by go_num,rfl,HU.out,HO6.out,HM6.out,HB6.out⟩
     case measure=>have:=HI.out;simp[RowKit.intOf];omega
    ·have HU:=hid (show ks++[s]=uniq ((l.take (k+1)).map Prod.fst) by rw[HT.out,List.map_append,List.map_singleton,uniq_snoc,if_neg (fun q=>hs (by rw[HKS.out];exact inSb_iff.1 q)),←HKS.out]);have HL2:=hid (fun(W:World) (h:MapL Tryz.prog 9 W mb (wts (l.take k) ks))=>look_wno h hs (show s.size≤100 by omega) false);have hlk:=look_wno HM.out hs (show s.size≤100 by omega) true;simp only[if_true]at hlk;have HW1:=hid (HW1.out hs);have hkey:=wkey (show s.size≤100 by omega);have HNO:=hid hs;have hkl:=HKL.out;have hbs:mb≤wr.heap.size:=by have:=HBZ.out.size;have:=HMB.out;omega
     clear hs;go_upto_region 11 with((at_builtin;refine wpList_app1b rfl (.tmp 45) (.tmp 47) tySb encSb_ok rfl s rfl _ rfl (by simp) HO.out rfl (by first|rfl|assumption|simp) (by first|omega|(simp;omega)) (by first|omega|(simp;omega)) hbs ?_;intro A4 c4 w4 hown4 hb4 hs4 hf4;have hbel4:=(HBW.out).trans hb4))
     have HM4:=hid (HM.out.keepB (w':=w4) (hf4 mb HM.out.lt (fun g hg=>own_map_ne HO.out HM.out hg)));have d4:w4.cell? ⟨b2,o2+k,none⟩=some (.int .i64 v):=(hb4.cell (p:=⟨b2,_,none⟩) hlb2).trans d2;have HO4:=hid hown4;have HB4:=hid hbel4;have HS4:Hid ((fun X:World=>X.cell? ⟨b2,o2+k,none⟩=some (.int .i64 v)) w4.drew):=hid d4;clear hown4 hb4 hs4 hf4 hbel4 d1 d2 d4 hlk hbs hkl HO HM HBW;refine wp_region_held_drew (S:=(fun X:World=>X.cell? ⟨b2,o2+k,none⟩=some (.int .i64 v))) (by kernel_rfl) HS4.out (fun hHeld=> ?_);have hSS:(fun X:World=>X.cell? ⟨b2,o2+k,none⟩=some (.int .i64 v)) w4.drew:=HS4.out;have hlb3:b2<w4.drew.heap.size:=by show b2<w4.heap.size;have:=HB4.out.size;have:=HBZ.out.size;have:=HMB.out;omega
     have HM4:=hid (HM4.out.drewN 1);have HO4:=hid (HO4.out.drew);have HB4:=hid (HB4.out.drew);have hm5:MapL Tryz.prog 9 w4.drew mb (wts (l.take k) ks):=HM4.out;have hl5:=HL2.out _ hm5;simp only[Bool.false_eq_true,if_false]at hl5;clear HS4 HM4 HL2;generalize w4.drew=V0 at*;change wpAnyH _ _ _ _ _ 11 _ _ _;refine tk 0 (h:= ?_);refine tk 1 (h:= ?_);refine tk 3 (h:= ?_);refine tk 4 (h:= ?_);refine tk 5 (h:= ?_);refine tk 6 (h:= ?_);refine tk 7 (h:= ?_);refine tk 8 (h:= ?_);refine rd1 2 (h:=fun K hK=> ?_);rw[if_pos (by rfl)];go_wp2_with fail
     refine hK.out _ _ hSS (fun hHeld=> ?_);clear hK K hl5;refine td (h:= ?_);refine tk 9 (h:= ?_);refine rd1 10 (h:=fun K hK=> ?_);rw[if_pos (by rfl)];refine wp_storeL (.tmp 49) (.tmp 50) (.tmp 58) rfl keyStr Tryz.underlying261 rfl hm5 (.string s) (.int .i64 (wOne v)) _ rfl ?_ hkey (wts_no HNO.out) ?_
     ·refine congrArg (Value.int .i64) ?_;exact IntWalk.i64_in _ (by omega)
     intro w6 hm6 hg6;refine hK.out _ _ ?_ (fun hHeld=> ?_)
     ·exact(World.cell?_of_block (a:=⟨b2,_,none⟩) (grown_block hg6 hlb3 (by show b2≠mb;omega))).trans hSS
     clear hK K;refine td (h:= ?_);refine wpAnyH_done (by kernel_rfl) ?_ _;have HM6:Hid (MapL Tryz.prog 9 w6 mb (wts (l.take (k+1)) (ks++[s]))):=hid (by rw[HT.out,←HW1.out];exact hm6);have HO6:=hid (HO4.out.keepB (w':=w6) (fun g hg hl=>grown_block hg6 hl (fun e=>own_map_ne HO4.out hm5 hg e.symm)));have HB6:=hid (below_store HB4.out hg6 (by have:=HB4.out.size;have:=HMB.out;have:=HBZ.out.size;omega) (Nat.le_refl _));clear hm6 hg6 hHeld hSS;go_wp2_with fail
     go_roundw
     case rel=>exact⟨k+1,A4,c4,ks++[s],HI.out,by go_num,by simp,HU.out,HO6.out,HM6.out,HB6.out⟩
     case measure=>have:=HI.out;simp[RowKit.intOf];omega
   ·obtain rfl:k=n:=by omega
    rw[show l.take k=l by rw[←HN.out,List.take_length]]at HKS HM;have hbs:mb≤wr.heap.size:=by have:=HBZ.out.size;have:=HMB.out;omega
    have CS:=hid (sortStr_any HO.out hbs (by have:=HKL.out;omega));have HSL:Hid ((ordS ltS ks).length=ks.length):=hid (ord_len cmpS_pre ks);have HMQ:=hid (fun(q:∀b,b<wr.heap.size→(∀g,A9=some ⟨g,0,none⟩→b≠g)→True)=>True.intro);have HNE:=hid (fun g (hg:A9=some ⟨g,0,none⟩)=>own_map_ne HO.out HM.out hg);have HPM:=hid (show∀s∈ordS ltS ks,s∈ks∧s.size≤32 from fun s hs=>by
     have h1:=(ordS_ok cmpS_pre.swo ks).perm.mem_iff.1 hs;refine⟨h1,?_⟩;rw[HKS.out,uniq_mem,List.mem_map]at h1;obtain⟨x,hx,rfl⟩:=h1;exact HSZ.out x hx)
    clear hi hk HMQ;go_wp2_with fail
    refine CS.out.mono ?_;rintro e w2 ⟨rfl,hown,hb2,hot⟩;have HM:=hid (HM.out.keepB (hot mb HM.out.lt HNE.out));have HBW:=hid (HBW.out.trans hb2);have HO:=hid hown;have HR:=hid (hown.rd encSb_ok);obtain⟨al,hal⟩:∃al,ordS ltS ks=al:=⟨_,rfl⟩;have HV:=hid (show vList l=(vBest (wSum l) al al).1 by unfold vList;rw[←hal,HKS.out]);rw[hal]at HO HSL HPM HR;rw[←HSL.out];have HAL:=hid (show al.length≤100 by have:=HKL.out;have:=HSL.out;omega);clear hown hb2 hot CS hal HNE;have HBZ:Hid (Below w.heap.size w w2):=hid (by rw[HMB.out];exact HBW.out);have HKB:=hid (show∀p∈ks,0≤wSum l p∧wSum l p≤100000 from fun p _=>by have:=wSum_rng l p;have:=HN.out;omega);have HSB:=hid (fun(s:ByteArray) (r:List ByteArray) (hr:r.length≤100)=>show 0≤vSum (wSum l) s r∧vSum (wSum l) s r≤1920000000 by
     have h1:=vSum_from (w:=wSum l) (s:=s) (B:=100000) (fun p=>by have:=wSum_rng l p;have:=HN.out;omega) r 0 (Int.le_refl 0);unfold vSum;omega)
    have HKE:=hid (fun(p:ByteArray) (hp:p∈al)=>(HPM.out p hp).1);obtain⟨m,hm⟩:∃m,al.length=m:=⟨_,rfl⟩;have HML:=hid hm;rw[hm]at HAL ⊢;have hml:=HAL.out;clear hm HKS HSL HBW HN HMB HO;go_wp2_with fail
    go_loopw [64,12,13] (fun si sb sl wx=>∃k:Nat,k≤m∧si=.int .i64 k∧sb=.string (vBest (wSum l) al (al.take k)).1∧sl=.int .i64 (vBest (wSum l) al (al.take k)).2∧Hid (Below w2.heap.size w2 wx)) (fun si _ _ _=>m-(RowKit.intOf si).toNat)
    case atStart=>exact⟨0,Nat.zero_le _,rfl,rfl,rfl,Below.refl _ _⟩
    case round=>
     obtain⟨wo,hwo⟩:∃wo,wo=wr:=⟨_,rfl⟩;obtain⟨i,hi,rfl,rfl,rfl,HBX⟩:=hrel;rw[←hwo]at HBX ⊢;clear hwo;have i1:(0:Int)≤(i:Int):=by omega
     by_cases him:i<m
     ·have HIM:=hid him;obtain⟨b1,o1,s,hA1,hb1,hy1,d1⟩:=(HR.out.keep HBX.out).sb (i:=i) (by rw[HML.out];exact him);subst hA1;have HVB:=hid (show vBest (wSum l) al (al.take (i+1))=if(vBest (wSum l) al (al.take i)).2<0∨vSum (wSum l) s al<(vBest (wSum l) al (al.take i)).2 then(s,vSum (wSum l) s al)else vBest (wSum l) al (al.take i) by rw[take_snoc hy1];unfold vBest;rw[List.foldl_append];rfl);have HSS:=HPM.out s (List.mem_of_getElem? hy1);have i2:(i:Int)<(m:Int):=by omega
      obtain⟨⟨bs,bl⟩,hbb⟩:∃r,vBest (wSum l) al (al.take i)=r:=⟨_,rfl⟩;rw[hbb]at HVB ⊢;simp only at HVB ⊢;clear hi hb1 hy1 hbb;go_wp2_with fail
      go_loopw [70,16] (fun sj ss wx=>∃j:Nat,j≤m∧sj=.int .i64 j∧ss=.int .i64 (vSum (wSum l) s (al.take j))∧Hid (Below w2.heap.size w2 wx)) (fun sj _ _=>m-(RowKit.intOf sj).toNat)
      case atStart=>exact⟨0,Nat.zero_le _,rfl,rfl,HBX⟩
      case round=>
       clear HBX d1;obtain⟨j,hj,rfl,rfl,HBX⟩:=hrel;have j1:(0:Int)≤(j:Int):=by omega
       by_cases hjm:j<m
       ·have HJM:=hid hjm;obtain⟨b2,o2,p,hA2,hb2,hy2,d2⟩:=(HR.out.keep HBX.out).sb (i:=j) (by rw[HML.out];exact hjm);injection hA2 with q;injection q with q1 q2;subst q1 q2;have hpa:=List.mem_of_getElem? hy2;have hpk:=HKE.out p hpa;have HPS:=(HPM.out p hpa).2;have HVN:=hid (show vSum (wSum l) s (al.take (j+1))=if 0<wSum l p then vSum (wSum l) s (al.take j)+wSum l p*distS s p else vSum (wSum l) s (al.take j) by rw[take_snoc hy2];unfold vSum;rw[List.foldl_append];rfl);have hvr:=HSB.out s (al.take j) (by rw[List.length_take];have:=HML.out;omega);have hvr2:=HSB.out s (al.take (j+1)) (by rw[List.length_take];have:=HML.out;omega);have HMX:=hid (HM.out.below HBX.out HM.out.lt);have hlk:=look_wts HMX.out hpk (show p.size≤100 by omega) false;simp only[Bool.false_eq_true,if_false]at hlk;have HLK:=hid (fun(X:World) (hX:Below wr.heap.size wr X)=>by
         have:=look_wts (HMX.out.below hX HMX.out.lt) hpk (show p.size≤100 by omega) false
         simpa only[Bool.false_eq_true,if_false]using this)
        have hur:=HKB.out p hpk;have CD:=hid (dist_any s p HSS.2 HPS);have hdr:=distS_rng s p;obtain⟨u,hu⟩:∃u,wSum l p=u:=⟨_,rfl⟩;obtain⟨d,hd⟩:∃d,distS s p=d:=⟨_,rfl⟩;obtain⟨v,hv⟩:∃v,vSum (wSum l) s (al.take j)=v:=⟨_,rfl⟩;rw[hu]at hlk HLK hur HVN;rw[hd]at CD hdr HVN;rw[hv]at HVN hvr ⊢;have j2:(j:Int)<(m:Int):=by omega
        clear hj hb2 hy2 hpa hpk hu hd hv HMX;by_cases hu0:0<u
        ·rw[HVN.out,if_pos hu0]at hvr2;have HV2:=hid (HVN.out.trans (if_pos hu0));have hud:0≤u*d:=Int.mul_nonneg (by omega) hdr.1;have hud2:u*d≤19200000:=Int.le_trans (Int.mul_le_mul hur.2 hdr.2 hdr.1 (by omega)) (by omega);have w1:IntKind.i64.wrap (u*d)=u*d:=IntWalk.i64_in _ (by omega);have w2':IntKind.i64.wrap (v+u*d)=v+u*d:=IntWalk.i64_in _ (by omega);clear hvr hvr2 hur hdr hud hud2 HVN;go_upto_region 23 with fail
         refine wp_region_held_drew (S:=(fun X:World=>(Instr.lookup 261 (.map (some mb)) (.string p) false).run Tryz.prog X=.ok (.int .i64 u) X)) (by kernel_rfl) (HLK.out _ (Below.refl _ _).drew) (fun hHeld=> ?_);have hSS:=HLK.out _ (Below.refl wr.heap.size wr).drew;have bD:Below wr.heap.size wr wr.drew:=(Below.refl wr.heap.size wr).drew;clear hlk d2;obtain⟨V0,hV0⟩:∃V,wr.drew=V:=⟨_,rfl⟩;rw[hV0]at hHeld hSS bD ⊢;clear hV0;change wpAnyH _ _ _ _ _ 10 _ _ _;refine tk 0 (h:= ?_);refine tk 1 (h:= ?_);refine tk 2 (h:= ?_);refine tk 3 (h:= ?_);refine tk 4 (h:= ?_);refine tk 5 (h:= ?_);refine rd1 6 (h:=fun K hK=> ?_);rw[if_pos (by rfl)];go_wp2_with fail
         refine(CD.out V0).mono ?_;rintro e W6 ⟨rfl,hbn⟩;have bD:=bD.st hbn;clear hbn;go_wp2_with fail
         refine hK.out _ _ (HLK.out _ bD) (fun hHeld=> ?_);have hSS:=HLK.out _ bD;clear hK K;refine td (h:= ?_);refine tk 7 (h:= ?_);refine tk 8 (h:= ?_);refine tk 9 (h:= ?_);refine wpAnyH_done (by kernel_rfl) ?_ _;have HBN:=hid (HBX.out.st bD);clear hHeld hSS bD;go_wp2_with fail
         go_roundw
         case rel=>exact⟨j+1,HJM.out,by go_num,by rw[HV2.out],HBN.out⟩
         case measure=>have:=HJM.out;simp[RowKit.intOf];omega
        ·have HV2:=hid (HVN.out.trans (if_neg hu0));clear hvr hvr2 hur hdr HVN CD HLK;go_wp2_with fail
         go_roundw
         case rel=>exact⟨j+1,HJM.out,by go_num,by rw[HV2.out],HBX⟩
         case measure=>have:=HJM.out;simp[RowKit.intOf];omega
       ·obtain rfl:j=m:=by omega
        rw[show al.take j=al by rw[←HML.out,List.take_length]];obtain⟨v,hv⟩:∃v,vSum (wSum l) s al=v:=⟨_,rfl⟩;rw[hv]at HVB ⊢;clear hv hj hjm;by_cases q1:bl<0
        ·have R:=hid (HVB.out.trans (if_pos (Or.inl q1)));clear HVB;go_wp2_with fail
         go_roundw
         case rel=>exact⟨i+1,HIM.out,by go_num,by rw[R.out],by rw[R.out],HBX⟩
         case measure=>have:=HIM.out;simp[RowKit.intOf];omega
        ·by_cases q2:v<bl
         ·have R:=hid (HVB.out.trans (if_pos (Or.inr q2)));clear HVB;go_wp2_with fail
          go_roundw
          case rel=>exact⟨i+1,HIM.out,by go_num,by rw[R.out],by rw[R.out],HBX⟩
          case measure=>have:=HIM.out;simp[RowKit.intOf];omega
         ·have R:=hid (HVB.out.trans (if_neg (fun h=>h.elim q1 q2)));clear HVB;go_wp2_with fail
          go_roundw
          case rel=>exact⟨i+1,HIM.out,by go_num,by rw[R.out],by rw[R.out],HBX⟩
          case measure=>have:=HIM.out;simp[RowKit.intOf];omega
     ·obtain rfl:i=m:=by omega
      have R:=hid (show vList l=(vBest (wSum l) al (al.take i)).1 by rw[HV.out,←HML.out,List.take_length]);obtain⟨⟨bs,bl⟩,hbb⟩:∃r,vBest (wSum l) al (al.take i)=r:=⟨_,rfl⟩;rw[hbb]at R ⊢;have HBF:=hid (HBZ.out.st HBX.out);clear hbb him hi HBX;go_wp2_with fail
      go_ret2;exact⟨⟨bl,by rw[R.out];rfl⟩,HBF.out⟩
end
end Go.Proofs.YtimffppffbideaaGreatDoor
