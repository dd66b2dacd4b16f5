import Derived.Test.YtimffppffbideaaGreatDoorDetComp
import Derived.Test.YtimffppffbideaaGreatDoorJDetCompM
set_option linter.unusedSimpArgs false
set_option linter.unusedVariables false
set_option maxRecDepth 100000
set_option maxHeartbeats 4000000
namespace Go.Proofs.YtimffppffbideaaGreatDoor
section
open Go.RowKit Go.Lib Go.Sort Go.Shelf
theorem cloneDt_any {A:Option Addr}(c:Nat){l:List Dt}{w:World}(h:Rd encDt 7 w w.heap.size A l)(hl:l.length≤1000000):
  Calls Tryz.prog 19 #[.slice A l.length c] w fun e w'=>∃A' c',e=.returned (.slice A' l.length c')∧Own 61 encDt 7 w' w.heap.size A' c' l∧Below w.heap.size w w':=by
 have qn:∀(w:World) (a:Option Addr) (n c n' c':Nat),(binOp .eql 47 (.slice a n c) (.slice none n' c')).run Tryz.prog w=.ok (.bool a.isNone) w:=fun w a n c n' c'=>Lib.run_eql_slice_nil w _ _ a n c n' c' Tryz.underlying47;have H:=hid h;clear h;cases A with
 |none=>
  have hl0:l=[]:=by
   rcases Classical.em (l=[])with q|q
   ·exact q
   ·obtain⟨_,_,hA,_⟩:=H.out q;cases hA
  subst hl0;clear H hl;go_enter Tryz.func19,Tryz.ntmps19;go_wp2;go_ret;exact⟨none,0,rfl,Own.nil _ _,Below.refl _ _⟩
 |some a=>
  have hown:=Own.lit (e:=61) (cs:=#[]) w w.heap.size ([]:List Dt) (g:=w.heap.size) encDt_ok rfl rfl (Nat.le_refl _) (by simp);have hb0:=(Below.refl w.heap.size w).al (.cells #[] 61);have hr:=H.out.st hb0;have hbs:w.heap.size≤(w.alloc (.cells #[] 61)).heap.size:=by simp
  go_enter Tryz.func19,Tryz.ntmps19;go_wp2_with(at_builtin;refine wpList_appS rfl (.tmp 5) (.tmp 6) tyDt encDt_ok rfl _ rfl (by first|rfl|simp) hown l rfl (by first|rfl|simp) hr (by first|omega|(simp;done)|(simp;omega)) (by first|omega|(simp;done)|(simp;omega)) hbs ?_;intro A4 c4 w4 hown4 hb4 hs4 hf4)
  go_ret;exact⟨A4,c4,by simp,by simpa using hown4,hb0.trans hb4⟩
theorem sort_others {α:Type}[Inhabited α]{enc:α→List Value}{k:Nat}{w:World}{g n:Nat}{os:Array Obj}{d':Array α}{b:Nat}(hne:b≠g)(hb:b<w.heap.size):(sortWorldK enc k w g 0 n d' os).heap[b]? =w.heap[b]? :=by
 unfold sortWorldK putRowK;rw[heap_grow_old _ _ (by simpa[putRow,mapBlock,Sort.ahead]using hb)];have:g≠b:=fun e=>hne e.symm
 simp[putRow,mapBlock,Sort.ahead,Array.getElem?_modify,this]
theorem sort_own2 {α:Type}[Inhabited α]{enc:α→List Value}{k:Nat}{w:World}{base e:Nat}{A:Option Addr}{c:Nat}{l:List α}{P:Program}{ρ:Ren}(L:SlLaysF0.n6 P ρ)(aE:∀w,(isAgg (ρ.t 24)).run P w=.ok true w)(zE:∀w,(Go.sizeOf (ρ.t 24)).run P w=.ok k w)(hE:Enc enc k)(cf:α→α→Int)(hO:SWO (ltOf cf))(g:Nat)(cb:Array Value)
  (eg:∀args w,(callFunc g args).run P w=.ok (.enter g args) w) (hcmp:∀(W:World) (x y:α),Calls P g (#[.agg (enc x).toArray,.agg (enc y).toArray]++cb) W fun e w'=>e=.returned (.int .i64 (cf x y))∧Gr W w')
  (h:Own e enc k w base A c l) (hb:base≤w.heap.size) (hsz:l.length<4611686018427387904):
  Calls P (ρ.f 6) #[.slice A l.length c,.func (.func g) #[] cb] w fun en w'=>en=.returned (.tuple #[])∧∃l':List α,l'.Perm l∧l'.Pairwise (fun x y=>ltOf cf y x=false)∧Own e enc k w' base A c l'∧Below base w w'∧∀b,b<w.heap.size→(∀g,A=some ⟨g,0,none⟩→b≠g)→w'.heap[b]? =w.heap[b]? :=by
 rcases h.form with⟨rfl,rfl,rfl⟩|⟨g0,hA,hg1,hg2⟩
 ·refine(AnyF.slices_SortFunc_none L none 0 _ w).mono ?_;rintro en w' ⟨rfl,rfl⟩;exact⟨rfl,[],List.Perm.refl _,List.Pairwise.nil,h,Below.refl _ _,fun _ _ _=>rfl⟩
 ·have hcon:=AnyQ.slices_SortFunc L k aE zE enc hE.1 hE.2 cf hO g cb g0 0 c l.toArray w eg (fun _ _ _ _ x y=>hcmp _ x y) (h.holds hE hA) hg2 (by simpa using hsz);subst hA;rw[List.size_toArray]at hcon;refine hcon.mono ?_;rintro en w' ⟨rfl,d',n,os,hp,hs,rfl⟩;have hd:d'.size=l.length:=by simpa using hp.1
  obtain⟨h1,h2⟩:=h.sorted hE (g:=g0) (n:=n) (os:=os) rfl hd;refine⟨rfl,d'.toList,?_,?_,h1,h2,fun b hb hne=>sort_others (hne g0 rfl) hb⟩
  ·have:=hp.2.2
   have e1:d'.extract 0 l.length=d':=by rw[←hd,Array.extract_size]
   have e2:l.toArray.extract 0 l.length=l.toArray:=by rw[←List.size_toArray,Array.extract_size]
   rw[e1,e2]at this;exact this
  ·rw[List.pairwise_iff_getElem];intro i j hi hj hij;rw[Array.length_toList]at hi hj;have:=hs i j (Nat.zero_le _) hij (by omega)
   rw[getElem!_pos d' j hj,getElem!_pos d' i hi]at this;simpa using this
theorem sortDt_any {A:Option Addr}(c:Nat){l:List Dt}{w:World}{base:Nat}(h:Own 61 encDt 7 w base A c l)(hb:base≤w.heap.size)(hsz:l.length<4611686018427387904):
  Calls Tryz.prog 20 #[.slice A l.length c,.func (.func 21) #[] #[]] w fun e w'=>e=.returned (.tuple #[])∧∃l':List Dt,l'.Perm l∧l'.Pairwise (fun x y=>cmpDt x y≤0)∧Own 61 encDt 7 w' base A c l'∧Below base w w':=by
 have eg:∀args w,(callFunc 21 args).run Tryz.prog w=.ok (.enter 21 args) w:=enters_of Tryz.func21 (by kernel_rfl) rfl;refine(sort_own Tryz.lay_sort_f20 Tryz.isAgg61 Tryz.sizeOf61 encDt_ok cmpDt cmpDt_pre.swo 21 #[] eg (fun W x y=>raw_any x y W) h hb hsz).mono ?_;rintro e w' ⟨rfl,l',hp,hs,ho,hbl⟩;refine⟨rfl,l',hp,hs.imp fun{a b} hab=> ?_,ho,hbl⟩;unfold ltOf at hab;have:=of_decide_eq_false hab
 have h2:=cmpDt_pre.s a b;omega
theorem sortSn_any {A:Option Addr}(c:Nat){l:List Sn}{w:World}{base:Nat}(h:Own 84 encSn 11 w base A c l)(hb:base≤w.heap.size)(hsz:l.length<4611686018427387904):
  Calls Tryz.prog 24 #[.slice A l.length c,.func (.func 25) #[] #[]] w fun e w'=>e=.returned (.tuple #[])∧∃l':List Sn,l'.Perm l∧l'.Pairwise (fun x y=>cmpSn x y≤0)∧Own 84 encSn 11 w' base A c l'∧Below base w w'∧∀b,b<w.heap.size→(∀g,A=some ⟨g,0,none⟩→b≠g)→w'.heap[b]? =w.heap[b]? :=by
 have eg:∀args w,(callFunc 25 args).run Tryz.prog w=.ok (.enter 25 args) w:=enters_of Tryz.func25 (by kernel_rfl) rfl;refine(sort_own2 Tryz.lay_sort_f24 Tryz.isAgg84 Tryz.sizeOf84 encSn_ok cmpSn cmpSn_pre.swo 25 #[] eg (fun W x y=>comp_any x y W) h hb hsz).mono ?_;rintro e w' ⟨rfl,l',hp,hs,ho,hbl,hot⟩;refine⟨rfl,l',hp,hs.imp fun{a b} hab=> ?_,ho,hbl,hot⟩;unfold ltOf at hab;have:=of_decide_eq_false hab
 have h2:=cmpSn_pre.s a b;omega
theorem Own.hold {e:Nat}{w:World}{base g c:Nat}{l:List Dt}(h:Own e encDt 7 w base (some ⟨g,0,none⟩) c l):HoldD w g l.toArray:=by
 intro i hi j u hu;have hi2:i<l.length:=by simpa using hi
 have hx:l[i]? =some (l.toArray[i]!):=by rw[arr_get! l i hi2,List.getElem?_eq_getElem hi2]
 exact⟨h.cells encDt_ok rfl hx hu,h.frozen rfl _⟩
end
section
open Go.RowKit Go.Lib
def SameTo (a b:ByteArray)(k:Nat):Prop:=a.toList.take k=b.toList.take k
theorem toList_at (a:ByteArray){k:Nat}(h:k<a.size):a.toList[k]? =some (a[k]'h):=by
 rw[ByteArray.toList_eq];have:k<a.data.toList.length:=h
 rw[List.getElem?_eq_getElem this];rfl
theorem SameTo.snoc {a b:ByteArray}{k:Nat}(h:SameTo a b k)(ha:k<a.size)(hb:k<b.size)(e:(a[k]'ha).toNat=(b[k]'hb).toNat):SameTo a b (k+1):=by
 unfold SameTo at*;rw[take_snoc (toList_at a ha),take_snoc (toList_at b hb),h,UInt8.toNat_inj.1 e]
end
section
open Go.RowKit Go.Lib
def SzD (d:Dt):Prop:=d.dev.size≤100∧d.tag.size≤100∧d.pl.size≤100
def SzS (s:Sn):Prop:=SzD s.d∧s.pt.size≤100
end
section
open Go.RowKit Go.Lib
theorem lv_even {i c:Nat}(h:i%2=0):lv i c=if 9<2*((c:Int)-48)then 2*((c:Int)-48)-9 else 2*((c:Int)-48):=by unfold lv;rw[if_pos h]
theorem lv_odd {i c:Nat}(h:i%2=1):lv i c=(c:Int)-48:=by unfold lv;rw[if_neg (by omega)]
theorem lsum_succ {s:ByteArray}{k:Nat}(h:k<s.size):lsum s (k+1)=lsum s k+lv k (s[k]'h).toNat:=by
 show lsum s k+lv k (s.get! k).toNat=_
 rw[get_at2 s k h]
theorem luhn_any (s:ByteArray)(hd:allDig s=true)(hs:s.size≤100)(w:World):
  Calls Tryz.prog 117 #[.string s] w fun e w'=>e=.returned (.int .i64 (lsum s s.size))∧Below w.heap.size w w':=by
 have HD:=hid ((allDig_iff s).1 hd);have HB:=hid (fun k h=>lsum_bounds hd k h);clear hd;go_enter Tryz.func117,Tryz.ntmps117;go_wp2;go_loopw [3] (fun v wr=>∃pos,pos≤s.size∧v=.int .i64 (lsum s pos)∧wr=w.iter s pos) (fun _ wr=>s.size-wr.iterPos w.heap.size)
 case atStart=>exact⟨0,Nat.zero_le _,rfl,rfl⟩
 case round=>
  obtain⟨pos,hpl,rfl,rfl⟩:=hrel;by_cases hp:pos<s.size
  ·have hdg:=HD.out pos hp hp;have HL:=hid (lsum_succ hp);have hb:=HB.out pos hpl;obtain⟨c,hc⟩:∃c:Nat,(s[pos]'hp).toNat=c:=⟨_,rfl⟩;rw[hc]at hdg HL;have hyes:=digB_yes hdg;obtain⟨h1,h2⟩:=hyes;have hnx:∀ty,(Instr.next (.pointer (some ⟨w.heap.size,0,none⟩)) true ty).run Tryz.prog (w.iter s pos)=.ok (.tuple #[.bool true,.int .i64 pos,.int .i32 c]) (w.iter s (pos+1)):=by
    intro ty;rw[←hc];exact run_next_ascii w s pos ty hp (by omega)
   generalize hv:lsum s pos=v at*;obtain⟨h3,h4⟩:=hb;clear hv hdg hc;have hpar:pos%2=0∨pos%2=1:=by omega
   rcases hpar with hpar|hpar
   ·have e1:((pos:Int).tmod 2)=0:=by rw[Int.tmod_eq_emod_of_nonneg (by omega)];omega
    have HV:=hid (lv_even (c:=c) hpar);clear hpar;by_cases h9:9<2*((c:Int)-48)
    ·have HV:=hid (HV.out.trans (if_pos h9));have h9b:9<((c:Int)-48)*2:=by omega
     clear h9;go_wp2;go_roundw
     case rel=>exact⟨pos+1,by omega,by rw[HL.out,HV.out];first|done|go_num,rfl⟩
     case measure=>simp[World.iterPos_iter];omega
    ·have HV:=hid (HV.out.trans (if_neg h9));have h9b:¬9<((c:Int)-48)*2:=by omega
     clear h9;go_wp2;go_roundw
     case rel=>exact⟨pos+1,by omega,by rw[HL.out,HV.out];first|done|go_num,rfl⟩
     case measure=>simp[World.iterPos_iter];omega
   ·have e1:((pos:Int).tmod 2)=1:=by rw[Int.tmod_eq_emod_of_nonneg (by omega)];omega
    have HV:=hid (lv_odd (c:=c) hpar);clear hpar;go_wp2;go_roundw
    case rel=>exact⟨pos+1,by omega,by rw[HL.out,HV.out];first|done|go_num,rfl⟩
    case measure=>simp[World.iterPos_iter];omega
  ·obtain rfl:pos=s.size:=by omega
   have hnx:∀ty,(Instr.next (.pointer (some ⟨w.heap.size,0,none⟩)) true ty).run Tryz.prog (w.iter s s.size)=_:=fun ty=>run_next_end w s s.size ty hp;go_wp2;go_ret;exact⟨rfl,below_iter2 w s _⟩
theorem tagcheck_any (s:ByteArray)(w:World):
  Calls Tryz.prog 80 #[.string s] w fun e w'=>e=.returned (.int .i64 (if tagB s=true then 0 else 18))∧Below w.heap.size w w':=by
 have CD:=hid (fun(X:World)=>digits_any s X);cases hq:(decide (s.size=12)&&allDig s)
 ·have R:tagB s=false:=by unfold tagB;rw[hq];rfl
  rw[hq]at CD;rw[R];clear R hq;go_enter Tryz.func80,Tryz.ntmps80;go_wp2_with fail
  refine(CD.out _).mono ?_;rintro e wn ⟨rfl,hbn⟩;go_wp2_with fail
  go_ret;exact⟨rfl,hbn⟩
 ·rw[Bool.and_eq_true,decide_eq_true_eq]at hq;rw[decide_eq_true hq.1,hq.2]at CD;have CL:=hid (fun(X:World)=>luhn_any s hq.2 (by omega) X);have hb:=lsum_bounds hq.2 12 (by omega);have R:tagB s=decide (lsum s 12%10=0):=by unfold tagB;rw[hq.2,decide_eq_true hq.1];rfl
  rw[hq.1]at CL;rw[R];generalize lsum s 12=v at*;obtain⟨h1,h2⟩:=hb;have e0:v.tmod 10=v%10:=Int.tmod_eq_emod_of_nonneg h1;clear R hq;by_cases h0:v%10=0
  ·have e1:(v%10 !=0)=false:=by simp[h0]
   rw[decide_eq_true h0];clear h0 e0;go_enter Tryz.func80,Tryz.ntmps80;go_wp2_with fail
   refine(CD.out _).mono ?_;rintro e wn ⟨rfl,hbn⟩;go_wp2_with fail
   refine(CL.out _).mono ?_;rintro e wm ⟨rfl,hbm⟩;have hbn:=hbn.st hbm;go_wp2_with fail
   go_ret;exact⟨rfl,hbn⟩
  ·have e1:(v%10 !=0)=true:=by simp[h0]
   rw[decide_eq_false h0];clear h0 e0;go_enter Tryz.func80,Tryz.ntmps80;go_wp2_with fail
   refine(CD.out _).mono ?_;rintro e wn ⟨rfl,hbn⟩;go_wp2_with fail
   refine(CL.out _).mono ?_;rintro e wm ⟨rfl,hbm⟩;have hbn:=hbn.st hbm;go_wp2_with fail
   go_ret;exact⟨rfl,hbn⟩
end
section
open Go.RowKit Go.Lib
theorem rsum_any (s:ByteArray)(hs:s.size≤100)(w:World):
  Calls Tryz.prog 64 #[.string s] w fun e w'=>e=.returned (.int .i64 (if allDig s=true then lsum s s.size else-1))∧w'=w:=by
 generalize hr:(if allDig s=true then lsum s s.size else-1)=r;have HR:=hid hr;clear hr;have HB:=hid (fun h k q=>lsum_bounds (s:=s) h k q);go_enter Tryz.func64,Tryz.ntmps64;go_wp2;go_loopw [3,4] (fun v i wr=>∃k:Nat,k≤s.size∧i=.int .i64 k∧(∃x:Int,v=.int .i64 x∧Hid (lsum s k=x)∧0≤x∧x≤9*(k:Int))∧Hid (digTo s k)∧wr=w) (fun _ i _=>s.size-(RowKit.intOf i).toNat)
 case atStart=>exact⟨0,Nat.zero_le _,rfl,⟨0,rfl,rfl,by omega,by omega⟩,(fun i _ h=>absurd h (Nat.not_lt_zero _)),rfl⟩
 case round=>
  obtain⟨k,hk,rfl,⟨v,rfl,HV0,h3,h4⟩,HN,rfl⟩:=hrel;by_cases hp:k<s.size
  ·have HL:=hid (lsum_succ hp);have HDS:=hid (fun q=>digTo_succ HN.out hp q);have HNO:=hid (fun q=>allDig_no hp q);obtain⟨c,hc⟩:∃c:Nat,(s[k]'hp).toNat=c:=⟨_,rfl⟩;rw[hc]at HL HDS HNO;have i1:(0:Int)≤(k:Int):=by omega
   have i2:(k:Int)<(s.size:Int):=by omega
   have HLK:=hid hp;cases ho:digB c
   ·have R:=hid (show r= -1 by rw[←HR.out,if_neg (by rw[HNO.out ho];simp)]);have hno:=digB_no ho;clear ho;rcases hno with h1|⟨h1,h2⟩
    all_goals(go_wp2;all_goals first|(go_ret;rw[R.out];exact⟨rfl,rfl⟩)|(exfalso;rename_i hx;simp at hx;omega))
   ·have HN2:=hid (HDS.out ho);have hyes:=digB_yes ho;obtain⟨h1,h2⟩:=hyes;have hlv:=lv_bounds (i:=k) ho;have HLV:=hid hlv;clear ho hlv;have hpar:k%2=0∨k%2=1:=by omega
    rcases hpar with hpar|hpar
    ·have e1:((k:Int).tmod 2)=0:=by rw[Int.tmod_eq_emod_of_nonneg (by omega)];omega
     have HV:=hid (lv_even (c:=c) hpar);clear hpar;by_cases h9:9<2*((c:Int)-48)
     ·have HV:=hid (HV.out.trans (if_pos h9));go_wp2;go_roundw
      case rel=>exact⟨k+1,HLK.out,by go_num,⟨v+(2*((c:Int)-48)-9),by go_num,by unfold Hid;rw[HL.out,HV0.out,HV.out],by omega,by omega⟩,HN2,trivial⟩
      case measure=>have:=HLK.out;simp[RowKit.intOf];omega
     ·have HV:=hid (HV.out.trans (if_neg h9));go_wp2;go_roundw
      case rel=>exact⟨k+1,HLK.out,by go_num,⟨v+2*((c:Int)-48),by go_num,by unfold Hid;rw[HL.out,HV0.out,HV.out],by omega,by omega⟩,HN2,trivial⟩
      case measure=>have:=HLK.out;simp[RowKit.intOf];omega
    ·have e1:((k:Int).tmod 2)=1:=by rw[Int.tmod_eq_emod_of_nonneg (by omega)];omega
     have HV:=hid (lv_odd (c:=c) hpar);have h9:¬9<(c:Int)-48:=by omega
     clear hpar;go_wp2;go_roundw
     case rel=>exact⟨k+1,HLK.out,by go_num,⟨v+((c:Int)-48),by go_num,by unfold Hid;rw[HL.out,HV0.out,HV.out],by omega,by omega⟩,HN2,trivial⟩
     case measure=>have:=HLK.out;simp[RowKit.intOf];omega
  ·obtain rfl:k=s.size:=by omega
   have R:=hid (show r=v by rw[←HR.out,if_pos ((allDig_iff s).2 HN.out),HV0.out]);go_wp2;go_ret;rw[R.out];exact⟨rfl,rfl⟩
theorem rtagcheck_any (s:ByteArray)(w:World):
  Calls Tryz.prog 35 #[.string s] w fun e w'=>e=.returned (.int .i64 (if tagB s=true then 0 else 18))∧w'=w:=by
 by_cases hs:s.size=12
 ·have CS:=hid (fun(X:World)=>rsum_any s (by omega) X);cases hd:allDig s
  ·have R:tagB s=false:=by unfold tagB;rw[hd];simp
   rw[hd]at CS;rw[R];clear R hd;go_enter Tryz.func35,Tryz.ntmps35;go_wp2_with fail
   refine(CS.out _).mono ?_;rintro e wn ⟨rfl,rfl⟩;go_wp2_with fail
   go_ret;exact⟨rfl,rfl⟩
  ·have hb:=lsum_bounds hd 12 (by omega);have R:tagB s=decide (lsum s 12%10=0):=by unfold tagB;rw[hd,decide_eq_true hs];rfl
   rw[hd,if_pos rfl,hs]at CS;rw[R];generalize lsum s 12=v at*;obtain⟨h1,h2⟩:=hb;have h3:¬v<0:=by omega
   have e0:v.tmod 10=v%10:=Int.tmod_eq_emod_of_nonneg h1;clear R hd;by_cases h0:v%10=0
   ·have e1:(v%10 !=0)=false:=by simp[h0]
    rw[decide_eq_true h0];clear h0 e0;go_enter Tryz.func35,Tryz.ntmps35;go_wp2_with fail
    refine(CS.out _).mono ?_;rintro e wn ⟨rfl,rfl⟩;go_wp2_with fail
    go_ret;exact⟨rfl,rfl⟩
   ·have e1:(v%10 !=0)=true:=by simp[h0]
    rw[decide_eq_false h0];clear h0 e0;go_enter Tryz.func35,Tryz.ntmps35;go_wp2_with fail
    refine(CS.out _).mono ?_;rintro e wn ⟨rfl,rfl⟩;go_wp2_with fail
    go_ret;exact⟨rfl,rfl⟩
 ·have R:tagB s=false:=by unfold tagB;rw[decide_eq_false hs];rfl
  have e1:((s.size:Int) !=12)=true:=by simp;omega
  rw[R];clear R hs;go_enter Tryz.func35,Tryz.ntmps35;go_wp2_with fail
  go_ret;exact⟨rfl,rfl⟩
end
section
open Go.RowKit Go.Lib
def encB (b:UInt8):List Value:=[.int .u8 (b.toNat:Int)]
theorem encB_ok:Enc encB 1:=⟨fun _=>rfl,fun x u hu=>by simp[encB]at hu;subst hu;rfl⟩
theorem tyB:TyS Tryz.prog 212 5 1 1:=TyS.mk' (z:=.int .u8 0) Tryz.underlying212 (by kernel_rfl) rfl (by omega)
def upB (b:UInt8):UInt8:=if 97≤b.toNat∧b.toNat≤122 then b-32 else b
def skipB (b:UInt8):Bool:=decide (b.toNat=32)||decide (b.toNat=45)
def alB (b:UInt8):Bool:=(decide (65≤b.toNat)&&decide (b.toNat≤90))||(decide (48≤b.toNat)&&decide (b.toNat≤57))
def okPl (b:UInt8):Bool:=skipB b||alB (upB b)
def plAll (s:ByteArray)(k:Nat):Prop:=∀i (h:i<s.size),i<k→okPl (s[i]'h)=true
def plOut (s:ByteArray):Nat→List UInt8
 |0=>[]
 |k+1=>plOut s k++(if skipB (s.get! k)=true then[]else[upB (s.get! k)])
def plAllB (s:ByteArray):Bool:=(List.range s.size).all fun i=>okPl (s.get! i)
def plB (s:ByteArray):Bool:=plAllB s&&decide (2≤(plOut s s.size).length)&&decide ((plOut s s.size).length≤10)
def plS (s:ByteArray):ByteArray:=if plB s=true then⟨(plOut s s.size).toArray⟩else⟨#[]⟩
def plE (s:ByteArray):Int:=if plB s=true then 0 else 19
theorem plAllB_iff (s:ByteArray):plAllB s=true↔plAll s s.size:=by
 unfold plAllB plAll;simp only[List.all_eq_true,List.mem_range];constructor
 ·intro h i hi _;rw[←get_at2 s i hi];exact h i hi
 ·intro h i hi;rw[get_at2 s i hi];exact h i hi hi
theorem plB_bad {s:ByteArray}{k:Nat}(hk:k<s.size)(h:okPl (s[k]'hk)=false):plB s=false:=by
 have:plAllB s=false:=by
  cases hb:plAllB s
  ·rfl
  ·have:=(plAllB_iff s).1 hb k hk hk
   rw[h]at this;cases this
 unfold plB;rw[this];rfl
theorem plAll_succ {s:ByteArray}{k:Nat}(h:plAll s k)(hk:k<s.size)(ho:okPl (s[k]'hk)=true):plAll s (k+1):=by
 intro i hi hik;rcases(by omega:i<k∨i=k)with e|rfl
 ·exact h i hi e
 ·exact ho
theorem plOut_skip {s:ByteArray}{k:Nat}(hk:k<s.size)(h:skipB (s[k]'hk)=true):plOut s (k+1)=plOut s k:=by
 show plOut s k++_=_
 rw[get_at2 s k hk,if_pos h,List.append_nil]
theorem plOut_add {s:ByteArray}{k:Nat}(hk:k<s.size)(h:skipB (s[k]'hk)=false):plOut s (k+1)=plOut s k++[upB (s[k]'hk)]:=by
 show plOut s k++_=_
 rw[get_at2 s k hk,if_neg (by rw[h];simp)]
theorem plOut_mono (s:ByteArray){k:Nat}:∀{n:Nat},k≤n→(plOut s k).length≤(plOut s n).length
 |0,h
        =>by
        obtain rfl:k=0:=by omega
        exact Nat.le_refl _
 |n+1,h=>by
  by_cases e:k=n+1
  ·subst e;exact Nat.le_refl _
  ·refine Nat.le_trans (plOut_mono s (n:=n) (by omega)) ?_;show _≤(plOut s n++_).length
   rw[List.length_append];omega
theorem plB_long {s:ByteArray}{k:Nat}(hk:k≤s.size)(h:10<(plOut s k).length):plB s=false:=by
 have:=plOut_mono s hk
 unfold plB;rw[decide_eq_false (by omega:¬(plOut s s.size).length≤10),Bool.and_false]
theorem plB_end {s:ByteArray}(h:plAll s s.size):plB s=(decide (2≤(plOut s s.size).length)&&decide ((plOut s s.size).length≤10)):=by
 unfold plB;rw[(plAllB_iff s).2 h,Bool.true_and]
theorem pl_ways (b:UInt8):(∃x:UInt8,97≤(b.toNat:Int)∧(b.toNat:Int)≤122∧upB b=x∧(x.toNat:Int)=(b.toNat:Int)-32∧skipB b=false∧okPl b=true)∨
  ((b.toNat:Int)=32∧skipB b=true∧okPl b=true)∨((b.toNat:Int)=45∧skipB b=true∧okPl b=true)∨
  (65≤(b.toNat:Int)∧(b.toNat:Int)≤90∧upB b=b∧skipB b=false∧okPl b=true)∨(48≤(b.toNat:Int)∧(b.toNat:Int)≤57∧upB b=b∧skipB b=false∧okPl b=true)∨
  (okPl b=false∧(b.toNat:Int)≠32∧(b.toNat:Int)≠45∧¬(65≤(b.toNat:Int)∧(b.toNat:Int)≤90)∧¬(48≤(b.toNat:Int)∧(b.toNat:Int)≤57)∧¬(97≤(b.toNat:Int)∧(b.toNat:Int)≤122)):=by
 by_cases h1:97≤b.toNat∧b.toNat≤122
 ·have e:(b-32).toNat=b.toNat-32:=by
   rw[UInt8.toNat_sub];have:(32:UInt8).toNat=32:=rfl
   omega
  have hs:skipB b=false:=by unfold skipB;simp;omega
  refine Or.inl ⟨b-32,by omega,by omega,by unfold upB;rw[if_pos h1],by omega,hs,?_⟩;unfold okPl;rw[hs];unfold upB alB;rw[if_pos h1,e];simp;omega
 ·have hu:upB b=b:=by unfold upB;rw[if_neg h1]
  by_cases h2:b.toNat=32
  ·have hs:skipB b=true:=by unfold skipB;simp[h2]
   exact Or.inr (Or.inl ⟨by omega,hs,by unfold okPl;rw[hs];rfl⟩)
  ·by_cases h3:b.toNat=45
   ·have hs:skipB b=true:=by unfold skipB;simp[h3]
    exact Or.inr (Or.inr (Or.inl ⟨by omega,hs,by unfold okPl;rw[hs];rfl⟩))
   ·have hs:skipB b=false:=by unfold skipB;simp[h2,h3]
    by_cases h4:65≤b.toNat∧b.toNat≤90
    ·exact Or.inr (Or.inr (Or.inr (Or.inl ⟨by omega,by omega,hu,hs,by unfold okPl;rw[hs,hu];unfold alB;simp;omega⟩)))
    ·by_cases h5:48≤b.toNat∧b.toNat≤57
     ·exact Or.inr (Or.inr (Or.inr (Or.inr (Or.inl ⟨by omega,by omega,hu,hs,by unfold okPl;rw[hs,hu];unfold alB;simp;omega⟩))))
     ·refine Or.inr (Or.inr (Or.inr (Or.inr (Or.inr ⟨?_,by omega,by omega,by omega,by omega,by omega⟩))));unfold okPl;rw[hs,hu];unfold alB;simp;omega
end
end Go.Proofs.YtimffppffbideaaGreatDoor
