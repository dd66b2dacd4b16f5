import Derived.Test.YtimffppffbideaaGreatDoorJDetMap
import Derived.Test.YtimffppffbideaaGreatDoorShelf
import Derived.Deep.RegionHeld3
import Derived.Deep.DrawnRows
set_option linter.unusedSimpArgs false
set_option linter.unusedVariables false
set_option maxRecDepth 100000
set_option maxHeartbeats 8000000
namespace Go.Proofs.YtimffppffbideaaGreatDoor
section
open Go.RowKit Go.Lib
theorem cmpS_if (a b:ByteArray):cmpS a b=if sltB a b=true then-1 else if sltB b a=true then 1 else 0:=by
 have h1:=cb_lt a.data.toList b.data.toList;have h2:=cb_gt a.data.toList b.data.toList;have r:=cb_r a.data.toList b.data.toList;unfold cmpS sltB;simp only[ByteArray.toList_eq,decide_eq_true_eq,←h1,←h2];generalize Lib.compareBytes a.data.toList b.data.toList=x at*;rcases r with rfl|rfl|rfl<;>simp
theorem nanS_any (a:ByteArray)(W:World):Calls Tryz.prog 75 #[.string a] W fun e w'=>e=.returned (.bool false)∧w'=W:=by
 go_enter Tryz.func75,Tryz.ntmps75;go_wp2;go_ret;exact⟨ret_bool (by simp),rfl⟩
theorem cmpStr_any (a b:ByteArray)(W:World):Calls Tryz.prog 41 #[.string a,.string b] W fun e w'=>e=.returned (.int .i64 (cmpS a b))∧w'=W:=by
 rw[cmpS_if];have HN:=hid (fun(a:ByteArray) (X:World)=>nanS_any a X);cases h1:sltB a b
 ·cases h2:sltB b a
  ·obtain rfl:a=b:=sltB_total h1 h2;have k1:=(less_slt a a).trans h1;have k3:(a.toList==a.toList)=true:=by simp
   clear h1 h2;go_enter Tryz.func41,Tryz.ntmps41;go_wp2_with(go_at_call 75;refine(HN.out _ _).mono ?_;rintro e w' ⟨rfl,rfl⟩)
   all_goals(go_ret;exact⟨by first|rfl|simp,rfl⟩)
  ·have k1:=(less_slt a b).trans h1;have k2:=(less_slt b a).trans h2;have k3:(a.toList==b.toList)=false:=by
    cases q:(a.toList==b.toList)
    ·rfl
    ·have e:=(eqS_iff a b).1 q;subst e;rw[h1]at h2;cases h2
   clear h1 h2;go_enter Tryz.func41,Tryz.ntmps41;go_wp2_with(go_at_call 75;refine(HN.out _ _).mono ?_;rintro e w' ⟨rfl,rfl⟩)
   all_goals(go_ret;exact⟨by first|rfl|simp,rfl⟩)
 ·have k1:=(less_slt a b).trans h1;clear h1;go_enter Tryz.func41,Tryz.ntmps41;go_wp2_with(go_at_call 75;refine(HN.out _ _).mono ?_;rintro e w' ⟨rfl,rfl⟩)
  all_goals(go_ret;exact⟨by first|rfl|simp,rfl⟩)
theorem cmpInt_any (a b:Int)(W:World):Calls Tryz.prog 42 #[.int .i64 a,.int .i64 b] W fun e w'=>e=.returned (.int .i64 (cmpI a b))∧w'=W:=
 AnyG.cmp_Compare_int Tryz.lay_cmpint_f42 a b W
theorem firstI_drop {l:List Int}{k:Nat}{x:Int}(h:l[k]? =some x):firstI (l.drop k)=if x≠0 then x else firstI (l.drop (k+1)):=by
 obtain⟨hk,rfl⟩:=List.getElem?_eq_some_iff.1 h;rw[List.drop_eq_getElem_cons hk];rfl
theorem or_any {A:Option Addr}(c:Nat){l:List Int}{w:World}(h:Rd encI 1 w w.heap.size A l)(hl:l.length≤1000):
  Calls Tryz.prog 40 #[.slice A l.length c] w fun e w'=>e=.returned (.int .i64 (firstI l))∧w'=w:=by
 have HH:=hid h;clear h;go_enter Tryz.func40,Tryz.ntmps40;go_wp2_with fail
 go_loopw [8] (fun i wr=>∃k:Nat,k≤l.length∧i=.int .i64 k∧Hid (firstI (l.drop k)=firstI l)∧wr=w) (fun i _=>l.length-(RowKit.intOf i).toNat)
 case atStart=>exact⟨0,Nat.zero_le _,rfl,rfl,rfl⟩
 case round=>
  obtain⟨k,hk,rfl,HQ,rfl⟩:=hrel;by_cases hi:k<l.length
  ·obtain⟨b,off,x,hA,hg,hx,hc⟩:=HH.out.at_ hi;have d0:=hc 0 _ rfl;have HD:=hid (firstI_drop hx);have HL:=hid hi;have hi1:(0:Int)≤(k:Int):=by omega
   have hi2:(k:Int)<(l.length:Int):=by omega
   subst hA;simp only[Nat.mul_one,Nat.add_zero]at d0;clear hc hx;by_cases hx0:x=0
   ·have HN:=hid (show firstI (l.drop (k+1))=firstI l by rw[←HQ.out,HD.out,if_neg (by simp[hx0])]);have hx1:(x !=0)=false:=by simp[hx0]
    clear hx0;go_wp2;go_roundw
    case rel=>exact⟨k+1,HL.out,by go_num,HN,trivial⟩
    case measure=>have:=HL.out;simp[RowKit.intOf];omega
   ·have HN:Hid (firstI l=x):=hid (show firstI l=x by rw[←HQ.out,HD.out,if_pos hx0]);have hx1:(x !=0)=true:=by simp[hx0]
    clear hx0 HQ HD;go_wp2;go_ret;exact⟨by rw[HN.out];rfl,rfl⟩
  ·obtain rfl:k=l.length:=by omega
   have HN:Hid (firstI l=0):=hid (by rw[←HQ.out,List.drop_length];rfl);clear HQ hi hk;go_wp2;go_ret;exact⟨by rw[HN.out];rfl,rfl⟩
end
section
open Go.RowKit Go.Lib
def isStr (P:Program)(ty:TypeId)(n:Nat):Prop:=∃fs,P.underlying ty=some (.struct fs)∧(P.info? ty).map (·.size)=some n
theorem _root_.Go.RowKit.Below.setRow {B:Nat}{w w':World}(h:Below B w w'){g:Nat}(hg:B≤g)(cs:Array Value):Below B w (w'.setRow g cs):=
 ⟨h.os,h.tape,h.output,by simpa using h.size,fun k hk=>(setRow_other w' g k cs (by omega)).trans (h.block k hk)⟩
theorem Blk.setRow {W:World}{B:Nat}{old cs:Array Value}{t:TypeId}(h:Blk W B old t):Blk (W.setRow B cs) B cs t:=setRow_heap W B old cs t (0,0) h
theorem Blk.oth {W W':World}{B g:Nat}{cs:Array Value}{t:TypeId}(h:Blk W B cs t)(ho:∀k,k≠g→W'.heap[k]? =W.heap[k]?)(hne:B≠g):Blk W' B cs t:=(ho B hne).trans h
theorem Rd.lit {α:Type}{enc:α→List Value}{k e:Nat}(w:World){cs:Array Value}(l:List α)(hE:Enc enc k)(hcs:cs.toList=l.flatMap enc)(hl:l.length≤1000):
  Rd enc k (w.alloc (.cells cs e)) (w.alloc (.cells cs e)).heap.size (some ⟨w.heap.size,0,none⟩) l:=
 (Own.lit (e:=e) w 0 l hE hcs rfl (Nat.zero_le _) (by omega)).rd hE
section
variable {P:Program}
theorem results_box {fn:Func}{p:Tmp}{ty:TypeId}(h:fn.results=#[.cell p ty])(tmps:Array Value){w:World}{g:Nat}{t:TypeId}{cs:Array Value}
  (hp:tmps.getD p undef=.pointer (some ⟨g,0,none⟩)) (hg:Blk w g cs t) (hs:isStr P ty cs.size):(results fn tmps).run P w=.ok (.agg cs) w:=by
 obtain⟨fs,hu,hi⟩:=hs;exact results_cell_row h tmps w g t cs (0,0) _ hp hg hu rfl hi
theorem results_box_tmp {fn:Func}{p u:Tmp}{ty:TypeId}(h:fn.results=#[.cell p ty,.tmp u])(tmps:Array Value){w:World}{g:Nat}{t:TypeId}{cs:Array Value}(v:Value)
  (hp:tmps.getD p undef=.pointer (some ⟨g,0,none⟩)) (hv:tmps.getD u undef=v) (hg:Blk w g cs t) (hs:isStr P ty cs.size):(results fn tmps).run P w=.ok (.tuple #[.agg cs,v]) w:=by
 obtain⟨fs,hu,hi⟩:=hs;have hp':tmps[p]?.getD undef=.pointer (some ⟨g,0,none⟩):=by simpa using hp
 have hv':tmps[u]?.getD undef=v:=by simpa using hv
 have hg':w.heap[g]? =some (.cells cs t (0,0)):=hg;rw[results_cell_tmp h];simp[hp',hv',asAddr,Result.andThen,run_loadVar_row w g t ty cs (0,0) _ hg' hu rfl hi]
variable {ops:Array Oper}{rest:List Oper}{o:Oper}{a:Act}{w:World}{Q:Exit→Act→World→Prop}
theorem wpList_boxLoad (hgd:o.guard=none){ty:TypeId}{x:Operand}(ho:o.op=.load ty x){g:Nat}{cs:Array Value}{t:TypeId}(hb:Blk w g cs t)
  (hx:a.eval x=.pointer (some ⟨g,0,none⟩)) (hs:isStr P ty cs.size) (h:wpList P ops Q rest (a.put o.dst (.agg cs)) w):wpList P ops Q (o::rest) a w:=by
 obtain⟨fs,hu,hi⟩:=hs;exact wpList_load_row hgd ty x ho g hx t cs (0,0) _ hb hu rfl hi h
theorem yieldsIf_boxLoad {S:World→Prop}{o:Oper}{a:Act}(hw:Region.wanted o (yielded ops a.tmps)=true){ty:TypeId}{x:Operand}(ho:o.op=.load ty x){g:Nat}{cs:Array Value}{t:TypeId}
  (hx:a.eval x=.pointer (some ⟨g,0,none⟩)) (hS:∀w,S w→Blk w g cs t) (hs:isStr P ty cs.size):YieldsIf P ops S o (.agg cs) a:=by
 obtain⟨fs,hu,hi⟩:=hs;exact .inl ⟨hw,fun w hw'=>by
  have hb:w.heap[g]? =some (.cells cs t (0,0)):=hS w hw';unfold execOp;simp only[ho,hx,Instr.loadAt,Instr.sureAddr,Sem.run_bind,Sem.run_pure,Result.andThen_ok,run_loadVar_row w g t ty cs (0,0) _ hb hu rfl hi]⟩
theorem wpList_boxStore (hgd:o.guard=none){ty:TypeId}{x y:Operand}(ho:o.op=.store ty x y){g:Nat}{old cells:Array Value}{t:TypeId}(hb:Blk w g old t)
  (hx:a.eval x=.pointer (some ⟨g,0,none⟩)) (hy:a.eval y=.agg cells) (hi:(P.info? ty).map (·.size)=some cells.size) (hold:old.size=cells.size) (h1:cells.all (·.oneCell')=true)
  (h:∀w',Blk w' g cells t→(∀k,k≠g→w'.heap[k]? =w.heap[k]?)→(∀B w0,B≤g→Below B w0 w→Below B w0 w')→wpList P ops Q rest (a.put o.dst undef) w'):wpList P ops Q (o::rest) a w:=
 wpList_store_row hgd ty x y ho g cells hx hy t old hb hi hold h1 (h (w.setRow g cells) hb.setRow (fun k hk=>setRow_other w g k cells hk) fun B w0 hB hw=>hw.setRow hB cells)
theorem wp_boxStore {K:Act→World→Prop}{ty:TypeId}{x y:Operand}(ho:o.op=.store ty x y){g:Nat}{old cells:Array Value}{t:TypeId}(hb:Blk w g old t)
  (hx:a.eval x=.pointer (some ⟨g,0,none⟩)) (hy:a.eval y=.agg cells) (hi:(P.info? ty).map (·.size)=some cells.size) (hold:old.size=cells.size) (h1:cells.all (·.oneCell')=true)
  (h:∀w',Blk w' g cells t→(∀k,k≠g→w'.heap[k]? =w.heap[k]?)→(∀B w0,B≤g→Below B w0 w→Below B w0 w')→K (a.put o.dst undef) w'):o.wp P a w K Q:=
 wp_store_row ty x y ho g cells hx hy t old hb hi hold h1 (h (w.setRow g cells) hb.setRow (fun k hk=>setRow_other w g k cells hk) fun B w0 hB hw=>hw.setRow hB cells)
theorem wpList_boxBuild (hgd:o.guard=none){t:TypeId}{parts:Array (Nat×Operand)}(ho:o.op=.build t parts)
  {cells:Array Value} (hf:P.built t (parts.map fun(i,x)=>(i,a.eval x)).toList=some cells) (h:wpList P ops Q rest (a.put o.dst (.agg cells)) w):wpList P ops Q (o::rest) a w:=
 wpList_plain hgd fun K hK=>wp_build t parts ho (by rw[hf];rfl) (by rw[hf];exact hK _ _ h)
end
end
section
open Go.RowKit Go.Lib
variable {P:Program}{ops:Array Oper}{Q:Exit→Act→World→Prop}{md:Region.Mode}{S:World→Prop}
theorem tk (i:Nat){oi:Oper}{v:Value}{fuel:Nat}{ls ls':Array Bool}{a a':Act}{w:World}
  (hi:ops[i]? =some oi:=by simp only[List.getElem?_toArray,List.getElem?_cons_zero,List.getElem?_cons_succ];rfl)
  (hs:Region.noSelect ops=true:=by kernel_rfl) (hf:Region.free md ops ls i=true:=by kernel_rfl) (hr:(Region.ready md ops ls).contains i=true:=by kernel_rfl)
  (hQ:∀c a w,Q (.panic c) (a.put oi.dst v) w→Q (.panic c) a w:=by intro _ _ _ h;exact h)
  (h1:Region.wanted oi (yielded ops a.tmps)=true:=by rfl) (hS:S w:=by assumption)
  (h2:∀w,S w→(execOp a.eval oi).run P w=.ok (.value v) w:=by intro w1 hSw;(try dsimp only at hSw);go_simp;(try with_reducible rfl))
  (hl:ls.setIfInBounds i true=ls':=by(try simp only[List.setIfInBounds_toArray,List.set_cons_zero,List.set_cons_succ]);(try rfl))
  (ha:a.put oi.dst v=a':=by(try simp only[Act.put,List.setIfInBounds_toArray,List.set_cons_zero,List.set_cons_succ,List.getElem_toArray,List.getElem_cons_zero,List.getElem_cons_succ]);(try rfl))
  (h:wpAnyH P md ops Q S fuel ls' a' w):wpAnyH P md ops Q S (fuel+1) ls a w:=by
 subst hl ha;exact wpAnyH_take hi hs hf hr hQ (Or.inl ⟨h1,h2⟩) hS h
theorem td {p q:Prop}(e:p=q:=by(try simp only[Act.put,List.setIfInBounds_toArray,List.set_cons_zero,List.set_cons_succ,List.getElem_toArray,List.getElem_cons_zero,List.getElem_cons_succ]);(try rfl))(h:q):p:=e▸h
theorem tk0 (i:Nat){oi:Oper}{fuel:Nat}{ls ls':Array Bool}{a a':Act}{w:World}
  (hi:ops[i]? =some oi:=by simp only[List.getElem?_toArray,List.getElem?_cons_zero,List.getElem?_cons_succ];rfl)
  (hs:Region.noSelect ops=true:=by kernel_rfl) (hf:Region.free md ops ls i=true:=by kernel_rfl) (hr:(Region.ready md ops ls).contains i=true:=by kernel_rfl)
  (hQ:∀c a w,Q (.panic c) (a.put oi.dst undef) w→Q (.panic c) a w:=by intro _ _ _ h;exact h)
  (h1:Region.wanted oi (yielded ops a.tmps)=false:=by rfl) (hS:S w:=by assumption)
  (hl:ls.setIfInBounds i true=ls':=by(try simp only[List.setIfInBounds_toArray,List.set_cons_zero,List.set_cons_succ]);(try rfl))
  (ha:a.put oi.dst undef=a':=by(try simp only[Act.put,List.setIfInBounds_toArray,List.set_cons_zero,List.set_cons_succ,List.getElem_toArray,List.getElem_cons_zero,List.getElem_cons_succ]);(try rfl))
  (h:wpAnyH P md ops Q S fuel ls' a' w):wpAnyH P md ops Q S (fuel+1) ls a w:=by
 subst hl ha;exact wpAnyH_take hi hs hf hr hQ (Or.inr ⟨h1,rfl⟩) hS h
theorem rd1 (i:Nat){o:Oper}{fuel:Nat}{ls:Array Bool}{a:Act}{w:World}(hr:Region.ready md ops ls=[i]:=by kernel_rfl)
  (ho:ops[i]? =some o:=by simp only[List.getElem?_toArray,List.getElem?_cons_zero,List.getElem?_cons_succ];rfl)
  (h:∀K':Act→World→Prop,Shut (∀a w,S w→(S w→wpAnyH P md ops Q S fuel (ls.setIfInBounds i true) a w)→K' a w)→if Region.wanted o (yielded ops a.tmps)=true then Oper.wp P o a w K' Q else K' (a.put o.dst undef) w):wpAnyH P md ops Q S (fuel+1) ls a w:=
 wpAnyH_ready hr (by simp) (AllReadyH.cons ho h AllReadyH.nil)
theorem rd2 (i j:Nat){o p:Oper}{fuel:Nat}{ls:Array Bool}{a:Act}{w:World}(hr:Region.ready md ops ls=[i,j]:=by kernel_rfl)
  (ho:ops[i]? =some o:=by simp only[List.getElem?_toArray,List.getElem?_cons_zero,List.getElem?_cons_succ];rfl)
  (hp:ops[j]? =some p:=by simp only[List.getElem?_toArray,List.getElem?_cons_zero,List.getElem?_cons_succ];rfl)
  (h:∀K':Act→World→Prop,Shut (∀a w,S w→(S w→wpAnyH P md ops Q S fuel (ls.setIfInBounds i true) a w)→K' a w)→if Region.wanted o (yielded ops a.tmps)=true then Oper.wp P o a w K' Q else K' (a.put o.dst undef) w)
  (h2:∀K':Act→World→Prop,Shut (∀a w,S w→(S w→wpAnyH P md ops Q S fuel (ls.setIfInBounds j true) a w)→K' a w)→if Region.wanted p (yielded ops a.tmps)=true then Oper.wp P p a w K' Q else K' (a.put p.dst undef) w):wpAnyH P md ops Q S (fuel+1) ls a w:=
 wpAnyH_ready hr (by simp) (AllReadyH.cons ho h (AllReadyH.cons hp h2 AllReadyH.nil))
end
section
open Go.RowKit Go.Lib
theorem raw_any (a b:Dt)(w:World):Calls Tryz.prog 21 #[DtV a,DtV b] w fun e w'=>e=.returned (.int .i64 (cmpDt a b))∧Gr w w':=by
 obtain⟨a1,a2,a3,a4,a5,a6,a7⟩:=a;obtain⟨b1,b2,b3,b4,b5,b6,b7⟩:=b;simp only[DtV,cmpDt];obtain⟨Y1,hY1⟩:∃Y,w.alloc (.cells #[.string a1,.int .i64 a2,.int .i64 a3,.string a4,.string a5,.int .i64 a6,.int .i64 a7] 61)=Y:=⟨_,rfl⟩;obtain⟨Y2,hY2⟩:∃Y,Y1.alloc (.cells #[.string b1,.int .i64 b2,.int .i64 b3,.string b4,.string b5,.int .i64 b6,.int .i64 b7] 61)=Y:=⟨_,rfl⟩;have gY:Gr w Y2:=(by rw[←hY2,←hY1];exact(Gr.alloc _ _).trans (Gr.alloc _ _));have BA:Blk Y2 w.heap.size #[.string a1,.int .i64 a2,.int .i64 a3,.string a4,.string a5,.int .i64 a6,.int .i64 a7] 61:=(by rw[←hY2,←hY1];exact(Blk.new w _ _).alloc _);have BB:Blk Y2 Y1.heap.size #[.string b1,.int .i64 b2,.int .i64 b3,.string b4,.string b5,.int .i64 b6,.int .i64 b7] 61:=(by rw[←hY2];exact Blk.new Y1 _ _);have hSS:(fun w':World=>w'.cell? ⟨w.heap.size,0,none⟩=some (.string a1)∧w'.cell? ⟨w.heap.size,1,none⟩=some (.int .i64 a2)∧w'.cell? ⟨w.heap.size,2,none⟩=some (.int .i64 a3)∧w'.cell? ⟨w.heap.size,3,none⟩=some (.string a4)∧w'.cell? ⟨w.heap.size,4,none⟩=some (.string a5)∧w'.cell? ⟨w.heap.size,5,none⟩=some (.int .i64 a6)∧w'.cell? ⟨w.heap.size,6,none⟩=some (.int .i64 a7)∧w'.cell? ⟨Y1.heap.size,0,none⟩=some (.string b1)∧w'.cell? ⟨Y1.heap.size,1,none⟩=some (.int .i64 b2)∧w'.cell? ⟨Y1.heap.size,2,none⟩=some (.int .i64 b3)∧w'.cell? ⟨Y1.heap.size,3,none⟩=some (.string b4)∧w'.cell? ⟨Y1.heap.size,4,none⟩=some (.string b5)∧w'.cell? ⟨Y1.heap.size,5,none⟩=some (.int .i64 b6)∧w'.cell? ⟨Y1.heap.size,6,none⟩=some (.int .i64 b7)) Y2:=⟨BA.cell 0 rfl,BA.cell 1 rfl,BA.cell 2 rfl,BA.cell 3 rfl,BA.cell 4 rfl,BA.cell 5 rfl,BA.cell 6 rfl,BB.cell 0 rfl,BB.cell 1 rfl,BB.cell 2 rfl,BB.cell 3 rfl,BB.cell 4 rfl,BB.cell 5 rfl,BB.cell 6 rfl⟩;have HBA:=hid BA;have HBB:=hid BB;clear BA BB;have HSS:=hid hSS;clear hSS;go_enter Tryz.func21,Tryz.ntmps21;go_wp2_with fail
 refine wp_region_held_drew (S:=(fun w':World=>w'.cell? ⟨w.heap.size,0,none⟩=some (.string a1)∧w'.cell? ⟨w.heap.size,1,none⟩=some (.int .i64 a2)∧w'.cell? ⟨w.heap.size,2,none⟩=some (.int .i64 a3)∧w'.cell? ⟨w.heap.size,3,none⟩=some (.string a4)∧w'.cell? ⟨w.heap.size,4,none⟩=some (.string a5)∧w'.cell? ⟨w.heap.size,5,none⟩=some (.int .i64 a6)∧w'.cell? ⟨w.heap.size,6,none⟩=some (.int .i64 a7)∧w'.cell? ⟨Y1.heap.size,0,none⟩=some (.string b1)∧w'.cell? ⟨Y1.heap.size,1,none⟩=some (.int .i64 b2)∧w'.cell? ⟨Y1.heap.size,2,none⟩=some (.int .i64 b3)∧w'.cell? ⟨Y1.heap.size,3,none⟩=some (.string b4)∧w'.cell? ⟨Y1.heap.size,4,none⟩=some (.string b5)∧w'.cell? ⟨Y1.heap.size,5,none⟩=some (.int .i64 b6)∧w'.cell? ⟨Y1.heap.size,6,none⟩=some (.int .i64 b7))) (by kernel_rfl) ?_ (fun hHeld=> ?_);focus exact HSS.out
 have hSS:(fun w':World=>w'.cell? ⟨w.heap.size,0,none⟩=some (.string a1)∧w'.cell? ⟨w.heap.size,1,none⟩=some (.int .i64 a2)∧w'.cell? ⟨w.heap.size,2,none⟩=some (.int .i64 a3)∧w'.cell? ⟨w.heap.size,3,none⟩=some (.string a4)∧w'.cell? ⟨w.heap.size,4,none⟩=some (.string a5)∧w'.cell? ⟨w.heap.size,5,none⟩=some (.int .i64 a6)∧w'.cell? ⟨w.heap.size,6,none⟩=some (.int .i64 a7)∧w'.cell? ⟨Y1.heap.size,0,none⟩=some (.string b1)∧w'.cell? ⟨Y1.heap.size,1,none⟩=some (.int .i64 b2)∧w'.cell? ⟨Y1.heap.size,2,none⟩=some (.int .i64 b3)∧w'.cell? ⟨Y1.heap.size,3,none⟩=some (.string b4)∧w'.cell? ⟨Y1.heap.size,4,none⟩=some (.string b5)∧w'.cell? ⟨Y1.heap.size,5,none⟩=some (.int .i64 b6)∧w'.cell? ⟨Y1.heap.size,6,none⟩=some (.int .i64 b7)) Y2.drew:=HSS.out;have gW:Gr w Y2.drew:=gY.drew;have HBA:=hid HBA.out.drew;have HBB:=hid HBB.out.drew;clear HSS hY1 hY2 gY;generalize Y2.drew=W0 at hSS gW hHeld HBA HBB ⊢;change wpAnyH _ _ _ _ _ 38 _ _ _;refine tk 0 (h:= ?_);refine tk 1 (h:= ?_);refine tk 2 (h:= ?_);refine tk 3 (h:= ?_);refine tk 5 (h:= ?_);refine tk 6 (h:= ?_);refine tk 7 (h:= ?_);refine tk 8 (h:= ?_);refine tk 10 (h:= ?_);refine tk 11 (h:= ?_);refine tk 12 (h:= ?_);refine tk 13 (h:= ?_);refine tk 15 (h:= ?_);refine tk 16 (h:= ?_);refine tk 17 (h:= ?_);refine tk 18 (h:= ?_);refine tk 20 (h:= ?_);refine tk 21 (h:= ?_);refine tk 22 (h:= ?_);refine tk 23 (h:= ?_);refine tk 25 (h:= ?_);refine tk 26 (h:= ?_);refine tk 27 (h:= ?_);refine tk 28 (h:= ?_);refine tk 30 (h:= ?_);refine tk 31 (h:= ?_);refine tk 32 (h:= ?_);refine tk 33 (h:= ?_);refine rd1 4 (h:=fun K hK=> ?_);rw[if_pos (by rfl)];go_wp2_with fail;refine(cmpStr_any _ _ _).mono ?_;rintro e wn ⟨rfl,rfl⟩;go_wp2_with fail;refine hK.out _ _ ?_ (fun hHeld=> ?_);(focus exact hSS);clear hK K;refine td (h:= ?_)
 refine rd1 9 (h:=fun K hK=> ?_);rw[if_pos (by rfl)];go_wp2_with fail;refine(cmpInt_any _ _ _).mono ?_;rintro e wn ⟨rfl,rfl⟩;go_wp2_with fail;refine hK.out _ _ ?_ (fun hHeld=> ?_);(focus exact hSS);clear hK K;refine td (h:= ?_)
 refine rd1 14 (h:=fun K hK=> ?_);rw[if_pos (by rfl)];go_wp2_with fail;refine(cmpInt_any _ _ _).mono ?_;rintro e wn ⟨rfl,rfl⟩;go_wp2_with fail;refine hK.out _ _ ?_ (fun hHeld=> ?_);(focus exact hSS);clear hK K;refine td (h:= ?_)
 refine rd1 19 (h:=fun K hK=> ?_);rw[if_pos (by rfl)];go_wp2_with fail;refine(cmpStr_any _ _ _).mono ?_;rintro e wn ⟨rfl,rfl⟩;go_wp2_with fail;refine hK.out _ _ ?_ (fun hHeld=> ?_);(focus exact hSS);clear hK K;refine td (h:= ?_)
 refine rd1 24 (h:=fun K hK=> ?_);rw[if_pos (by rfl)];go_wp2_with fail;refine(cmpStr_any _ _ _).mono ?_;rintro e wn ⟨rfl,rfl⟩;go_wp2_with fail;refine hK.out _ _ ?_ (fun hHeld=> ?_);(focus exact hSS);clear hK K;refine td (h:= ?_)
 refine rd1 29 (h:=fun K hK=> ?_);rw[if_pos (by rfl)];go_wp2_with fail;refine(cmpInt_any _ _ _).mono ?_;rintro e wn ⟨rfl,rfl⟩;go_wp2_with fail;refine hK.out _ _ ?_ (fun hHeld=> ?_);(focus exact hSS);clear hK K;refine td (h:= ?_)
 refine rd1 34 (h:=fun K hK=> ?_);rw[if_pos (by rfl)];go_wp2_with fail;refine(cmpInt_any _ _ _).mono ?_;rintro e wn ⟨rfl,rfl⟩;go_wp2_with fail;refine hK.out _ _ ?_ (fun hHeld=> ?_);(focus exact hSS);clear hK K;refine td (h:= ?_)
 (obtain⟨Z,hZ⟩:∃x,World.alloc wn (.cells #[.int .i64 (cmpS a1 b1),.int .i64 (cmpI a2 b2),.int .i64 (cmpI a3 b3),.int .i64 (cmpS a4 b4),.int .i64 (cmpS a5 b5),.int .i64 (cmpI a6 b6),.int .i64 (cmpI a7 b7)] 3)=x:=⟨_,rfl⟩);have gZ:Gr w Z:=(by rw[←hZ];exact gW.trans (Gr.alloc _ _));have hSS:(fun w':World=>w'.cell? ⟨w.heap.size,0,none⟩=some (.string a1)∧w'.cell? ⟨w.heap.size,1,none⟩=some (.int .i64 a2)∧w'.cell? ⟨w.heap.size,2,none⟩=some (.int .i64 a3)∧w'.cell? ⟨w.heap.size,3,none⟩=some (.string a4)∧w'.cell? ⟨w.heap.size,4,none⟩=some (.string a5)∧w'.cell? ⟨w.heap.size,5,none⟩=some (.int .i64 a6)∧w'.cell? ⟨w.heap.size,6,none⟩=some (.int .i64 a7)∧w'.cell? ⟨Y1.heap.size,0,none⟩=some (.string b1)∧w'.cell? ⟨Y1.heap.size,1,none⟩=some (.int .i64 b2)∧w'.cell? ⟨Y1.heap.size,2,none⟩=some (.int .i64 b3)∧w'.cell? ⟨Y1.heap.size,3,none⟩=some (.string b4)∧w'.cell? ⟨Y1.heap.size,4,none⟩=some (.string b5)∧w'.cell? ⟨Y1.heap.size,5,none⟩=some (.int .i64 b6)∧w'.cell? ⟨Y1.heap.size,6,none⟩=some (.int .i64 b7)) Z:=(by have BA:=HBA.out.alloc (.cells #[.int .i64 (cmpS a1 b1),.int .i64 (cmpI a2 b2),.int .i64 (cmpI a3 b3),.int .i64 (cmpS a4 b4),.int .i64 (cmpS a5 b5),.int .i64 (cmpI a6 b6),.int .i64 (cmpI a7 b7)] 3);have BB:=HBB.out.alloc (.cells #[.int .i64 (cmpS a1 b1),.int .i64 (cmpI a2 b2),.int .i64 (cmpI a3 b3),.int .i64 (cmpS a4 b4),.int .i64 (cmpS a5 b5),.int .i64 (cmpI a6 b6),.int .i64 (cmpI a7 b7)] 3);rw[hZ]at BA BB;exact⟨BA.cell 0 rfl,BA.cell 1 rfl,BA.cell 2 rfl,BA.cell 3 rfl,BA.cell 4 rfl,BA.cell 5 rfl,BA.cell 6 rfl,BB.cell 0 rfl,BB.cell 1 rfl,BB.cell 2 rfl,BB.cell 3 rfl,BB.cell 4 rfl,BB.cell 5 rfl,BB.cell 6 rfl⟩);have rdl:Rd encI 1 Z Z.heap.size (some ⟨wn.heap.size,0,none⟩) [cmpS a1 b1,cmpI a2 b2,cmpI a3 b3,cmpS a4 b4,cmpS a5 b5,cmpI a6 b6,cmpI a7 b7]:=(by rw[←hZ];exact Rd.lit wn _ encI_ok rfl (by simp));refine rd1 35 (h:=fun K hK=> ?_);rw[if_pos (by rfl)];go_wp2_with fail;refine hK.out _ _ ?_ (fun hHeld=> ?_);(focus exact hSS);clear hK K hZ HBA HBB gW;refine td (h:= ?_);refine rd1 36 (h:=fun K hK=> ?_);rw[if_pos (by rfl)];go_wp2_with fail;refine(or_any 7 rdl (by simp)).mono ?_;rintro e wn ⟨rfl,rfl⟩;go_wp2_with fail;refine hK.out _ _ ?_ (fun hHeld=> ?_);(focus exact hSS);clear hK K;refine td (h:= ?_);refine tk 37 (h:= ?_);refine wpAnyH_done (by kernel_rfl) ?_ _;go_wp2_with fail;go_ret;exact⟨rfl,gZ⟩
end
end Go.Proofs.YtimffppffbideaaGreatDoor
