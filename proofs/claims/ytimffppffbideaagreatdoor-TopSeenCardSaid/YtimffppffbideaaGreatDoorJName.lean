import Derived.Test.YtimffppffbideaaGreatDoorJAppLI
set_option linter.unusedSimpArgs false
set_option linter.unusedVariables false
set_option maxRecDepth 100000
set_option maxHeartbeats 16000000
namespace Go.Proofs.YtimffppffbideaaGreatDoor
section
open Go.RowKit Go.Lib
def okByte (k c:Nat):Bool:=(decide (97≤c)&&decide (c≤122))||(decide (k≠0)&&(decide (c=45)||(decide (48≤c)&&decide (c≤57))))
def nameTo (s:ByteArray)(k:Nat):Prop:=∀i (h:i<s.size),i<k→okByte i (s[i]'h).toNat=true
def nameB (s:ByteArray):Bool:=decide (1≤s.size)&&decide (s.size≤12)&&(List.range s.size).all fun i=>okByte i (s.get! i).toNat
theorem get_bang (s:ByteArray)(i:Nat)(h:i<s.size):s.get! i=s[i]'h:=get_at s i h
theorem nameB_iff (s:ByteArray):nameB s=true↔1≤s.size∧s.size≤12∧nameTo s s.size:=by
 unfold nameB nameTo;simp only[Bool.and_eq_true,decide_eq_true_eq,List.all_eq_true,List.mem_range,and_assoc];refine and_congr_right fun _=>and_congr_right fun _=> ?_;constructor
 ·intro h i hi _;rw[←get_bang s i hi];exact h i hi
 ·intro h i hi;rw[get_bang s i hi];exact h i hi hi
theorem nameTo_succ {s:ByteArray}{k:Nat}(h:nameTo s k)(hk:k<s.size)(ho:okByte k (s[k]'hk).toNat=true):nameTo s (k+1):=by
 intro i hi hik;rcases(by omega:i<k∨i=k)with e|rfl
 ·exact h i hi e
 ·exact ho
theorem nameB_no {s:ByteArray}{k:Nat}(hk:k<s.size)(ho:okByte k (s[k]'hk).toNat=false):nameB s=false:=by
 cases hb:nameB s
 ·rfl
 ·have:=((nameB_iff s).1 hb).2.2 k hk hk
  rw[ho]at this;cases this
theorem okByte_yes {k c:Nat}(h:okByte k c=true):(97≤(c:Int)∧(c:Int)≤122)∨
  (((k:Int)==0)=false∧(c:Int)<97∧(((c:Int) !=45)=false∨(((c:Int) !=45)=true∧48≤(c:Int)∧(c:Int)≤57))):=by
 unfold okByte at h;simp only[Bool.or_eq_true,Bool.and_eq_true,decide_eq_true_eq]at h;simp;omega
theorem okByte_no {k c:Nat}(h:okByte k c=false):((c:Int)<97∨(97≤(c:Int)∧122<(c:Int)))∧(((k:Int)==0)=true∨(((k:Int)==0)=false∧((c:Int) !=45)=true∧((c:Int)<48∨(48≤(c:Int)∧57<(c:Int))))):=by
 unfold okByte at h;simp only[Bool.or_eq_false_iff,Bool.and_eq_false_iff,decide_eq_false_iff_not]at h;simp;omega
theorem okByte_yes' {k c:Nat}(h:okByte k c=true):(97≤(c:Int)∧(c:Int)≤122)∨((c:Int)<97∧48≤(c:Int)∧(c:Int)≤57)∨((c:Int)<48∧(c:Int)=45):=by
 unfold okByte at h;simp only[Bool.or_eq_true,Bool.and_eq_true,decide_eq_true_eq]at h;omega
theorem okByte_no' {k c:Nat}(h:okByte k c=false)(hk:k≠0):((c:Int)<48∧¬(c:Int)=45)∨(57<(c:Int)∧(c:Int)<97)∨122<(c:Int):=by
 unfold okByte at h;simp only[Bool.or_eq_false_iff,Bool.and_eq_false_iff,decide_eq_false_iff_not]at h;omega
end
section
namespace Net
open Go.RowKit Go.Lib
structure Pt where
 name:ByteArray
 kind:Int
 sys:ByteArray
def encPt (p:Pt):List Value:=[.string p.name,.int .i64 p.kind,.string p.sys]
theorem encPt_ok:Enc encPt 3:=⟨fun _=>rfl,fun x u hu=>by simp[encPt]at hu;rcases hu with rfl|rfl|rfl<;>rfl⟩
def PtV (p:Pt):Value:=.agg #[.string p.name,.int .i64 p.kind,.string p.sys]
structure Lk where
 fr:ByteArray
 tz:ByteArray
 mn:Int
 mx:Int
def encLk (p:Lk):List Value:=[.string p.fr,.string p.tz,.int .i64 p.mn,.int .i64 p.mx]
theorem encLk_ok:Enc encLk 4:=⟨fun _=>rfl,fun x u hu=>by simp[encLk]at hu;rcases hu with rfl|rfl|rfl|rfl<;>rfl⟩
structure Sy where
 name:ByteArray
 cld:Bool
 most:Int
def encSy (p:Sy):List Value:=[.string p.name,.bool p.cld,.int .i64 p.most]
theorem _root_.Go.Proofs.YtimffppffbideaaGreatDoor.Rd.ptN {w:World}{B:Nat}{A:Option Addr}{l:List Pt}(h:Rd encPt 3 w B A l){i:Nat}(hi:i<l.length):
  ∃b off p,A=some ⟨b,off,none⟩∧b<B∧l[i]? =some p∧w.cell? ⟨b,off+i*3,none⟩=some (.string p.name)∧w.cell? ⟨b,off+i*3+1,none⟩=some (.int .i64 p.kind)∧w.cell? ⟨b,off+i*3+2,none⟩=some (.string p.sys):=by
 obtain⟨b,off,x,hA,hb,hx,hc⟩:=h.at_ hi;exact⟨b,off,x,hA,hb,hx,hc 0 _ rfl,hc 1 _ rfl,hc 2 _ rfl⟩
theorem _root_.Go.Proofs.YtimffppffbideaaGreatDoor.Rd.lkN {w:World}{B:Nat}{A:Option Addr}{l:List Lk}(h:Rd encLk 4 w B A l){i:Nat}(hi:i<l.length):
  ∃b off p,A=some ⟨b,off,none⟩∧b<B∧l[i]? =some p∧w.cell? ⟨b,off+i*4,none⟩=some (.string p.fr)∧w.cell? ⟨b,off+i*4+1,none⟩=some (.string p.tz)∧w.cell? ⟨b,off+i*4+2,none⟩=some (.int .i64 p.mn)∧w.cell? ⟨b,off+i*4+3,none⟩=some (.int .i64 p.mx):=by
 obtain⟨b,off,x,hA,hb,hx,hc⟩:=h.at_ hi;exact⟨b,off,x,hA,hb,hx,hc 0 _ rfl,hc 1 _ rfl,hc 2 _ rfl,hc 3 _ rfl⟩
theorem _root_.Go.Proofs.YtimffppffbideaaGreatDoor.Rd.syN {w:World}{B:Nat}{A:Option Addr}{l:List Sy}(h:Rd encSy 3 w B A l){i:Nat}(hi:i<l.length):
  ∃b off p,A=some ⟨b,off,none⟩∧b<B∧l[i]? =some p∧w.cell? ⟨b,off+i*3,none⟩=some (.string p.name)∧w.cell? ⟨b,off+i*3+1,none⟩=some (.bool p.cld)∧w.cell? ⟨b,off+i*3+2,none⟩=some (.int .i64 p.most):=by
 obtain⟨b,off,x,hA,hb,hx,hc⟩:=h.at_ hi;exact⟨b,off,x,hA,hb,hx,hc 0 _ rfl,hc 1 _ rfl,hc 2 _ rfl⟩
def inSys (sys:List Sy)(s:ByteArray):Prop:=∃x∈sys,eqS x.name s=true
def IntR (e:Ending):Prop:=∃n:Int,e=.returned (.int .i64 n)
theorem place_any {A:Option Addr}(c:Nat){l:List Pt}(n:Int)(s:ByteArray){w:World}(h:Rd encPt 3 w w.heap.size A l)(hl:l.length≤9223372036854775807):
  Calls Tryz.prog 32 #[.slice A l.length c,.int .i64 n,.string s] w fun e w'=>(∃r:Int,e=.returned (.int .i64 r)∧(r= -1∨∃k:Nat,r=k∧k<l.length))∧w'=w:=by
 have H:=hid h;clear h;go_enter Tryz.func32,Tryz.ntmps32;go_wp2_with fail
 go_loopw [7] (fun i wr=>∃k:Nat,k≤l.length∧i=.int .i64 k∧wr=w) (fun i _=>l.length-(RowKit.intOf i).toNat)
 case atStart=>exact⟨0,Nat.zero_le _,rfl,rfl⟩
 case round=>
  obtain⟨k,hk,rfl,hw⟩:=hrel;have hw:=hw.symm;subst hw;have k1:(0:Int)≤(k:Int):=by omega
  by_cases hn:(k:Int)<n
  ·by_cases hi:k<l.length
   ·have k2:(k:Int)<(l.length:Int):=by omega
    obtain⟨b,off,p,rfl,hb,hx,d0,d1,d2⟩:=H.out.ptN hi;have HK:=hid hi;clear hx hi hb d1 d2;cases he:eqS p.name s
    all_goals
     have he2:(p.name.toList==s.toList)=eqS p.name s:=rfl;rw[he]at he2;clear he;go_wp2_with fail
     first
     |(go_ret;exact⟨⟨_,rfl,.inr ⟨k,rfl,HK.out⟩⟩,rfl⟩)
     |(go_roundw;(case rel=>exact⟨k+1,HK.out,by go_num,by first|rfl|trivial⟩);(case measure=>have:=HK.out;simp[RowKit.intOf];omega))
   ·have k2:¬(k:Int)<(l.length:Int):=by omega
    go_wp2_with fail
    go_ret;exact⟨⟨_,rfl,.inl rfl⟩,rfl⟩
  ·go_wp2_with fail
   go_ret;exact⟨⟨_,rfl,.inl rfl⟩,rfl⟩
end Net
end
section
namespace Net
open Go.RowKit Go.Lib
theorem okB_of {k c:Nat}{b:Bool}(h:(decide (97≤c∧c≤122)||(decide (k≠0)&&decide (c=45∨(48≤c∧c≤57))))=b):okByte k c=b:=by
 rw[←h];unfold okByte;rw[Bool.eq_iff_iff];simp
theorem r1name_any (s:ByteArray)(w:World):
  Calls Tryz.prog 31 #[.string s] w fun e w'=>e=.returned (.bool (nameB s))∧w'=w:=by
 generalize hr:nameB s=r;by_cases h0:s.size<1
 ·have R:=hid (show r=false by rw[←hr,nameB,show decide (1≤s.size)=false from decide_eq_false (by omega)];rfl);clear hr;go_enter Tryz.func31,Tryz.ntmps31;go_wp2;all_goals(go_ret;rw[R.out];exact⟨rfl,rfl⟩)
 ·by_cases h12:12<s.size
  ·have R:=hid (show r=false by rw[←hr,nameB,show decide (s.size≤12)=false from decide_eq_false (by omega)];simp);clear hr;go_enter Tryz.func31,Tryz.ntmps31;go_wp2;all_goals(go_ret;rw[R.out];exact⟨rfl,rfl⟩)
  ·have HR:=hid hr;clear hr;go_enter Tryz.func31,Tryz.ntmps31;go_wp2;go_loopw [3] (fun i wr=>∃k:Nat,k≤s.size∧i=.int .i64 k∧wr=w∧Hid (nameTo s k)) (fun i _=>s.size-(RowKit.intOf i).toNat)
   case atStart=>exact⟨0,Nat.zero_le _,rfl,rfl,fun i _ h=>absurd h (Nat.not_lt_zero _)⟩
   case round=>
    obtain⟨k,hkl,rfl,rfl,HN⟩:=hrel;by_cases hk:k<s.size
    ·obtain⟨c,hc⟩:∃c:Nat,(s[k]'hk).toNat=c:=⟨_,rfl⟩;have HY:=hid (fun(q:okByte k c=true)=>nameTo_succ HN.out hk (by rw[hc];exact q));have HF:=hid (fun(q:okByte k c=false)=>(show r=false by rw[←HR.out,nameB_no hk (by rw[hc];exact q)]));have hz:(c<45)∨(c=45)∨(45<c∧c<48)∨(48≤c∧c≤57)∨(57<c∧c<97)∨(97≤c∧c≤122)∨(122<c):=by omega
     have hkz:((k:Int)==0)=true∨((k:Int)==0)=false:=by cases((k:Int)==0)<;>simp
     have HKT:=hid (fun(q:((k:Int)==0)=true)=>(show k=0 by simpa using q));have HKF:=hid (fun(q:((k:Int)==0)=false)=>(show k≠0 by simpa using q));have HKS:=hid hk;rcases hz with hz|hz|hz|hz|hz|hz|hz
     all_goals
      have z45:c=c:=rfl;rcases hkz with hkz|hkz
     case inr.inr.inr.inr.inr.inl.inl|inr.inr.inr.inr.inr.inl.inr=>(have R:=hid (HY.out (okB_of (by simp;omega))));clear z45 HY HF;go_wp2;all_goals(first|(exfalso;omega)|(exfalso;rename_i qx;simp at qx;omega)|(go_roundw;(case rel=>exact⟨k+1,HKS.out,by go_num,by first|rfl|trivial,R⟩);(case measure=>have:=HKS.out;simp[RowKit.intOf];omega)))
     case inr.inl.inr|inr.inr.inr.inl.inr=>(have R:=hid (HY.out (okB_of (by have:=HKF.out hkz;simp;omega))));clear z45 HY HF;go_wp2;all_goals(first|(exfalso;omega)|(exfalso;rename_i qx;simp at qx;omega)|(go_roundw;(case rel=>exact⟨k+1,HKS.out,by go_num,by first|rfl|trivial,R⟩);(case measure=>have:=HKS.out;simp[RowKit.intOf];omega)))
     all_goals(have R:=hid (HF.out (okB_of (by first|(have:=HKT.out hkz;simp;omega)|(simp;omega)))));clear z45 HY HF;go_wp2;all_goals(first|(exfalso;omega)|(go_ret;rw[R.out];exact⟨rfl,rfl⟩)|(exfalso;rename_i qx;simp at qx;omega))
    ·obtain rfl:k=s.size:=by omega
     have R:=hid (show r=true by rw[←HR.out];exact(nameB_iff s).2 ⟨by omega,by omega,HN.out⟩);go_wp2;go_ret;rw[R.out];exact⟨rfl,rfl⟩
end Net
end
section
namespace Net
open Go.RowKit Go.Lib
theorem netchk_any {pA lA:Option Addr}(pc lc:Nat){pts:List Pt}{lks:List Lk}{w:World}(hp:Rd encPt 3 w w.heap.size pA pts)(hk:Rd encLk 4 w w.heap.size lA lks)(hpl:pts.length≤9223372036854775807)(hkl:lks.length≤9223372036854775807):
  Calls Tryz.prog 15 #[.agg #[.slice pA pts.length pc,.slice lA lks.length lc]] w fun e w'=>IntR e∧Below w.heap.size w w':=by
 obtain⟨Y,hY⟩:∃Y,w.alloc (.cells #[.slice pA pts.length pc,.slice lA lks.length lc] 25)=Y:=⟨_,rfl⟩;have bW:Below w.heap.size w Y:=by rw[←hY];exact(Below.refl _ w).al _
 have BP:Blk Y w.heap.size #[.slice pA pts.length pc,.slice lA lks.length lc] 25:=by rw[←hY];exact Blk.new w _ _
 have HP:=hid hp;have HK:=hid hk;have HBP:=hid BP;have HBW:=hid bW;have CN:=hid (fun(s:ByteArray) (X:World)=>r1name_any s X);have CP:=hid (fun(n:Int) (s:ByteArray) (X:World) (hX:Below w.heap.size w X)=>place_any pc n s (HP.out.st hX) hpl);have z0:=BP.cell 0 (v:=.slice pA pts.length pc) rfl;have z1:=BP.cell 1 (v:=.slice lA lks.length lc) rfl;clear hp hk;by_cases q1:64<pts.length
 ·have q2:(64:Int)<(pts.length:Int):=by omega
  go_enter Tryz.func15,Tryz.ntmps15;go_wp2_with fail
  go_ret;exact⟨⟨_,rfl⟩,bW⟩
 ·have q2:¬(64:Int)<(pts.length:Int):=by omega
  by_cases q3:128<lks.length
  ·have q4:(128:Int)<(lks.length:Int):=by omega
   go_enter Tryz.func15,Tryz.ntmps15;go_wp2_with fail
   go_ret;exact⟨⟨_,rfl⟩,bW⟩
  ·have q4:¬(128:Int)<(lks.length:Int):=by omega
   go_enter Tryz.func15,Tryz.ntmps15;go_wp2_with fail
   clear hY BP bW z0 z1;go_loopw [3] (fun i wr=>∃k:Nat,k≤pts.length∧i=.int .i64 k∧Below Y.heap.size Y wr) (fun i _=>pts.length-(RowKit.intOf i).toNat)
   case atStart=>exact⟨0,Nat.zero_le _,rfl,Below.refl _ _⟩
   case round=>
    obtain⟨k,hk,rfl,bY⟩:=hrel;have k1:(0:Int)≤(k:Int):=by omega
    have BP:=HBP.out.below bY HBP.out.lt;have bW:=HBW.out.st bY;have z0:=BP.cell 0 (v:=.slice pA pts.length pc) rfl;have z1:=BP.cell 1 (v:=.slice lA lks.length lc) rfl;by_cases hi:k<pts.length
    ·have k2:(k:Int)<(pts.length:Int):=by omega
     obtain⟨b,off,p,hA,hb,hx,d0,d1,d2⟩:=(HP.out.st bW).ptN hi;rw[hA]at z0;have HI:=hid hi;obtain⟨pn,pk,ps⟩:=p;simp only at*;obtain⟨Y5,hY5⟩:∃Y,wr.alloc (.cells #[.string pn,.int .i64 pk,.string ps] 100)=Y:=⟨_,rfl⟩;have b5:Below wr.heap.size wr Y5:=by rw[←hY5];exact(Below.refl _ wr).al _
     have B5:Blk Y5 wr.heap.size #[.string pn,.int .i64 pk,.string ps] 100:=by rw[←hY5];exact Blk.new wr _ _
     have BP5:=BP.below b5 BP.lt;have y0:=BP5.cell 0 (v:=.slice pA pts.length pc) rfl;rw[hA]at y0;have p0:=B5.cell 0 (v:=.string pn) rfl;have p1:=B5.cell 1 (v:=.int .i64 pk) rfl;have p2:=B5.cell 2 (v:=.string ps) rfl;have bW5:=bW.st b5;have bY5:=bY.st b5;have CPx:=hid (CP.out (k:Int) pn Y5 bW5);rw[hA]at CPx;clear hx hi hb hA BP BP5 B5 b5 bY bW;cases he:emp ps
     ·obtain⟨e1,e2,e3⟩:=toList_neE he;clear he;cases hn:nameB pn<;>cases hs:nameB ps
      all_goals
       have CN1:=hid (CN.out pn);have CN2:=hid (CN.out ps);rw[hn]at CN1;rw[hs]at CN2;clear hn hs;go_wp2_with(first|(with_reducible refine(CN1.out _).mono ?_;rintro e w' ⟨rfl,rfl⟩)|(with_reducible refine(CN2.out _).mono ?_;rintro e w' ⟨rfl,rfl⟩)|(with_reducible refine CPx.out.mono ?_;rintro e w' ⟨⟨r,rfl,hr⟩,rfl⟩))
       all_goals
        first
        |(go_ret;exact⟨⟨_,rfl⟩,bW5⟩)
        |(go_roundw;(case rel=>exact⟨k+1,HI.out,by go_num,bY5⟩);(case measure=>have:=HI.out;simp[RowKit.intOf];omega))
     ·obtain⟨e1,e2,e3⟩:=toList_eE he;clear he;cases hn:nameB pn
      all_goals
       have CN1:=hid (CN.out pn);rw[hn]at CN1;clear hn;go_wp2_with(first|(with_reducible refine(CN1.out _).mono ?_;rintro e w' ⟨rfl,rfl⟩)|(with_reducible refine CPx.out.mono ?_;rintro e w' ⟨⟨r,rfl,hr⟩,rfl⟩))
       all_goals
        first
        |(go_ret;exact⟨⟨_,rfl⟩,bW5⟩)
        |(go_roundw;(case rel=>exact⟨k+1,HI.out,by go_num,bY5⟩);(case measure=>have:=HI.out;simp[RowKit.intOf];omega))
    ·obtain rfl:k=pts.length:=by omega
     have HBP:=hid BP;have HBW:=hid bW;go_wp2_with fail
     clear z0 z1 BP bW bY;obtain⟨W1,hW1⟩:∃V,V=wr:=⟨_,rfl⟩;subst hW1;go_loopw [5] (fun i wr=>∃k:Nat,k≤lks.length∧i=.int .i64 k∧Below W1.heap.size W1 wr) (fun i _=>lks.length-(RowKit.intOf i).toNat)
     case atStart=>exact⟨0,Nat.zero_le _,rfl,Below.refl _ _⟩
     case round=>
      obtain⟨k,hk,rfl,bY⟩:=hrel;have k1:(0:Int)≤(k:Int):=by omega
      have BP:=HBP.out.below bY HBP.out.lt;have bW:=HBW.out.st bY;have z0:=BP.cell 0 (v:=.slice pA pts.length pc) rfl;have z1:=BP.cell 1 (v:=.slice lA lks.length lc) rfl;by_cases hi:k<lks.length
      ·have k2:(k:Int)<(lks.length:Int):=by omega
       obtain⟨b,off,p,hA,hb,hx,d0,d1,d2,d3⟩:=(HK.out.st bW).lkN hi;rw[hA]at z1;have HI:=hid hi;obtain⟨pf,pt,mn,mx⟩:=p;simp only at*;obtain⟨Y5,hY5⟩:∃Y,wr.alloc (.cells #[.string pf,.string pt,.int .i64 mn,.int .i64 mx] 104)=Y:=⟨_,rfl⟩;have b5:Below wr.heap.size wr Y5:=by rw[←hY5];exact(Below.refl _ wr).al _
       have B5:Blk Y5 wr.heap.size #[.string pf,.string pt,.int .i64 mn,.int .i64 mx] 104:=by rw[←hY5];exact Blk.new wr _ _
       have BP5:=BP.below b5 BP.lt;have y0:=BP5.cell 0 (v:=.slice pA pts.length pc) rfl;have p0:=B5.cell 0 (v:=.string pf) rfl;have p1:=B5.cell 1 (v:=.string pt) rfl;have p2:=B5.cell 2 (v:=.int .i64 mn) rfl;have p3:=B5.cell 3 (v:=.int .i64 mx) rfl;have bW5:=bW.st b5;have bY5:=bY.st b5;have HBP5:=hid BP5;have HBL5:=hid B5;have y1:=BP5.cell 1 (v:=.slice lA lks.length lc) rfl;rw[hA]at y1;have HW5:=hid bW5;have CP1:=hid (CP.out 64 pf Y5 bW5);have CP2:=hid (CP.out 64 pt Y5 bW5);have HKX:=hid hA;clear hx hi hb hA BP BP5 B5 b5 bY bW;have he2:(pf.toList==pt.toList)=eqS pf pt:=rfl;cases he:eqS pf pt
       case' true=>
        rw[he]at he2;clear he;go_wp2_with(first|(with_reducible refine CP1.out.mono ?_;rintro e w' ⟨⟨r,rfl,hr⟩,hw'⟩;rw[hw'];clear hw' w')|(with_reducible refine CP2.out.mono ?_;rintro e w' ⟨⟨r,rfl,hr⟩,hw'⟩;rw[hw'];clear hw' w'))
        all_goals(go_ret;exact⟨⟨_,rfl⟩,bW5⟩)
       rw[he]at he2;clear he;go_wp2_with fail
       refine CP1.out.mono ?_;rintro e w' ⟨⟨r,rfl,-⟩,hw'⟩;rw[hw'];clear hw' w';by_cases hr1:r<0
       ·have hd1:decide (r<0)=true:=decide_eq_true hr1;go_wp2_with fail
        go_ret;exact⟨⟨_,rfl⟩,bW5⟩
       have hd1:decide (r<0)=false:=decide_eq_false hr1;go_wp2_with fail
       refine CP2.out.mono ?_;rintro e w' ⟨⟨r',rfl,-⟩,hw'⟩;rw[hw'];clear hw' w';by_cases hr2:r'<0
       ·have hd2:decide (r'<0)=true:=decide_eq_true hr2;go_wp2_with fail
        go_ret;exact⟨⟨_,rfl⟩,bW5⟩
       have hd2:decide (r'<0)=false:=decide_eq_false hr2;go_wp2_with fail
       go_loopw [7] (fun i wr=>∃m:Nat,m≤k∧i=.int .i64 m∧∃n,wr=Y5.drewN n) (fun i _=>k-(RowKit.intOf i).toNat)
       case atStart=>exact⟨0,Nat.zero_le _,rfl,0,rfl⟩
       case round=>
        obtain⟨m,hm,rfl,n,rfl⟩:=hrel;have m1:(0:Int)≤(m:Int):=by omega
        by_cases hmk:m<k
        ·have m2:(m:Int)<(k:Int):=by omega
         have m3:(m:Int)<(lks.length:Int):=by have:=HI.out;omega
         obtain⟨b',off',p',hA',hb',hx',f0,f1,f2,f3⟩:=(HK.out.st HW5.out).lkN (i:=m) (by have:=HI.out;omega);have hAA:=HKX.out.symm.trans hA';injection hAA with hAA;injection hAA with q1 q2;subst q1 q2;have HM:=hid hmk;clear hA' hb' hx' f2 f3 hmk;have g1:(p'.fr.toList==pf.toList)=eqS p'.fr pf:=rfl;have g2:(p'.tz.toList==pt.toList)=eqS p'.tz pt:=rfl;cases ga:eqS p'.fr pf<;>cases gb:eqS p'.tz pt
         all_goals
          rw[ga]at g1;rw[gb]at g2;clear ga gb;go_wp2_with fail
          go_quiet(fail)
          go_wp2_with fail
          first
          |(go_ret;exact⟨⟨_,rfl⟩,by first|exact below_drewN (below_drewN HW5.out _) _|exact below_drewN HW5.out _⟩)
          |(go_roundw;(case rel=>exact⟨m+1,HM.out,by go_num,_,rfl⟩);(case measure=>have:=HM.out;simp[RowKit.intOf];omega))
        ·obtain rfl:m=k:=by omega
         have bWn:=below_drewN HW5.out n;have bYn:=below_drewN bY5 n;clear hmk;by_cases a1:mn<1
         ·go_wp2_with fail
          go_ret;exact⟨⟨_,rfl⟩,bWn⟩
         ·by_cases a2:mx<mn
          ·go_wp2_with fail
           go_ret;exact⟨⟨_,rfl⟩,bWn⟩
          ·by_cases a3:2147483648<mx
           ·go_wp2_with fail
            go_ret;exact⟨⟨_,rfl⟩,bWn⟩
           ·go_wp2_with fail
            go_roundw
            case rel=>exact⟨m+1,HI.out,by go_num,bYn⟩
            case measure=>have:=HI.out;simp[RowKit.intOf];omega
      ·obtain rfl:k=lks.length:=by omega
       go_wp2_with fail
       go_ret;exact⟨⟨_,rfl⟩,bW⟩
end Net
end
section
open Go.RowKit Go.Lib Go.Shelf
structure Pt where
 name:ByteArray
 kind:Int
 sys:ByteArray
instance : Inhabited Pt := ⟨⟨⟨#[]⟩, 0, ⟨#[]⟩⟩⟩
def encPt (d:Pt):List Value:=[.string d.name,.int .i64 d.kind,.string d.sys]
theorem encPt_ok:Enc encPt 3:=⟨fun _=>rfl,fun x u hu=>by simp[encPt]at hu;rcases hu with rfl|rfl|rfl<;>rfl⟩
def PV (d:Pt):Value:=.agg #[.string d.name,.int .i64 d.kind,.string d.sys]
theorem Rd.pt {w:World}{B:Nat}{A:Option Addr}{l:List Pt}(h:Rd encPt 3 w B A l){i:Nat}(hi:i<l.length):
  ∃b off d,A=some ⟨b,off,none⟩∧b<B∧l[i]? =some d∧w.cell? ⟨b,off+i*3,none⟩=some (.string d.name)∧w.cell? ⟨b,off+i*3+1,none⟩=some (.int .i64 d.kind)∧w.cell? ⟨b,off+i*3+2,none⟩=some (.string d.sys):=by
 obtain⟨b,off,d,hA,hb,hx,hc⟩:=h.at_ hi;exact⟨b,off,d,hA,hb,hx,hc 0 _ rfl,hc 1 _ rfl,hc 2 _ rfl⟩
structure Nw where
 pA:Option Addr
 pc:Nat
 ps:List Pt
 lA:Option Addr
 ln:Nat
 lc:Nat
def NV (n:Nw):Value:=.agg #[.slice n.pA n.ps.length n.pc,.slice n.lA n.ln n.lc]
def NwOk (w:World)(n:Nw):Prop:=Rd encPt 3 w w.heap.size n.pA n.ps
theorem NwOk.st {w w':World}{n:Nw}(h:NwOk w n)(hb:Below w.heap.size w w'):NwOk w' n:=Rd.st h hb
def zeroPt:Pt:=⟨⟨#[]⟩,0,⟨#[]⟩⟩
def hasPt (l:List Pt)(nm:ByteArray):Bool:=l.any fun p=>eqS p.name nm
end
section
open Go.RowKit Go.Lib
def cfrom_ (x y:Iv):Int:=Lib.compareInt x.1 y.1
abbrev Sl:=Option Addr×Nat×List Iv
def encS (s:Sl):List Value:=[.slice s.1 s.2.2.length s.2.1]
theorem Rd.s {w:World}{B:Nat}{A:Option Addr}{l:List Sl}(h:Rd encS 1 w B A l){i:Nat}(hi:i<l.length):
  ∃b off x,A=some ⟨b,off,none⟩∧b<B∧l[i]? =some x∧w.cell? ⟨b,off+i,none⟩=some (.slice x.1 x.2.2.length x.2.1):=by
 obtain⟨b,off,x,hA,hb,hx,hc⟩:=h.at_ hi;exact⟨b,off,x,hA,hb,hx,by simpa using hc 0 _ rfl⟩
def vf (l:List Iv):List Iv:=l.filter fun x=>validB x.1 x.2
def flt (S:List Sl):List Iv:=(S.map fun s=>vf s.2.2).flatten
def tot (S:List Sl):Nat:=(S.map fun s=>s.2.2.length).sum
end
section
open Go.RowKit Go.Lib
def prev1 (l:List Iv)(i:Nat):Int:=((l[i-1]?).map fun x=>x.1).getD 0
def prev2 (l:List Iv)(i:Nat):Int:=((l[i-1]?).map fun x=>x.2).getD 0
def offX (i:Nat)(p:Int)(o:Iv):Int:=if 0<i∧o.1≤p then 15 else if tB o.1=false∨o.2< -86400∨86400<o.2 then 1 else 0
def offE (l:List Iv)(i:Nat):Int:=((l[i]?).map fun o=>offX i (prev1 l i) o).getD 0
def downX (i:Nat)(p:Int)(o:Iv):Int:=if validB o.1 o.2=false then 12 else if 0<i∧o.1≤p then 15 else 0
def downE (l:List Iv)(i:Nat):Int:=((l[i]?).map fun o=>downX i (prev2 l i) o).getD 0
def offsE (l:List Iv):Int:=firstE (offE l) l.length
def downsE (l:List Iv):Int:=firstE (downE l) l.length
def kindB (d:Dv):Bool:=decide (1≤d.kind∧d.kind≤3∧0≤d.lane∧d.lane≤15)
def oneE (ps:List Pt)(d:Dv):Int:=if hasPt ps d.pt=false then 16 else if kindB d=false then 1 else if offsE d.os≠0 then offsE d.os else downsE d.ds
def devX (ps:List Pt)(dup:Bool)(d:Dv):Int:=if nameB d.name=false then 6 else if dup=true then 9 else oneE ps d
def devE (ps:List Pt)(l:List Dv)(i:Nat):Int:=((l[i]?).map fun d=>devX ps ((l.take i).any fun y=>eqS y.name d.name) d).getD 0
def devsE (ps:List Pt)(l:List Dv):Int:=if 1024<l.length then 3 else firstE (devE ps l) l.length
theorem offE_at {l:List Iv}{i:Nat}{o:Iv}(h:l[i]? =some o):offE l i=offX i (prev1 l i) o:=by unfold offE;rw[h];rfl
theorem downE_at {l:List Iv}{i:Nat}{o:Iv}(h:l[i]? =some o):downE l i=downX i (prev2 l i) o:=by unfold downE;rw[h];rfl
theorem devE_at {ps:List Pt}{l:List Dv}{i:Nat}{d:Dv}(h:l[i]? =some d):devE ps l i=devX ps ((l.take i).any fun y=>eqS y.name d.name) d:=by unfold devE;rw[h];rfl
theorem prev1_at {l:List Iv}{i:Nat}{o:Iv}(h:l[i-1]? =some o):prev1 l i=o.1:=by unfold prev1;rw[h];rfl
theorem prev2_at {l:List Iv}{i:Nat}{o:Iv}(h:l[i-1]? =some o):prev2 l i=o.2:=by unfold prev2;rw[h];rfl
theorem Rd.ivPrev {w:World}{B:Nat}{b off:Nat}{l:List Iv}(h:Rd encIv 2 w B (some ⟨b,off,none⟩) l){i:Nat}(h0:0<i)(hi:i<l.length):
  ∃f t,l[i-1]? =some (f,t)∧w.cell? ⟨b,off+(i-1)*2,none⟩=some (.int .i64 f)∧w.cell? ⟨b,off+(i-1)*2+1,none⟩=some (.int .i64 t):=by
 obtain⟨b',off',f,t,hA,_,hx,c0,c1⟩:=h.iv (show i-1<l.length by omega);injection hA with hA;injection hA with h1 h2;subst h1 h2;exact⟨f,t,hx,c0,c1⟩
theorem Rd.ivPrev0 {w:World}{B:Nat}{A:Option Addr}{l:List Iv}(h:Rd encIv 2 w B A l){i:Nat}(h0:0<i)(hi:i<l.length):
  ∀b off,A=some ⟨b,off,none⟩→∃f t,l[i-1]? =some (f,t)∧w.cell? ⟨b,off+(i-1)*2,none⟩=some (.int .i64 f)∧w.cell? ⟨b,off+(i-1)*2+1,none⟩=some (.int .i64 t):=by
 rintro b off rfl;exact h.ivPrev h0 hi
theorem offX_15 {i:Nat}{p:Int}{x y:Int}(h:0<i)(h2:x≤p):offX i p (x,y)=15:=by unfold offX;rw[if_pos ⟨h,h2⟩]
theorem offX_1 {i:Nat}{p:Int}{x y:Int}(h:¬(0<i∧x≤p))(h2:tB x=false∨y< -86400∨86400<y):offX i p (x,y)=1:=by unfold offX;rw[if_neg h,if_pos h2]
theorem offX_0 {i:Nat}{p:Int}{x y:Int}(h:¬(0<i∧x≤p))(h2:tB x=true)(h3:¬y< -86400)(h4:¬86400<y):offX i p (x,y)=0:=by unfold offX;rw[if_neg h,if_neg (by simp only[h2];simp;omega)]
theorem downX_12 {i:Nat}{p:Int}{x y:Int}(h:validB x y=false):downX i p (x,y)=12:=by unfold downX;rw[if_pos h]
theorem downX_15 {i:Nat}{p:Int}{x y:Int}(h:validB x y=true)(h1:0<i)(h2:x≤p):downX i p (x,y)=15:=by unfold downX;rw[if_neg (by rw[h];simp),if_pos ⟨h1,h2⟩]
theorem downX_0 {i:Nat}{p:Int}{x y:Int}(h:validB x y=true)(h1:¬(0<i∧x≤p)):downX i p (x,y)=0:=by unfold downX;rw[if_neg (by rw[h];simp),if_neg h1]
end
end Go.Proofs.YtimffppffbideaaGreatDoor
