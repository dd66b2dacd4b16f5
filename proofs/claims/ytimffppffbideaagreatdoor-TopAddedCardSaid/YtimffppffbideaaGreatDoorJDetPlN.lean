import Derived.Test.YtimffppffbideaaGreatDoorJDetSort
set_option linter.unusedSimpArgs false
set_option linter.unusedVariables false
set_option maxRecDepth 100000
set_option maxHeartbeats 8000000
namespace Go.Proofs.YtimffppffbideaaGreatDoor
section
open Go.RowKit Go.Lib
theorem plb_no {s:ByteArray}(h:plB s=false):plS s=⟨#[]⟩∧plE s=19:=by unfold plS plE;rw[h];exact⟨rfl,rfl⟩
theorem plb_yes {s:ByteArray}(h:plB s=true):plS s=⟨(plOut s s.size).toArray⟩∧plE s=0:=by unfold plS plE;rw[if_pos h,if_pos h];exact⟨rfl,rfl⟩
theorem normal_any (s:ByteArray)(hs:s.size≤1000000)(w:World):
  Calls Tryz.prog 81 #[.string s] w fun e w'=>e=.returned (.tuple #[.string (plS s),.int .i64 (plE s)])∧Below w.heap.size w w':=by
 have HNO:=hid (fun h=>plb_no (s:=s) h);have HYES:=hid (fun h=>plb_yes (s:=s) h);generalize plS s=rs at*;generalize plE s=re at*;go_enter Tryz.func81,Tryz.ntmps81;go_wp2_with fail
 go_loopw [4,9] (fun v i wr=>∃(k:Nat) (A:Option Addr) (c:Nat),k≤s.size∧i=.int .i64 k∧v=.slice A (plOut s k).length c∧Own 5 encB 1 wr w.heap.size A c (plOut s k)∧Below w.heap.size w wr∧Hid (plAll s k)∧(plOut s k).length≤10) (fun _ i _=>s.size-(RowKit.intOf i).toNat)
 case atStart=>exact⟨0,none,0,Nat.zero_le _,rfl,rfl,Own.nil _ _,Below.refl _ _,(fun i _ h=>absurd h (Nat.not_lt_zero _)),Nat.zero_le _⟩
 case round=>
  obtain⟨k,A,c,hk,rfl,rfl,hown,bW,HA,hl⟩:=hrel;by_cases hp:k<s.size
  ·obtain⟨y,hy⟩:∃y:UInt8,s[k]'hp=y:=⟨_,rfl⟩;have HA2:=hid (fun q=>plAll_succ HA.out hp q);have HB:=hid (fun q=>plB_bad hp q);have HSK:=hid (fun q=>plOut_skip hp q);have HAD:=hid (fun q=>plOut_add hp q);have HK:=hid (show k+1≤s.size by omega);have HLG:=hid (fun q=>plB_long (s:=s) (k:=k+1) (by omega) q);rw[hy]at HA2 HB HSK HAD;have hi1:(0:Int)≤(k:Int):=by omega
   have hi2:(k:Int)<(s.size:Int):=by omega
   have hw:=pl_ways y;have hyl:(y.toNat:Int)<256:=by have:=y.toNat_lt;omega
   clear hk HYES;rcases hw with⟨x,h1,h2,h3,h4,h5,h6⟩|⟨h1,h5,h6⟩|⟨h1,h5,h6⟩|⟨h1,h2,h3,h5,h6⟩|⟨h1,h2,h3,h5,h6⟩|⟨h6,n1,n2,n3,n4,n5⟩
   ·have HA2:=hid (HA2.out h6);have HO:=hid (HAD.out h5);have e1:IntKind.u8.wrap ((y.toNat:Int)-32)=(x.toNat:Int):=by rw[h4];unfold IntKind.wrap;simp[IntKind.signed,IntKind.bits];omega
    rw[h3]at HO;have t3:((x.toNat:Int)==32)=false:=by simp;omega
    have t4:((x.toNat:Int)==45)=false:=by simp;omega
    have t5:¬(x.toNat:Int)<65:=by omega
    have t6:¬90<(x.toNat:Int):=by omega
    have HLN:=hid (show(plOut s (k+1)).length=(plOut s k).length+1 by rw[HO.out];simp);clear h3 h4 h5 h6 HB HSK HAD;by_cases hten:(plOut s k).length=10
    ·have R:=hid (HNO.out (HLG.out (by rw[HLN.out,hten];omega)));have t9:(((plOut s k).length:Int)==10)=true:=by simp;omega
     clear hten;go_wp2_with fail;go_ret2;exact⟨by rw[R.out.1,R.out.2];rfl,bW⟩
    ·have t9:(((plOut s k).length:Int)==10)=false:=by simp;omega
     have hl9:(plOut s k).length≤9:=by omega
     clear hten;go_wp2_with((at_builtin;refine wpList_app1 rfl (.tmp 48) (.tmp 50) tyB encB_ok rfl x rfl _ rfl (by simp) hown rfl (by first|rfl|simp) (by first|omega|(simp;omega)) (by first|omega|(simp;omega)) bW.size ?_;intro A1 c1 w1 hown1 hb1 hs1 hf1;have hbel1:=bW.trans hb1));go_roundw;(case rel=>exact⟨k+1,A1,c1,HK.out,by go_num,by show _=Value.slice A1 (plOut s (k+1)).length c1;rw[HO.out];simp,by show Own 5 encB 1 _ w.heap.size A1 c1 (plOut s (k+1));rw[HO.out];exact hown1,hbel1,HA2,by rw[HO.out,List.length_append];simp only[List.length_cons,List.length_nil];omega⟩);(case measure=>have:=HK.out;simp[RowKit.intOf];omega)
   ·have HA2:=hid (HA2.out h6);have HO:=hid (HSK.out h5);have t1:¬97≤(y.toNat:Int):=by omega
    have t3:((y.toNat:Int)==32)=true:=by simp[h1]
    clear h5 h6 HB HSK HAD h1;go_wp2_with fail;go_roundw;(case rel=>exact⟨k+1,A,c,HK.out,by go_num,by show _=Value.slice A (plOut s (k+1)).length c;rw[HO.out],by show Own 5 encB 1 _ w.heap.size A c (plOut s (k+1));rw[HO.out];exact hown,bW,HA2,by rw[HO.out];exact hl⟩);(case measure=>have:=HK.out;simp[RowKit.intOf];omega)
   ·have HA2:=hid (HA2.out h6);have HO:=hid (HSK.out h5);have t1:¬97≤(y.toNat:Int):=by omega
    have t3:((y.toNat:Int)==32)=false:=by simp[h1]
    have t4:((y.toNat:Int)==45)=true:=by simp[h1]
    clear h5 h6 HB HSK HAD h1;go_wp2_with fail;go_roundw;(case rel=>exact⟨k+1,A,c,HK.out,by go_num,by show _=Value.slice A (plOut s (k+1)).length c;rw[HO.out],by show Own 5 encB 1 _ w.heap.size A c (plOut s (k+1));rw[HO.out];exact hown,bW,HA2,by rw[HO.out];exact hl⟩);(case measure=>have:=HK.out;simp[RowKit.intOf];omega)
   ·have HA2:=hid (HA2.out h6);have HO:=hid (HAD.out h5);rw[h3]at HO;have t3:((y.toNat:Int)==32)=false:=by simp;omega
    have t4:((y.toNat:Int)==45)=false:=by simp;omega
    have t1:¬97≤(y.toNat:Int):=by omega
    have t5:¬(y.toNat:Int)<65:=by omega
    have t6:¬90<(y.toNat:Int):=by omega
    have HLN:=hid (show(plOut s (k+1)).length=(plOut s k).length+1 by rw[HO.out];simp);clear h3 h5 h6 HB HSK HAD;by_cases hten:(plOut s k).length=10
    ·have R:=hid (HNO.out (HLG.out (by rw[HLN.out,hten];omega)));have t9:(((plOut s k).length:Int)==10)=true:=by simp;omega
     clear hten;go_wp2_with fail;go_ret2;exact⟨by rw[R.out.1,R.out.2];rfl,bW⟩
    ·have t9:(((plOut s k).length:Int)==10)=false:=by simp;omega
     have hl9:(plOut s k).length≤9:=by omega
     clear hten;go_wp2_with((at_builtin;refine wpList_app1 rfl (.tmp 48) (.tmp 50) tyB encB_ok rfl y rfl _ rfl (by simp) hown rfl (by first|rfl|simp) (by first|omega|(simp;omega)) (by first|omega|(simp;omega)) bW.size ?_;intro A1 c1 w1 hown1 hb1 hs1 hf1;have hbel1:=bW.trans hb1));go_roundw;(case rel=>exact⟨k+1,A1,c1,HK.out,by go_num,by show _=Value.slice A1 (plOut s (k+1)).length c1;rw[HO.out];simp,by show Own 5 encB 1 _ w.heap.size A1 c1 (plOut s (k+1));rw[HO.out];exact hown1,hbel1,HA2,by rw[HO.out,List.length_append];simp only[List.length_cons,List.length_nil];omega⟩);(case measure=>have:=HK.out;simp[RowKit.intOf];omega)
   ·have HA2:=hid (HA2.out h6);have HO:=hid (HAD.out h5);rw[h3]at HO;have t3:((y.toNat:Int)==32)=false:=by simp;omega
    have t4:((y.toNat:Int)==45)=false:=by simp;omega
    have t1:¬97≤(y.toNat:Int):=by omega
    have t5:(y.toNat:Int)<65:=by omega
    have t7:¬(y.toNat:Int)<48:=by omega
    have t8:¬57<(y.toNat:Int):=by omega
    have HLN:=hid (show(plOut s (k+1)).length=(plOut s k).length+1 by rw[HO.out];simp);clear h3 h5 h6 HB HSK HAD;by_cases hten:(plOut s k).length=10
    ·have R:=hid (HNO.out (HLG.out (by rw[HLN.out,hten];omega)));have t9:(((plOut s k).length:Int)==10)=true:=by simp;omega
     clear hten;go_wp2_with fail;go_ret2;exact⟨by rw[R.out.1,R.out.2];rfl,bW⟩
    ·have t9:(((plOut s k).length:Int)==10)=false:=by simp;omega
     have hl9:(plOut s k).length≤9:=by omega
     clear hten;go_wp2_with((at_builtin;refine wpList_app1 rfl (.tmp 48) (.tmp 50) tyB encB_ok rfl y rfl _ rfl (by simp) hown rfl (by first|rfl|simp) (by first|omega|(simp;omega)) (by first|omega|(simp;omega)) bW.size ?_;intro A1 c1 w1 hown1 hb1 hs1 hf1;have hbel1:=bW.trans hb1));go_roundw;(case rel=>exact⟨k+1,A1,c1,HK.out,by go_num,by show _=Value.slice A1 (plOut s (k+1)).length c1;rw[HO.out];simp,by show Own 5 encB 1 _ w.heap.size A1 c1 (plOut s (k+1));rw[HO.out];exact hown1,hbel1,HA2,by rw[HO.out,List.length_append];simp only[List.length_cons,List.length_nil];omega⟩);(case measure=>have:=HK.out;simp[RowKit.intOf];omega)
   ·have R:=hid (HNO.out (HB.out h6));have t3:((y.toNat:Int)==32)=false:=by simp;omega
    have t4:((y.toNat:Int)==45)=false:=by simp;omega
    have hw2:(y.toNat:Int)<48∨(57<(y.toNat:Int)∧(y.toNat:Int)<65)∨(90<(y.toNat:Int)∧(y.toNat:Int)<97)∨122<(y.toNat:Int):=by omega
    clear h6 n1 n2 n3 n4 n5 HB HSK HAD;rcases hw2 with u1|⟨u1,u2⟩|⟨u1,u2⟩|u1
    ·have t1:¬97≤(y.toNat:Int):=by omega
     have t5:(y.toNat:Int)<65:=by omega
     go_wp2_with fail;go_ret2;exact⟨by rw[R.out.1,R.out.2];rfl,bW⟩
    ·have t1:¬97≤(y.toNat:Int):=by omega
     have t7:¬(y.toNat:Int)<48:=by omega
     go_wp2_with fail;go_ret2;exact⟨by rw[R.out.1,R.out.2];rfl,bW⟩
    ·have t1:¬97≤(y.toNat:Int):=by omega
     have t5:¬(y.toNat:Int)<65:=by omega
     have t7:¬(y.toNat:Int)<48:=by omega
     have t8:57<(y.toNat:Int):=by omega
     go_wp2_with fail;go_ret2;exact⟨by rw[R.out.1,R.out.2];rfl,bW⟩
    ·have t1:97≤(y.toNat:Int):=by omega
     have t2:¬(y.toNat:Int)≤122:=by omega
     have t5:¬(y.toNat:Int)<65:=by omega
     have t6:90<(y.toNat:Int):=by omega
     have t7:¬(y.toNat:Int)<48:=by omega
     have t8:57<(y.toNat:Int):=by omega
     go_wp2_with fail;go_ret2;exact⟨by rw[R.out.1,R.out.2];rfl,bW⟩
  ·obtain rfl:k=s.size:=by omega
   have HE:=hid (plB_end HA.out);have hi2:¬(s.size:Int)<(s.size:Int):=by omega
   clear HA hk hp;by_cases h2:(plOut s s.size).length<2
   ·have R:=hid (HNO.out (by rw[HE.out,decide_eq_false (by omega:¬2≤(plOut s s.size).length)];rfl));have t2:((plOut s s.size).length:Int)<2:=by omega
    clear h2 HYES;go_wp2_with fail;go_ret2;exact⟨by rw[R.out.1,R.out.2];rfl,bW⟩
   ·have R:=hid (HYES.out (by rw[HE.out,decide_eq_true (by omega:2≤(plOut s s.size).length),decide_eq_true hl];rfl));have t2:¬((plOut s s.size).length:Int)<2:=by omega
    rcases hown.form with⟨_,hn,_⟩|⟨g,hA,_⟩
    ·rw[hn]at h2;simp at h2
    ·subst hA;have hcv:(convert 212 9 (.slice (some ⟨g,0,none⟩) (plOut s s.size).length c)).run Tryz.prog wr=.ok (.string ⟨(plOut s s.size).toArray⟩) wr:=
      run_convert_bytes_back wr 212 9 5 ⟨g,0,none⟩ c (plOut s s.size) Tryz.underlying212 Tryz.underlying5 Tryz.underlying9 (fun j hj=>by
       have:=hown.cells encB_ok rfl (i:=j) (x:=(plOut s s.size)[j]) (List.getElem?_eq_getElem hj) (j:=0) (u:=.int .u8 ((plOut s s.size)[j].toNat:Int)) rfl
       rw[show(⟨g,0,none⟩:Addr).add j=⟨g,j,none⟩ by unfold Addr.add;split<;>simp_all];simpa using this)
     clear h2 HNO;go_wp2_with fail
     go_ret2;exact⟨by rw[R.out.1,R.out.2];rfl,bW⟩
end
section
open Go.RowKit Go.Lib
end
section
open Go.RowKit Go.Lib
def fitsB (kd:Int)(d:Dt):Bool:=
 if kd=1 then tagB d.tag&&(eqS d.pl ⟨#[]⟩&&d.ax==0)
 else if kd=2 then plB d.pl&&(eqS (plS d.pl) d.pl&&(eqS d.tag ⟨#[]⟩&&d.ax==0))
 else if kd=3 then decide (1≤d.ax)&&(decide (d.ax≤20)&&(eqS d.tag ⟨#[]⟩&&eqS d.pl ⟨#[]⟩))
 else false
theorem toList_ne {a:ByteArray}(h:¬a=⟨#[]⟩):¬a.toList=[]:=by
 intro q;apply h
 rw[ByteArray.toList_eq]at q;cases a;simp only[ByteArray.mk.injEq]
 exact Array.toList_eq_nil_iff.1 q
theorem toList_nempty {a:ByteArray}(h:¬a=⟨#[]⟩):a.toList.isEmpty=false:=by
 cases q:a.toList with
 |nil=>exact absurd q (toList_ne h)
 |cons _ _=>rfl
theorem toList_beq {a:ByteArray}(h:¬a=⟨#[]⟩):(a.toList==[])=false:=by
 cases q:a.toList with
 |nil=>exact absurd q (toList_ne h)
 |cons _ _=>rfl
theorem fits_any (kd:Int)(d:Dt)(hsz:SzD d)(w:World):Calls Tryz.prog 44 #[.int .i64 kd,DtV d] w fun e w'=>e=.returned (.bool (fitsB kd d))∧Below w.heap.size w w':=by
 obtain⟨dev,seq,tm,tg,pl,ax,sc⟩:=d;have CT:=hid (fun(X:World)=>tagcheck_any tg X);have CP:=hid (fun(X:World)=>normal_any pl (by have:=hsz.2.2;simp only at this;omega) X);obtain⟨Y1,hY1⟩:∃Y,w.alloc (.cells #[.string dev,.int .i64 seq,.int .i64 tm,.string tg,.string pl,.int .i64 ax,.int .i64 sc] 61)=Y:=⟨_,rfl⟩;have bW:Below w.heap.size w Y1:=by rw[←hY1];exact(Below.refl _ w).al _
 have BA:Blk Y1 w.heap.size #[.string dev,.int .i64 seq,.int .i64 tm,.string tg,.string pl,.int .i64 ax,.int .i64 sc] 61:=by rw[←hY1];exact Blk.new w _ _
 have k3:=BA.cell 3 (v:=.string tg) rfl;have k4:=BA.cell 4 (v:=.string pl) rfl;have k5:=BA.cell 5 (v:=.int .i64 ax) rfl;simp only[DtV];clear hsz;generalize hr:fitsB kd _=r;have HR:=hid hr;clear hr;simp only[fitsB]at HR;by_cases q1:kd=1
 ·subst q1;cases ht:tagB tg
  ·rw[ht]at CT;have R:Hid (r=false):=hid (by rw[←HR.out];simp[ht]);clear HR;clear ht CP;go_enter Tryz.func44,Tryz.ntmps44;go_wp2_with fail
   refine(CT.out _).mono ?_;rintro e wn ⟨rfl,hbn⟩;have bW:=bW.st hbn;have BA:=BA.below hbn BA.lt;have k3:=BA.cell 3 rfl;have k4:=BA.cell 4 rfl;have k5:=BA.cell 5 rfl;go_wp2_with fail
   go_ret;exact⟨by rw[R.out];rfl,bW⟩
  ·rw[ht]at CT;by_cases hpl:pl=⟨#[]⟩
   ·subst hpl;by_cases hax:ax=0
    ·subst hax;have R:Hid (r=true):=hid (by rw[←HR.out];simp[ht,eqS_refl]);clear HR;clear ht CP;go_enter Tryz.func44,Tryz.ntmps44;go_wp2_with fail
     refine(CT.out _).mono ?_;rintro e wn ⟨rfl,hbn⟩;have bW:=bW.st hbn;have BA:=BA.below hbn BA.lt;have k3:=BA.cell 3 rfl;have k4:=BA.cell 4 rfl;have k5:=BA.cell 5 rfl;go_wp2_with fail
     go_ret;exact⟨by rw[R.out];rfl,bW⟩
    ·have qa:(ax==0)=false:=by simp[hax]
     have R:Hid (r=false):=hid (by rw[←HR.out];simp[ht,hax,eqS_refl]);clear HR;clear ht hax CP;go_enter Tryz.func44,Tryz.ntmps44;go_wp2_with fail
     refine(CT.out _).mono ?_;rintro e wn ⟨rfl,hbn⟩;have bW:=bW.st hbn;have BA:=BA.below hbn BA.lt;have k3:=BA.cell 3 rfl;have k4:=BA.cell 4 rfl;have k5:=BA.cell 5 rfl;go_wp2_with fail
     go_ret;exact⟨by rw[R.out];rfl,bW⟩
   ·have qp:eqS pl ⟨#[]⟩=false:=by rw[Bool.eq_false_iff];exact fun h=>hpl ((eqS_iff _ _).1 h)
    have R:Hid (r=false):=hid (by rw[←HR.out];simp[ht,qp]);have npl:¬pl.toList=[]:=toList_ne hpl;have mpl:pl.toList.isEmpty=false:=toList_nempty hpl;have opl:(pl.toList==[])=false:=toList_beq hpl;clear HR;clear ht hpl qp CP;go_enter Tryz.func44,Tryz.ntmps44;go_wp2_with fail
    refine(CT.out _).mono ?_;rintro e wn ⟨rfl,hbn⟩;have bW:=bW.st hbn;have BA:=BA.below hbn BA.lt;have k3:=BA.cell 3 rfl;have k4:=BA.cell 4 rfl;have k5:=BA.cell 5 rfl;go_wp2_with fail
    go_ret;exact⟨by rw[R.out];rfl,bW⟩
 ·have q1b:(kd==1)=false:=by simp[q1]
  by_cases q2:kd=2
  ·subst q2;clear q1 CT;cases hp:plB pl
   ·rw[(plb_no hp).1,(plb_no hp).2]at CP;have R:Hid (r=false):=hid (by rw[←HR.out];simp[hp]);clear HR;clear hp;go_enter Tryz.func44,Tryz.ntmps44;go_wp2_with fail
    refine(CP.out _).mono ?_;rintro e wn ⟨rfl,hbn⟩;have bW:=bW.st hbn;have BA:=BA.below hbn BA.lt;have k3:=BA.cell 3 rfl;have k4:=BA.cell 4 rfl;have k5:=BA.cell 5 rfl;go_wp2_with fail
    go_ret;exact⟨by rw[R.out];rfl,bW⟩
   ·rw[(plb_yes hp).2]at CP;cases he:eqS (plS pl) pl
    ·have e1:((plS pl).toList==pl.toList)=false:=he;generalize hps:plS pl=ps at*;have R:Hid (r=false):=hid (by rw[←HR.out];simp[hp,he]);clear HR;clear hp he hps;go_enter Tryz.func44,Tryz.ntmps44;go_wp2_with fail
     refine(CP.out _).mono ?_;rintro e wn ⟨rfl,hbn⟩;have bW:=bW.st hbn;have BA:=BA.below hbn BA.lt;have k3:=BA.cell 3 rfl;have k4:=BA.cell 4 rfl;have k5:=BA.cell 5 rfl;go_wp2_with fail
     go_ret;exact⟨by rw[R.out];rfl,bW⟩
    ·have e0:plS pl=pl:=(eqS_iff _ _).1 he;rw[e0]at CP he HR;have e1:(pl.toList==pl.toList)=true:=by simp
     clear e0;by_cases htg:tg=⟨#[]⟩
     ·subst htg;by_cases hax:ax=0
      ·subst hax;have R:Hid (r=true):=hid (by rw[←HR.out];simp[hp,eqS_refl]);clear HR;clear hp he;go_enter Tryz.func44,Tryz.ntmps44;go_wp2_with fail
       refine(CP.out _).mono ?_;rintro e wn ⟨rfl,hbn⟩;have bW:=bW.st hbn;have BA:=BA.below hbn BA.lt;have k3:=BA.cell 3 rfl;have k4:=BA.cell 4 rfl;have k5:=BA.cell 5 rfl;go_wp2_with fail
       go_ret;exact⟨by rw[R.out];rfl,bW⟩
      ·have qa:(ax==0)=false:=by simp[hax]
       have R:Hid (r=false):=hid (by rw[←HR.out];simp[hp,hax,eqS_refl]);clear HR;clear hp he hax;go_enter Tryz.func44,Tryz.ntmps44;go_wp2_with fail
       refine(CP.out _).mono ?_;rintro e wn ⟨rfl,hbn⟩;have bW:=bW.st hbn;have BA:=BA.below hbn BA.lt;have k3:=BA.cell 3 rfl;have k4:=BA.cell 4 rfl;have k5:=BA.cell 5 rfl;go_wp2_with fail
       go_ret;exact⟨by rw[R.out];rfl,bW⟩
     ·have qp:eqS tg ⟨#[]⟩=false:=by rw[Bool.eq_false_iff];exact fun h=>htg ((eqS_iff _ _).1 h)
      have R:Hid (r=false):=hid (by rw[←HR.out];simp[hp,qp]);have ntg:¬tg.toList=[]:=toList_ne htg;have mtg:tg.toList.isEmpty=false:=toList_nempty htg;have otg:(tg.toList==[])=false:=toList_beq htg;clear HR;clear hp he htg qp;go_enter Tryz.func44,Tryz.ntmps44;go_wp2_with fail
      refine(CP.out _).mono ?_;rintro e wn ⟨rfl,hbn⟩;have bW:=bW.st hbn;have BA:=BA.below hbn BA.lt;have k3:=BA.cell 3 rfl;have k4:=BA.cell 4 rfl;have k5:=BA.cell 5 rfl;go_wp2_with fail
      go_ret;exact⟨by rw[R.out];rfl,bW⟩
  ·have q2b:(kd==2)=false:=by simp[q2]
   clear CT CP;by_cases q3:kd=3
   ·subst q3;clear q1 q2;by_cases a1:1≤ax
    ·by_cases a2:ax≤20
     ·by_cases htg:tg=⟨#[]⟩
      ·subst htg;by_cases hpl:pl=⟨#[]⟩
       ·subst hpl;have R:Hid (r=true):=hid (by rw[←HR.out];simp[a1,a2,eqS_refl]);clear HR;go_enter Tryz.func44,Tryz.ntmps44;go_wp2_with fail
        go_ret;exact⟨by rw[R.out];rfl,bW⟩
       ·have qp:eqS pl ⟨#[]⟩=false:=by rw[Bool.eq_false_iff];exact fun h=>hpl ((eqS_iff _ _).1 h)
        have R:Hid (r=false):=hid (by rw[←HR.out];simp[a1,a2,qp]);have npl:¬pl.toList=[]:=toList_ne hpl;have mpl:pl.toList.isEmpty=false:=toList_nempty hpl;have opl:(pl.toList==[])=false:=toList_beq hpl;clear HR;clear hpl qp;go_enter Tryz.func44,Tryz.ntmps44;go_wp2_with fail
        go_ret;exact⟨by rw[R.out];rfl,bW⟩
      ·have qp:eqS tg ⟨#[]⟩=false:=by rw[Bool.eq_false_iff];exact fun h=>htg ((eqS_iff _ _).1 h)
       have R:Hid (r=false):=hid (by rw[←HR.out];simp[a1,a2,qp]);have ntg:¬tg.toList=[]:=toList_ne htg;have mtg:tg.toList.isEmpty=false:=toList_nempty htg;have otg:(tg.toList==[])=false:=toList_beq htg;clear HR;clear htg qp;go_enter Tryz.func44,Tryz.ntmps44;go_wp2_with fail
       go_ret;exact⟨by rw[R.out];rfl,bW⟩
     ·have R:Hid (r=false):=hid (by rw[←HR.out];simp[a1,a2]);clear HR;go_enter Tryz.func44,Tryz.ntmps44;go_wp2_with fail
      go_ret;exact⟨by rw[R.out];rfl,bW⟩
    ·have R:Hid (r=false):=hid (by rw[←HR.out];simp[a1]);clear HR;go_enter Tryz.func44,Tryz.ntmps44;go_wp2_with fail
     go_ret;exact⟨by rw[R.out];rfl,bW⟩
   ·have q3b:(kd==3)=false:=by simp[q3]
    have R:Hid (r=false):=hid (by rw[←HR.out];simp[q1,q2,q3]);clear HR;clear q1 q2 q3;go_enter Tryz.func44,Tryz.ntmps44;go_wp2_with fail
    go_ret;exact⟨by rw[R.out];rfl,bW⟩
end
end Go.Proofs.YtimffppffbideaaGreatDoor
