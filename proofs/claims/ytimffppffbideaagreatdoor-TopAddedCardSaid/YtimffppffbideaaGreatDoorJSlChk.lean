import Derived.Test.YtimffppffbideaaGreatDoorJUsedM
import Derived.Test.YtimffppffbideaaGreatDoorJRjStabSymB
set_option linter.unusedSimpArgs false
set_option linter.unusedVariables false
set_option maxRecDepth 100000
set_option maxHeartbeats 8000000
namespace Go.Proofs.YtimffppffbideaaGreatDoor
section
open Go.RowKit Go.Lib Go.Sort
open Mat
def AnyI (e:Ending):Prop:=∃n:Int,e=.returned (.int .i64 n)
theorem known_any (n:Int)(w:World):Calls Tryz.prog 37 #[.int .i64 n] w fun e w'=>e=.returned (.bool (decide (1≤n)&&decide (n≤9)))∧w'=w:=by
 by_cases h1:1≤n
 ·by_cases h2:n≤9
  ·rw[decide_eq_true h1,decide_eq_true h2];go_enter Tryz.func37,Tryz.ntmps37;go_wp2_with fail
   go_ret;exact⟨rfl,rfl⟩
  ·rw[decide_eq_true h1,decide_eq_false h2];go_enter Tryz.func37,Tryz.ntmps37;go_wp2_with fail
   go_ret;exact⟨rfl,rfl⟩
 ·rw[decide_eq_false h1];go_enter Tryz.func37,Tryz.ntmps37;go_wp2_with fail
  go_ret;exact⟨rfl,rfl⟩
theorem clschk_any {A:Option Addr}(c:Nat){l:List Cl}{w:World}(h:Rd encCl 3 w w.heap.size A l)(hl:l.length≤100000):
  Calls Tryz.prog 18 #[.slice A l.length c] w fun e w'=>AnyI e∧Below w.heap.size w w':=by
 have HR:=hid h;obtain⟨n,hn⟩:∃n,l.length=n:=⟨_,rfl⟩;have HN:=hid hn;have HB0:=hid (Below.refl w.heap.size w);rw[hn]at hl ⊢;clear h hn;by_cases h9:9<n
 ·have h9i:(9:Int)<(n:Int):=by omega
  go_enter Tryz.func18,Tryz.ntmps18;go_wp2_with fail
  go_ret;exact⟨⟨_,rfl⟩,HB0.out⟩
 have h9i:¬(9:Int)<(n:Int):=by omega
 go_enter Tryz.func18,Tryz.ntmps18;go_wp2_with fail
 go_loopw [3] (fun si wx=>∃i:Nat,i≤n∧si=.int .i64 i∧Hid (Below w.heap.size w wx)) (fun si _=>n-(RowKit.intOf si).toNat)
 case atStart=>exact⟨0,Nat.zero_le _,rfl,HB0⟩
 case round=>
  obtain⟨i,hi,rfl,HB⟩:=hrel;have i0:(0:Int)≤(i:Int):=by omega
  by_cases hin:i<n
  ·obtain⟨b,off,x,rfl,hbl,hx,hc⟩:=(HR.out.st HB.out).at_ (i:=i) (by rw[HN.out];exact hin);have HI:=hid hin;have HBL:=hid (show b<w.heap.size by obtain⟨b2,o2,y2,hA,hb,_⟩:=HR.out.at_ (i:=i) (by rw[HN.out];exact hin);injection hA with hA;injection hA with hA;omega);have i1:(i:Int)<(n:Int):=by omega
   have i2:decide (i<n)=true:=decide_eq_true hin;have HCC:=hid (fun(k:Nat) (hk:k<n) (X:World) (hX:Below w.heap.size w X)=>show∃v2 v3:Int,X.cell? ⟨b,off+k*3+1,none⟩=some (.int .i64 v2)∧X.cell? ⟨b,off+k*3+2,none⟩=some (.int .i64 v3) by
    have hx2:l[k]? =some (l[k]'(by rw[HN.out];exact hk)):=List.getElem?_eq_getElem _;exact⟨_,_,(HR.out.st hX).cellAt hx2 (j:=1) rfl,(HR.out.st hX).cellAt hx2 (j:=2) rfl⟩)
   have HC2:=hid (fun(X:World) (hX:Below w.heap.size w X)=>show X.cell? ⟨b,off+i*3+2,none⟩=some (.int .i64 x.cl)from(HR.out.st hX).cellAt hx (j:=2) rfl);have HC0:=hid (fun(X:World) (hX:Below w.heap.size w X)=>show X.cell? ⟨b,off+i*3,none⟩=some (.int .i64 x.frm) by have:=(HR.out.st hX).cellAt hx (j:=0) (u:=.int .i64 x.frm) rfl;simpa using this);obtain⟨s1,s2,s3⟩:=x;simp only at HC2 HC0;have e0:wr.cell? ⟨b,off+i*3,none⟩=some (.int .i64 s1):=by simpa using hc 0 _ rfl
   have e1:wr.cell? ⟨b,off+i*3+1,none⟩=some (.int .i64 s2):=hc 1 _ rfl;have e2:wr.cell? ⟨b,off+i*3+2,none⟩=some (.int .i64 s3):=hc 2 _ rfl;have CK:=hid (fun(X:World)=>known_any s3 X);clear hc hbl hx hi hin;go_upto_region 6 with fail
   by_cases g1:s1<1
   ·have g1d:decide (s1<1)=true:=decide_eq_true g1;go_quiet(fail)
    generalize hY:wr.drewN _=Y;have HBN:Hid (Below w.heap.size w Y):=hid (by rw[←hY];exact below_drewN HB.out _);clear hY;go_wp2_with fail
    go_ret;exact⟨⟨_,rfl⟩,HBN.out⟩
   have g1d:decide (s1<1)=false:=decide_eq_false g1;by_cases g2:s2<s1
   ·have g2d:decide (s2<s1)=true:=decide_eq_true g2;go_quiet(fail)
    generalize hY:wr.drewN _=Y;have HBN:Hid (Below w.heap.size w Y):=hid (by rw[←hY];exact below_drewN HB.out _);clear hY;go_wp2_with fail
    go_ret;exact⟨⟨_,rfl⟩,HBN.out⟩
   have g2d:decide (s2<s1)=false:=decide_eq_false g2;by_cases g3:20<s2
   ·have g3d:decide (20<s2)=true:=decide_eq_true g3;go_quiet(fail)
    generalize hY:wr.drewN _=Y;have HBN:Hid (Below w.heap.size w Y):=hid (by rw[←hY];exact below_drewN HB.out _);clear hY;go_wp2_with fail
    go_ret;exact⟨⟨_,rfl⟩,HBN.out⟩
   have g3d:decide (20<s2)=false:=decide_eq_false g3;go_quiet(fail)
   generalize hY:wr.drewN _=Y;have HBN:Hid (Below w.heap.size w Y):=hid (by rw[←hY];exact below_drewN HB.out _);clear hY;clear g1 g2 g3 g1d g2d g3d e0 e1 e2;have e2:=HC2.out Y HBN.out;go_wp2_with fail
   with_reducible refine(CK.out Y).mono ?_
   rintro e Wk ⟨rfl,hw⟩;rw[hw];clear hw Wk CK;cases hk:(decide (1≤s3)&&decide (s3≤9))
   ·clear hk;go_wp2_with fail
    go_ret;exact⟨⟨_,rfl⟩,HBN.out⟩
   clear hk;have e0:=HC0.out Y HBN.out;go_upto_region 10 with fail
   by_cases hz:i=0
   ·have z1:decide ((0:Int)<(i:Int))=false:=by simp;omega
    have z2:decide (0<i)=false:=decide_eq_false (by omega);have z3:¬(0:Int)<(i:Int):=by omega
    clear hz;go_quiet(fail)
    generalize hY2:Y.drewN _=Y2;have HB2:Hid (Below w.heap.size w Y2):=hid (by rw[←hY2];exact below_drewN HBN.out _);clear hY2 e0;go_wp2_with fail
    go_loopw [4] (fun sk wx=>∃k:Nat,k≤i∧sk=.int .i64 k∧Hid (Below w.heap.size w wx)) (fun sk _=>i-(RowKit.intOf sk).toNat)
    case atStart=>exact⟨0,Nat.zero_le _,rfl,HB2⟩
    case round=>
     obtain⟨wo,rfl⟩:∃wo,wo=wr:=⟨_,rfl⟩;obtain⟨k,hk,rfl,HBK⟩:=hrel;have k0:(0:Int)≤(k:Int):=by omega
     by_cases hki:k<i
     ·have HKI:=hid hki;have hin:=HI.out;obtain⟨v2,v3,hv2,hv3⟩:=HCC.out k (by omega) wo HBK.out;have e2:=HC2.out wo HBK.out;have k1:(k:Int)<(i:Int):=by omega
      have k2:decide (k<i)=true:=decide_eq_true hki;have k3:(k:Int)<(n:Int):=by omega
      have k4:decide (k<n)=true:=decide_eq_true (by omega);clear hki hk hin;by_cases hv:v3=s3
      ·have hvb:(v3==s3)=true:=by simp[hv]
       clear hv;go_wp2_with fail
       go_quiet(fail)
       generalize hY3:wo.drewN _=Y3;have HBN:Hid (Below w.heap.size w Y3):=hid (by rw[←hY3];exact below_drewN HBK.out _);clear hY3;go_wp2_with fail
       go_ret;exact⟨⟨_,rfl⟩,HBN.out⟩
      ·have hvb:(v3==s3)=false:=by simp[hv]
       clear hv;go_wp2_with fail
       go_quiet(fail)
       generalize hY3:wo.drewN _=Y3;have HBN:Hid (Below w.heap.size w Y3):=hid (by rw[←hY3];exact below_drewN HBK.out _);clear hY3 hv2 hv3 e2;go_wp2_with fail
       go_roundw
       case rel=>exact⟨k+1,HKI.out,by go_num,HBN⟩
       case measure=>have:=HKI.out;simp[RowKit.intOf];omega
     ·obtain rfl:i=k:=by omega
      clear hk hki;go_wp2_with fail
      go_roundw
      case rel=>exact⟨i+1,HI.out,by go_num,HBK⟩
      case measure=>have:=HI.out;simp[RowKit.intOf];omega
   ·obtain⟨m,hm⟩:∃m:Nat,i=m+1:=⟨i-1,by omega⟩;have hin:=HI.out;obtain⟨v2,v3,hv2,hv3⟩:=HCC.out m (by omega) Y HBN.out;have w1:IntKind.i64.wrap ((i:Int)-1)=(m:Int):=IntWalk.i64_in _ (by omega)|>.trans (by omega);have m0:(0:Int)≤(m:Int):=by omega
    have m1:(m:Int)<(n:Int):=by omega
    have m2:decide (m<n)=true:=decide_eq_true (by omega);have z1:decide ((0:Int)<(i:Int))=true:=by simp;omega
    have z2:decide (0<i)=true:=decide_eq_true (by omega);have z3:(0:Int)<(i:Int):=by omega
    clear hz hm hin;by_cases hle:s1≤v2
    ·have hd:decide (s1≤v2)=true:=decide_eq_true hle;go_quiet(fail)
     generalize hY2:Y.drewN _=Y2;have HBN:Hid (Below w.heap.size w Y2):=hid (by rw[←hY2];exact below_drewN HBN.out _);clear hY2;go_wp2_with fail
     go_ret;exact⟨⟨_,rfl⟩,HBN.out⟩
    have hd:decide (s1≤v2)=false:=decide_eq_false hle;go_quiet(fail)
    generalize hY2:Y.drewN _=Y2;have HB2:Hid (Below w.heap.size w Y2):=hid (by rw[←hY2];exact below_drewN HBN.out _);clear hY2 e0 hv2 hv3;go_wp2_with fail
    go_loopw [4] (fun sk wx=>∃k:Nat,k≤i∧sk=.int .i64 k∧Hid (Below w.heap.size w wx)) (fun sk _=>i-(RowKit.intOf sk).toNat)
    case atStart=>exact⟨0,Nat.zero_le _,rfl,HB2⟩
    case round=>
     obtain⟨wo,rfl⟩:∃wo,wo=wr:=⟨_,rfl⟩;obtain⟨k,hk,rfl,HBK⟩:=hrel;have k0:(0:Int)≤(k:Int):=by omega
     by_cases hki:k<i
     ·have HKI:=hid hki;have hin:=HI.out;obtain⟨v2,v3,hv2,hv3⟩:=HCC.out k (by omega) wo HBK.out;have e2:=HC2.out wo HBK.out;have k1:(k:Int)<(i:Int):=by omega
      have k2:decide (k<i)=true:=decide_eq_true hki;have k3:(k:Int)<(n:Int):=by omega
      have k4:decide (k<n)=true:=decide_eq_true (by omega);clear hki hk hin;by_cases hv:v3=s3
      ·have hvb:(v3==s3)=true:=by simp[hv]
       clear hv;go_wp2_with fail
       go_quiet(fail)
       generalize hY3:wo.drewN _=Y3;have HBN:Hid (Below w.heap.size w Y3):=hid (by rw[←hY3];exact below_drewN HBK.out _);clear hY3;go_wp2_with fail
       go_ret;exact⟨⟨_,rfl⟩,HBN.out⟩
      ·have hvb:(v3==s3)=false:=by simp[hv]
       clear hv;go_wp2_with fail
       go_quiet(fail)
       generalize hY3:wo.drewN _=Y3;have HBN:Hid (Below w.heap.size w Y3):=hid (by rw[←hY3];exact below_drewN HBK.out _);clear hY3 hv2 hv3 e2;go_wp2_with fail
       go_roundw
       case rel=>exact⟨k+1,HKI.out,by go_num,HBN⟩
       case measure=>have:=HKI.out;simp[RowKit.intOf];omega
     ·obtain rfl:i=k:=by omega
      clear hk hki;go_wp2_with fail
      go_roundw
      case rel=>exact⟨i+1,HI.out,by go_num,HBK⟩
      case measure=>have:=HI.out;simp[RowKit.intOf];omega
  ·obtain rfl:n=i:=by omega
   clear hi hin;have HBN:=HB;go_wp2_with fail
   go_ret;exact⟨⟨_,rfl⟩,HBN.out⟩
end
section
open Go.RowKit Go.Lib Go.Sort
open Mat
def AnyB (e:Ending):Prop:=∃b:Bool,e=.returned (.bool b)
theorem after_any (s1 t1:ByteArray)(s2 s3 t2 t3:Int)(w:World):Calls Tryz.prog 36 #[.agg #[.string s1,.int .i64 s2,.int .i64 s3],.agg #[.string t1,.int .i64 t2,.int .i64 t3]] w fun e w'=>AnyB e∧Below w.heap.size w w':=by
 obtain⟨Y1,hY1⟩:∃Y,w.alloc (.cells #[.string s1,.int .i64 s2,.int .i64 s3] 107)=Y:=⟨_,rfl⟩;obtain⟨Y2,hY2⟩:∃Y,Y1.alloc (.cells #[.string t1,.int .i64 t2,.int .i64 t3] 107)=Y:=⟨_,rfl⟩;have q1:Y1.heap.size=w.heap.size+1:=by rw[←hY1];simp
 have b2:Below w.heap.size w Y2:=by rw[←hY2,←hY1];exact((Below.refl _ w).al _).al _
 have B1:Blk Y2 w.heap.size #[.string s1,.int .i64 s2,.int .i64 s3] 107:=by rw[←hY2,←hY1];exact(Blk.new w _ _).alloc _
 have B2:Blk Y2 (w.heap.size+1) #[.string t1,.int .i64 t2,.int .i64 t3] 107:=by rw[←q1,←hY2];exact Blk.new Y1 _ _
 have a0:=B1.cell 0 (v:=.string s1) rfl;have a1:=B1.cell 1 (v:=.int .i64 s2) rfl;have c0:=B2.cell 0 (v:=.string t1) rfl;have c1:=B2.cell 1 (v:=.int .i64 t2) rfl;have HB:=hid b2;have tn:(s1.toList !=t1.toList)= !eqS s1 t1:=rfl;have te:(s1.toList==t1.toList)=eqS s1 t1:=rfl;clear b2 B1 B2;cases hq:eqS s1 t1
 ·rw[hq]at tn te;clear hq;go_enter Tryz.func36,Tryz.ntmps36;go_wp2_with fail
  go_ret;exact⟨⟨_,rfl⟩,HB.out⟩
 ·rw[hq]at tn te;clear hq;go_enter Tryz.func36,Tryz.ntmps36;go_wp2_with fail
  go_ret;exact⟨⟨_,rfl⟩,HB.out⟩
theorem tagschk_any {A:Option Addr}(c:Nat){l:List Tg}{w:World}(h:Rd encTg 3 w w.heap.size A l)(hl:l.length≤100000):
  Calls Tryz.prog 17 #[.slice A l.length c] w fun e w'=>AnyI e∧Below w.heap.size w w':=by
 have HR:=hid h;obtain⟨n,hn⟩:∃n,l.length=n:=⟨_,rfl⟩;have HN:=hid hn;have HB0:=hid (Below.refl w.heap.size w);rw[hn]at hl ⊢;clear h hn;by_cases h9:1024<n
 ·have h9i:(1024:Int)<(n:Int):=by omega
  go_enter Tryz.func17,Tryz.ntmps17;go_wp2_with fail
  go_ret;exact⟨⟨_,rfl⟩,HB0.out⟩
 have h9i:¬(1024:Int)<(n:Int):=by omega
 go_enter Tryz.func17,Tryz.ntmps17;go_wp2_with fail
 go_loopw [3] (fun si wx=>∃i:Nat,i≤n∧si=.int .i64 i∧Hid (Below w.heap.size w wx)) (fun si _=>n-(RowKit.intOf si).toNat)
 case atStart=>exact⟨0,Nat.zero_le _,rfl,HB0⟩
 case round=>
  obtain⟨i,hi,rfl,HB⟩:=hrel;have i0:(0:Int)≤(i:Int):=by omega
  by_cases hin:i<n
  ·obtain⟨b,off,x,rfl,hbl,hx,hc⟩:=(HR.out.st HB.out).at_ (i:=i) (by rw[HN.out];exact hin);have HI:=hid hin;have i1:(i:Int)<(n:Int):=by omega
   have i2:decide (i<n)=true:=decide_eq_true hin;obtain⟨s1,s2,s3⟩:=x;have e0:wr.cell? ⟨b,off+i*3,none⟩=some (.string s1):=by simpa using hc 0 _ rfl
   have e1:wr.cell? ⟨b,off+i*3+1,none⟩=some (.int .i64 s2):=hc 1 _ rfl;have e2:wr.cell? ⟨b,off+i*3+2,none⟩=some (.int .i64 s3):=hc 2 _ rfl;have CK:=hid (fun(X:World)=>rtagcheck_any s1 X);obtain⟨y,hy⟩:∃y,wr.heap.size=y:=⟨_,rfl⟩;obtain⟨Y,hY⟩:∃Y,wr.alloc (.cells #[.string s1,.int .i64 s2,.int .i64 s3] 107)=Y:=⟨_,rfl⟩;have hbY:Below wr.heap.size wr Y:=by rw[←hY];exact(Below.refl _ _).al _
   have HBN:Hid (Below w.heap.size w Y):=hid (HB.out.st hbY);have BY:Blk Y y #[.string s1,.int .i64 s2,.int .i64 s3] 107:=by rw[←hy,←hY];exact Blk.new wr _ _
   have HBY:=hid BY;have f0:=BY.cell 0 (v:=.string s1) rfl;have f1:=BY.cell 1 (v:=.int .i64 s2) rfl;have f2:=BY.cell 2 (v:=.int .i64 s3) rfl;clear hc hbl hx hi hin hbY BY;go_wp2_with fail
   with_reducible refine(CK.out Y).mono ?_
   rintro e Wk ⟨rfl,hw⟩;rw[hw];clear hw Wk CK;cases htb:tagB s1
   ·clear htb;go_wp2_with fail
    go_ret;exact⟨⟨_,rfl⟩,HBN.out⟩
   clear htb;by_cases g1:s2<0
   ·go_wp2_with fail
    go_ret;exact⟨⟨_,rfl⟩,HBN.out⟩
   by_cases g2:68719476736≤s2
   ·go_wp2_with fail
    go_ret;exact⟨⟨_,rfl⟩,HBN.out⟩
   by_cases g3:s3<1
   ·go_wp2_with fail
    go_ret;exact⟨⟨_,rfl⟩,HBN.out⟩
   by_cases g4:3<s3
   ·go_wp2_with fail
    go_ret;exact⟨⟨_,rfl⟩,HBN.out⟩
   go_upto_region 13 with fail
   by_cases hz:i=0
   ·have z1:decide ((0:Int)<(i:Int))=false:=by simp;omega
    have z2:decide (0<i)=false:=decide_eq_false (by omega);have z3:¬(0:Int)<(i:Int):=by omega
    clear hz;refine wp_region_held_drew (S:=fun _=>True) (by kernel_rfl) trivial (fun hHeld=> ?_);have hSS:True:=trivial;change wpAnyH _ _ _ _ _ 12 _ _ _;refine tk 0 (h:= ?_);refine tk 1 (h:= ?_);refine tk 2 (h:= ?_);refine tk0 3 (h:= ?_);refine tk0 4 (h:= ?_);refine tk0 5 (h:= ?_);refine tk0 6 (h:= ?_);refine tk0 7 (h:= ?_);refine tk0 8 (h:= ?_);refine tk0 9 (h:= ?_);refine tk0 10 (h:= ?_);refine tk 11 (h:= ?_);refine wpAnyH_done (by kernel_rfl) ?_ _;have HB2:Hid (Below w.heap.size w Y.drew):=hid HBN.out.drew;generalize Y.drew=Y2 at*;clear hHeld hSS;go_wp2_with fail
    go_roundw
    case rel=>exact⟨i+1,HI.out,by go_num,HB2⟩
    case measure=>have:=HI.out;simp[RowKit.intOf];omega
   ·obtain⟨m,hm⟩:∃m:Nat,i=m+1:=⟨i-1,by omega⟩;have hin:=HI.out;obtain⟨xm,hxm⟩:∃x,l[m]? =some x:=⟨_,List.getElem?_eq_getElem (by rw[HN.out];omega)⟩;obtain⟨t1,t2,t3⟩:=xm;have HSA:=hid (show∀X,Below Y.heap.size Y X→(fun X:World=>X.cell? ⟨y,0,none⟩=some (.string s1)∧X.cell? ⟨y,1,none⟩=some (.int .i64 s2)∧X.cell? ⟨y,2,none⟩=some (.int .i64 s3)∧X.cell? ⟨b,off+m*3,none⟩=some (.string t1)∧X.cell? ⟨b,off+m*3+1,none⟩=some (.int .i64 t2)∧X.cell? ⟨b,off+m*3+2,none⟩=some (.int .i64 t3)) X from fun X hX=>
     ⟨(HBY.out.below hX HBY.out.lt).cell 0 rfl,(HBY.out.below hX HBY.out.lt).cell 1 rfl,(HBY.out.below hX HBY.out.lt).cell 2 rfl,by simpa using(HR.out.st (HBN.out.st hX)).cellAt hxm (j:=0) rfl,(HR.out.st (HBN.out.st hX)).cellAt hxm (j:=1) rfl,(HR.out.st (HBN.out.st hX)).cellAt hxm (j:=2) rfl⟩)
    have CA:=hid (fun(X:World)=>after_any s1 t1 s2 s3 t2 t3 X);have w1:IntKind.i64.wrap ((i:Int)-1)=(m:Int):=IntWalk.i64_in _ (by omega)|>.trans (by omega);have m0:(0:Int)≤(m:Int):=by omega
    have m1:(m:Int)<(n:Int):=by omega
    have m2:decide (m<n)=true:=decide_eq_true (by omega);have m3:m<n:=by omega
    have z1:decide ((0:Int)<(i:Int))=true:=by simp;omega
    have z2:decide (0<i)=true:=decide_eq_true (by omega);have z3:(0:Int)<(i:Int):=by omega
    clear hz hm hin hxm e0 e1 e2;refine wp_region_held_drew (S:=(fun X:World=>X.cell? ⟨y,0,none⟩=some (.string s1)∧X.cell? ⟨y,1,none⟩=some (.int .i64 s2)∧X.cell? ⟨y,2,none⟩=some (.int .i64 s3)∧X.cell? ⟨b,off+m*3,none⟩=some (.string t1)∧X.cell? ⟨b,off+m*3+1,none⟩=some (.int .i64 t2)∧X.cell? ⟨b,off+m*3+2,none⟩=some (.int .i64 t3))) (by kernel_rfl) (HSA.out Y (Below.refl _ _)) (fun hHeld=> ?_);have bD:Below Y.heap.size Y Y.drew:=(Below.refl _ Y).drew;have hSS:=HSA.out _ bD;obtain⟨V0,hV0⟩:∃V,Y.drew=V:=⟨_,rfl⟩;rw[hV0]at hHeld hSS bD ⊢;clear hV0;change wpAnyH _ _ _ _ _ 12 _ _ _;refine tk 0 (h:= ?_);refine tk 1 (h:= ?_);refine tk 2 (h:= ?_);refine tk 3 (h:= ?_);refine tk 4 (h:= ?_);refine tk 5 (h:= ?_);refine tk 6 (h:= ?_);refine tk 7 (h:= ?_);refine tk 8 (h:= ?_);refine rd1 9 (h:=fun K hK=> ?_);rw[if_pos (by rfl)];go_wp2_with fail
    with_reducible refine(CA.out V0).mono ?_
    rintro e W5 ⟨⟨ab,rfl⟩,hb5⟩;have bD5:=bD.st hb5;go_wp2_with fail
    refine hK.out _ _ (HSA.out W5 bD5) (fun hHeld=> ?_);clear hK K hSS;have hSS:=HSA.out W5 bD5;refine td (h:= ?_);refine tk 10 (h:= ?_);refine tk 11 (h:= ?_);refine wpAnyH_done (by kernel_rfl) ?_ _;have HB5:=hid (HBN.out.st bD5);clear hHeld hSS bD bD5 hb5;cases ab
    ·go_wp2_with fail
     go_ret;exact⟨⟨_,rfl⟩,HB5.out⟩
    ·go_wp2_with fail
     go_roundw
     case rel=>exact⟨i+1,HI.out,by go_num,HB5⟩
     case measure=>have:=HI.out;simp[RowKit.intOf];omega
  ·obtain rfl:n=i:=by omega
   clear hi hin;have HBN:=HB;go_wp2_with fail
   go_ret;exact⟨⟨_,rfl⟩,HBN.out⟩
end
end Go.Proofs.YtimffppffbideaaGreatDoor
