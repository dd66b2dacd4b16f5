import Derived.Test.YtimffppffbideaaGreatDoorJPsStabSwap
import Derived.Test.YtimffppffbideaaGreatDoorJStabSymB
import Derived.Test.YtimffppffbideaaGreatDoorSnMat
import Derived.Lib.ItoaLen
set_option linter.unusedSimpArgs false
set_option linter.unusedVariables false
set_option maxRecDepth 1000000
set_option maxHeartbeats 16000000
namespace Go.Proofs.YtimffppffbideaaGreatDoor
section
namespace PsSt
open Go.RowKit Go.Lib Go.Sort Go.Shelf
section
variable {P:Program}{α:Type}[Inhabited α]{enc:α×Nat→List Value}{k:Nat}{w0:World}{blk off:Nat}{d0:Array (α×Nat)}
theorem Crs.out {a m b x y:Nat}{d d':Array (α×Nat)}(h:Crs a m b d)(hy:y≤a∨b≤x)(p:PermIn x y d d'):Crs a m b d':=by
 intro i j h1 h2 h3 h4;rw[p.2.1 i (by omega),p.2.1 j (by omega)];exact h i j h1 h2 h3 h4
def SymOk (P:Program)(enc:α×Nat→List Value)(k:Nat)(w0:World)(blk off cap g:Nat)(cb:Array Value)(cf:α→α→Int)(n:Nat)(d0:Array (α×Nat)):Prop:=
 ∀(A M B:Int) (d:Array (α×Nat)) (W:World),0≤A→A<M→M<B→B≤d0.size→d.size=d0.size→(B-A).toNat≤n→
  Srt (ltOf cf) A.toNat M.toNat d→Srt (ltOf cf) M.toNat B.toNat d→Crs A.toNat M.toNat B.toNat d→SWK enc k w0 blk off d W→
  Calls P 142 #[.slice (some ⟨blk,off,none⟩) d0.size cap,.int .i64 A,.int .i64 M,.int .i64 B,.func (.func g) #[] cb] W (MergeR enc k w0 blk off (ltOf cf) A.toNat B.toNat d)
theorem symBig_any (S:StF P k)(R:RowK enc k w0 blk off d0)(hsz:d0.size<4611686018427387904)(cap g:Nat)(cb:Array Value)(cf:α→α→Int)(hC:CmpLays P g cb enc k (tagC cf) blk off d0.size w0)
  (eg:∀args w,(callFunc g args).run P w=.ok (.enter g args) w) (hS:SWO (ltOf cf)) (n:Nat) (ih:SymOk P enc k w0 blk off cap g cb cf n d0)
  (A M B:Int) (d:Array (α×Nat)) (W:World) (hA0:0≤A) (hAM:A+1<M) (hMB:M+1<B) (hB:B≤d0.size) (hs:d.size=d0.size) (hn:(B-A).toNat≤n+1)
  (hl:Srt (ltOf cf) A.toNat M.toNat d) (hr:Srt (ltOf cf) M.toNat B.toNat d) (hc:Crs A.toNat M.toNat B.toNat d) (hW:SWK enc k w0 blk off d W):
  Calls P 142 #[.slice (some ⟨blk,off,none⟩) d0.size cap,.int .i64 A,.int .i64 M,.int .i64 B,.func (.func g) #[] cb] W (MergeR enc k w0 blk off (ltOf cf) A.toNat B.toNat d):=by
 have mixed:=S.mixed;have t0:=S.t0;have a0:=S.a0;have z0:=S.z0;have v0:=S.v0;have t3:=S.t3;have a3:=S.a3;have z3:=S.z3;have v3:=S.v3;have t4:=S.t4;have a4:=S.a4;have z4:=S.z4;have v4:=S.v4;have t22:=S.t22;have a22:=S.a22;have z22:=S.z22;have v22:=S.v22;have t78:=S.t78;have a78:=S.a78;have z78:=S.z78;have v78:=S.v78;have t96:=S.t96;have a96:=S.a96;have z96:=S.z96;have v96:=S.v96;have aE:=S.aE;have zE:=S.zE;have u22:=run_underlying S.t22;have F:=S.fsy;have eSY:∀args w,(callFunc 142 args).run P w=.ok (.enter 142 args) w:=enters_of S.fsy (by kernel_rfl) rfl;have eRO:∀args w,(callFunc 171 args).run P w=.ok (.enter 171 args) w:=enters_of S.fro (by kernel_rfl) rfl;have HRO:=hid (fun(dk:Array (α×Nat)) (X:World) (h1:dk.size=d0.size) (s m e:Nat) (h2:s<m) (h3:m<e) (h4:e≤dk.size) (h5:SWK enc k w0 blk off dk X)=>rotate_any S R h1 (by omega) cap s m e (.func (.func g) #[] cb) h2 h3 h4 h5);have HFin:Hid (∀(d1 d3:Array (α×Nat)) (w':World),PermIn A.toNat B.toNat d d1→(PermIn A.toNat B.toNat d1 d3∧Srt (ltOf cf) A.toNat B.toNat d3)→SWK enc k w0 blk off d3 w'→MergeR enc k w0 blk off (ltOf cf) A.toNat B.toNat d (.returned (.tuple #[])) w'):=
  fun d1 d3 w' h1 h2 h3=>⟨rfl,d3,permIn_trans _ _ _ _ _ h1 h2.1,h2.2,h3⟩
 have HMid:Hid (∀(s e mid:Nat) (d':Array (α×Nat)),A.toNat≤s→s≤M.toNat→M.toNat≤e→e≤B.toNat→mid=s+(e-M.toNat)→(s=A.toNat∨e=B.toNat∨fstB (ltOf cf) d[e]! d[s-1]! =false)→(s=M.toNat∨e=M.toNat∨fstB (ltOf cf) d[e-1]! d[s]! =true)→Moved (roF s M.toNat e) d d'→Srt (ltOf cf) A.toNat s d'∧Srt (ltOf cf) s mid d'∧Crs A.toNat s mid d'∧Srt (ltOf cf) mid e d'∧Srt (ltOf cf) e B.toNat d'∧Crs mid e B.toNat d'∧∀i j,A.toNat≤i→i<mid→mid≤j→j<B.toNat→lexB (ltOf cf) d'[j]! d'[i]! =false):=
  fun s e mid d' h1 h2 h3 h4 h5 h6 h7 h8=>merge_mid hS h1 h2 h3 h4 (by omega) h5 hl hr hc h6 h7 h8
 have HW:=hid hW;have HR:=hid R;have HC:=hid hC;have HI:Hid _:=ih;have hmz:(M-A==1)=false:=by simp;omega
 have hbz:(B-M==1)=false:=by simp;omega
 have hsd:=hs;have HSD:=hid hs;clear hW R S hC hl hr hc hs ih;generalize MergeR enc k w0 blk off (ltOf cf) A.toNat B.toNat d=MR at*;obtain⟨mid,hmid⟩:∃mid,(A+B)/2=mid:=⟨_,rfl⟩;have hm1:A<mid:=by omega
 have hm2:mid<B:=by omega
 have hm3:A+B-1≤2*mid:=by omega
 have hm4:2*mid≤A+B:=by omega
 have hab0:0≤A+B:=by omega
 have hab1:A+B<9223372036854775807:=by omega
 obtain⟨s0,r0,⟨hsr,hss,hrr⟩|⟨hsr,hss,hrr⟩⟩:∃s0 r0:Int,(M>mid∧s0=mid+M-B∧r0=mid)∨(¬M>mid∧s0=A∧r0=M):=by
  by_cases h:M>mid
  ·exact⟨_,_,.inl ⟨h,rfl,rfl⟩⟩
  ·exact⟨_,_,.inr ⟨h,rfl,rfl⟩⟩
 all_goals
  go_enter F,Tryz.ntmps142;go_wp2_with fail
  go_loopg [20,21] (r0-s0).toNat (fun g1 vi vj wr=>∃i j:Int,vi=.int .i64 i∧vj=.int .i64 j∧s0≤i∧i≤j∧j≤r0∧j-i≤g1∧Hid ((i=s0∨fstB (ltOf cf) d[(mid+M-i).toNat]! d[i.toNat-1]! =false)∧(j=r0∨fstB (ltOf cf) d[(mid+M-1-j).toNat]! d[j.toNat]! =true))∧Hid (SWK enc k w0 blk off d wr))
  case atStart=>exact⟨s0,r0,(by subst hss;rfl),(by subst hrr;rfl),Int.le_refl _,by omega,Int.le_refl _,by omega,⟨.inl rfl,.inl rfl⟩,HW⟩
  case round=>
   obtain⟨i,j,rfl,rfl,hi,hij,hj,hg1,HB,HK⟩:=hrel;have HSS:=hid hss;have HRR:=hid hrr;by_cases hlt:i<j
   ·have m1:i≤(i+j)/2:=by omega
    have m2:(i+j)/2<j:=by omega
    have m0:0≤(i+j)/2:=by omega
    have t0':0≤i+j:=by omega
    obtain⟨c,hc⟩:∃c,(i+j)/2=c:=⟨_,rfl⟩;obtain⟨px,hx⟩:∃px,mid+M-1-c=px:=⟨_,rfl⟩;have x0:0≤px:=by omega
    have x1:px<(d0.size:Int):=by omega
    have y0:0≤c:=by omega
    have y1:c<(d0.size:Int):=by omega
    have hX:px.toNat<d.size:=by omega
    have hY:c.toNat<d.size:=by omega
    have hw1:IntKind.i64.wrap (mid+M-1-c)=px:=by rw[IntKind.wrap_i64];omega
    have HXX:=hid hx;clear hx;have z1:i≤c∧c<j:=by omega
    obtain⟨z1,z2⟩:=z1;have z3:c+1≤r0∧s0≤c∧s0≤c+1∧c≤r0:=by omega
    have Z3:=hid z3;clear z3 m1 m2 m0 hss hrr;have lx:=HK.out.ld HR.out hsd P px.toNat hX;have ly:=HK.out.ld HR.out hsd P c.toNat hY;have GR:=hid (fun n' os'=>HK.out.grown n' os');have hcg:=fun n' os'=>HK.out.cmp HC.out hsd d[px.toNat]! d[c.toNat]! n' os';obtain⟨xh,hxh⟩:∃x,d[px.toNat]! =x:=⟨_,rfl⟩;obtain⟨xa,hxa⟩:∃x,d[c.toNat]! =x:=⟨_,rfl⟩;rw[hxh]at lx hcg;rw[hxa]at ly hcg;have HXH:=hid hxh;have HXA:=hid hxa;clear hxh hxa;by_cases hlv:tagC cf xh xa<0
    ·have HB2:Hid ((i=s0∨fstB (ltOf cf) d[(mid+M-i).toNat]! d[i.toNat-1]! =false)∧(c=r0∨fstB (ltOf cf) d[(mid+M-1-c).toNat]! d[c.toNat]! =true)):=⟨HB.out.1,.inr (by rw[HXX.out,HXH.out,HXA.out];exact decide_eq_true hlv)⟩;have hdc:decide (tagC cf xh xa<0)=true:=decide_eq_true hlv;generalize tagC cf xh xa=tc at*;go_wp2_with fail
     go_quiet_grown(first|(go_at_fn g;refine Calls.grown_of (hcg _ _)))
     go_wp2;go_roundg (c-i).toNat
     case measure=>omega
     case rel=>exact⟨i,c,rfl,rfl,hi,z1,Z3.out.2.2.2,by omega,HB2,GR.out _ _⟩
    ·have HB2:Hid ((c+1=s0∨fstB (ltOf cf) d[(mid+M-(c+1)).toNat]! d[(c+1).toNat-1]! =false)∧(j=r0∨fstB (ltOf cf) d[(mid+M-1-j).toNat]! d[j.toNat]! =true)):=⟨.inr (by rw[show(mid+M-(c+1)).toNat=px.toNat by have:=HXX.out;omega,show(c+1).toNat-1=c.toNat by omega,HXH.out,HXA.out];exact decide_eq_false hlv),HB.out.2⟩;have hdc:decide (tagC cf xh xa<0)=false:=decide_eq_false hlv;generalize tagC cf xh xa=tc at*;go_wp2_with fail
     go_quiet_grown(first|(go_at_fn g;refine Calls.grown_of (hcg _ _)))
     go_wp2;go_roundg (j-(c+1)).toNat
     case measure=>omega
     case rel=>exact⟨c+1,j,rfl,rfl,Z3.out.2.2.1,by omega,hj,by omega,HB2,GR.out _ _⟩
   ·obtain rfl:i=j:=by omega
    obtain⟨E,hE⟩:∃E,mid+M-i=E:=⟨_,rfl⟩;have e1:A≤i∧i≤M∧M≤E∧E≤B∧i≤mid∧mid≤E:=by omega
    obtain⟨e1,e2,e3,e4,e5,e6⟩:=e1;have hHM:=fun d1=>HMid.out i.toNat E.toNat mid.toNat d1 (by omega) (by omega) (by omega) (by omega) (by omega)
     (by rcases HB.out.1 with q|q;(first|(left;omega)|(right;left;omega));(right;right;rwa [hE]at q))
     (by rcases HB.out.2 with q|q;(first|(left;omega)|(right;left;omega));(right;right;rwa [show(mid+M-1-i).toNat=E.toNat-1 by omega]at q))
    have HM:=hid hHM;clear hHM HB HMid hss hrr;by_cases c12:i<M∧M<E;case' pos=>
     obtain⟨c1,c2⟩:=c12;have hCR:=HRO.out d wr HSD.out i.toNat M.toNat E.toNat (by omega) (by omega) (by rw[HSD.out];omega) HK.out;rw[show((i.toNat:Nat):Int)=i by omega,show((M.toNat:Nat):Int)=M by omega,show((E.toNat:Nat):Int)=E by omega,HSD.out]at hCR;have CR:=hid hCR;clear hCR;go_wp2_with fail
     refine CR.out.mono ?_;rintro en w1 ⟨rfl,d1,hM,hP,hK⟩;have H7:=hid (HM.out d1 hM);have HP1:=hid (hP A.toNat B.toNat (by omega) (by omega) (by omega));have HS1:=hid (hM.1.trans HSD.out);have HK1:=hid hK;clear hM hP hK
    case' neg=>
     obtain⟨d1,hd1⟩:∃d1,d1=d:=⟨_,rfl⟩;have H7:=hid (HM.out d ((Moved.refl d).congr fun t _=>(roF_none (by omega) (by omega) (by omega)).symm));have HP1:Hid (PermIn A.toNat B.toNat d d1):=by rw[hd1];exact permIn_refl _ _ _
     have HS1:=hid HSD.out;have HK1:=hid HK.out;rw[←hd1]at H7 HK1 HS1;clear hd1;by_cases c1:i<M;case' pos=>have c2:¬M<E:=by omega
     all_goals clear c12
    all_goals
     by_cases c3:A<i∧i<mid;case' pos=>
      obtain⟨c3,c4⟩:=c3;have CQ1:=hid (HI.out A i mid d1 _ hA0 c3 c4 (by omega) HS1.out (by omega) H7.out.1 H7.out.2.1 H7.out.2.2.1 HK1.out);go_wp2_with fail;refine CQ1.out.mono ?_;rintro en w2 ⟨rfl,d2,p2,s2,k2⟩;have HP2:=hid p2;have HS2:=hid s2;have HK2:=hid k2;clear p2 s2 k2
     case' neg=>
      obtain⟨d2,hd2⟩:∃d2,d2=d1:=⟨_,rfl⟩;have HP2:Hid (PermIn A.toNat mid.toNat d1 d2):=(by rw[hd2];exact permIn_refl _ _ _);have HS2:Hid (Srt (ltOf cf) A.toNat mid.toNat d2):=(by rw[hd2];by_cases q:A<i;(have e:mid.toNat=i.toNat:=(by omega);rw[e];exact H7.out.1);(have e:A.toNat=i.toNat:=(by omega);rw[e];exact H7.out.2.1));have HK2:=hid HK1.out;rw[←hd2]at HK2;clear hd2;by_cases q:A<i;case' pos=>have q2:¬i<mid:=by omega
      all_goals clear c3
      all_goals try(exfalso;omega)
    all_goals
     have h7:=H7.out;by_cases c5:mid<E∧E<B;(focus(obtain⟨c5,c6⟩:=c5;have CQ2:=hid (HI.out mid E B d2 _ (by omega) c5 c6 hB (HP2.out.1.trans HS1.out) (by omega) (h7.2.2.2.1.out (.inl (Nat.le_refl _)) HP2.out) (h7.2.2.2.2.1.out (.inl (by omega)) HP2.out) (Crs.out h7.2.2.2.2.2.1 (.inl (Nat.le_refl _)) HP2.out) HK2.out);have HJ2:=hid (fun d3 (p3:PermIn mid.toNat B.toNat d2 d3) (s3:Srt (ltOf cf) mid.toNat B.toNat d3)=>merge_join hS (by omega) (by omega) (by have:=HS1.out;omega) h7.2.2.2.2.2.2 HP2.out HS2.out p3 s3);clear h7;go_wp2_with fail;all_goals(refine CQ2.out.mono ?_;rintro en wz ⟨rfl,d3,p3,s3,k3⟩;have HX:=hid (HFin.out d1 d3 wz HP1.out (HJ2.out d3 p3 s3) k3);clear p3 s3 k3;go_wp2;all_goals(first|exact HX.out|(go_end0;exact HX.out)))));(focus(have s3:Srt (ltOf cf) mid.toNat B.toNat d2:=(by by_cases q:mid<E;(have e:B.toNat=E.toNat:=(by omega);rw[e];exact h7.2.2.2.1.out (.inl (Nat.le_refl _)) HP2.out);(have e:mid.toNat=E.toNat:=(by omega);rw[e];exact h7.2.2.2.2.1.out (.inl (by omega)) HP2.out));have HX:=hid (HFin.out d1 d2 _ HP1.out (merge_join hS (by omega) (by omega) (by have:=HS1.out;omega) h7.2.2.2.2.2.2 HP2.out HS2.out (permIn_refl _ _ _) s3) HK2.out);clear h7 s3;by_cases q:mid<E;(focus(have q2:¬E<B:=(by omega);clear c5;go_wp2;all_goals(first|exact HX.out|(go_end0;exact HX.out))));(focus(clear c5;go_wp2;all_goals(first|exact HX.out|(go_end0;exact HX.out))))))
end
end PsSt
end
section
namespace PsSt
open Go.RowKit Go.Lib Go.Sort Go.Shelf
section
variable {P:Program}{α:Type}[Inhabited α]{enc:α×Nat→List Value}{k:Nat}{w0:World}{blk off:Nat}{d0:Array (α×Nat)}
theorem symMerge_any (S:StF P k)(R:RowK enc k w0 blk off d0)(hsz:d0.size<4611686018427387904)(cap g:Nat)(cb:Array Value)(cf:α→α→Int)(hC:CmpLays P g cb enc k (tagC cf) blk off d0.size w0)
  (eg:∀args w,(callFunc g args).run P w=.ok (.enter g args) w) (hS:SWO (ltOf cf)):∀n,SymOk P enc k w0 blk off cap g cb cf n d0:=by
 intro n;induction n with
 |zero=>intro A M B d W h1 h2 h3 h4 h5 h6;omega
 |succ n ih=>
  intro A M B d W h1 h2 h3 h4 h5 h6 hl hr hc hW;by_cases c1:M=A+1
  ·have:=symLeft_any S R hsz cap g cb cf hC eg hS A.toNat M.toNat B.toNat d W (by omega) (by omega) (by omega) h5 hr hc hW
   rwa [show((A.toNat:Nat):Int)=A by omega,show((M.toNat:Nat):Int)=M by omega,show((B.toNat:Nat):Int)=B by omega]at this
  ·by_cases c2:B=M+1
   ·have:=symRight_any S R hsz cap g cb cf hC eg hS A.toNat M.toNat B.toNat d W (by omega) (by omega) (by omega) h5 hl hc hW
    rwa [show((A.toNat:Nat):Int)=A by omega,show((M.toNat:Nat):Int)=M by omega,show((B.toNat:Nat):Int)=B by omega]at this
   ·exact symBig_any S R hsz cap g cb cf hC eg hS n ih A M B d W h1 (by omega) (by omega) h4 h5 h6 hl hr hc hW
def InsOk (P:Program)(enc:α×Nat→List Value)(k:Nat)(w0:World)(blk off cap g:Nat)(cb:Array Value)(cf:α→α→Int)(d0:Array (α×Nat)):Prop:=
 ∀(a b:Nat) (d:Array (α×Nat)) (W:World),d.size=d0.size→a≤b→b≤d.size→SWK enc k w0 blk off d W→
  Calls P 141 #[.slice (some ⟨blk,off,none⟩) d0.size cap,.int .i64 a,.int .i64 b,.func (.func g) #[] cb] W fun e w'=>e=.returned (.tuple #[])∧SWK enc k w0 blk off (Sort.insertionSort (fstB (ltOf cf)) d a b) w'
theorem stable_any (S:StF P k)(R:RowK enc k w0 blk off d0)(hsz:d0.size<1000000000000000000)(cap g:Nat)(cb:Array Value)(cf:α→α→Int)(hC:CmpLays P g cb enc k (tagC cf) blk off d0.size w0)
  (eg:∀args w,(callFunc g args).run P w=.ok (.enter g args) w) (hS:SWO (ltOf cf)) (hIns:InsOk P enc k w0 blk off cap g cb cf d0) (eIN:∀args w,(callFunc 141 args).run P w=.ok (.enter 141 args) w) (ht:∀i,i<d0.size→d0[i]!.2=i):
  Calls P 105 #[.slice (some ⟨blk,off,none⟩) d0.size cap,.int .i64 d0.size,.func (.func g) #[] cb] w0 fun e w'=>e=.returned (.tuple #[])∧∃d',PermIn 0 d0.size d0 d'∧Srt (ltOf cf) 0 d0.size d'∧SWK enc k w0 blk off d' w':=by
 have mixed:=S.mixed;have t0:=S.t0;have a0:=S.a0;have z0:=S.z0;have v0:=S.v0;have t3:=S.t3;have a3:=S.a3;have z3:=S.z3;have v3:=S.v3;have t4:=S.t4;have a4:=S.a4;have z4:=S.z4;have v4:=S.v4;have t22:=S.t22;have a22:=S.a22;have z22:=S.z22;have v22:=S.v22;have t78:=S.t78;have a78:=S.a78;have z78:=S.z78;have v78:=S.v78;have t96:=S.t96;have a96:=S.a96;have z96:=S.z96;have v96:=S.v96;have aE:=S.aE;have zE:=S.zE;have u22:=run_underlying S.t22;have F:=S.fst;have eSY:∀args w,(callFunc 142 args).run P w=.ok (.enter 142 args) w:=enters_of S.fsy (by kernel_rfl) rfl;have HSy:=hid (fun n=>symMerge_any S R (by omega) cap g cb cf hC eg hS n);unfold SymOk at HSy;have HSy:Hid (∀(a m b:Nat) (d:Array (α×Nat)) (W:World),a<m→m<b→b≤d0.size→d.size=d0.size→Srt (ltOf cf) a m d→Srt (ltOf cf) m b d→Crs a m b d→SWK enc k w0 blk off d W→
   Calls P 142 #[.slice (some ⟨blk,off,none⟩) d0.size cap,.int .i64 a,.int .i64 m,.int .i64 b,.func (.func g) #[] cb] W (MergeR enc k w0 blk off (ltOf cf) a b d)):=by
  intro a m b d W h1 h2 h3 h4 h5 h6 h7 h8;have:=HSy.out (((b:Int)-(a:Int)).toNat) a m b d W (by omega) (by omega) (by omega) (by omega) h4 (Nat.le_refl _) h5 h6 h7 h8
  simpa using this
 have HIn:Hid _:=hIns;have HSt:Hid (∀(a b:Nat) (d:Array (α×Nat)),a≤b→b≤d.size→(∀s t,a≤s→s<t→t<b→d[s]!.2<d[t]!.2)→PermIn a b d (Sort.insertionSort (fstB (ltOf cf)) d a b)∧Srt (ltOf cf) a b (Sort.insertionSort (fstB (ltOf cf)) d a b)):=fun a b d h1 h2 h3=>insSort_lex hS h1 h2 h3;have HW:=hid (SWK.start R.hH);have HT:=hid (InsB.start (lt:=ltOf cf) ht);obtain⟨nn,hnn⟩:∃nn,d0.size=nn:=⟨_,rfl⟩;have HNN:=hid hnn;unfold InsOk at HIn;rw[hnn]at HSy HIn HT hsz;rw[hnn];clear R S hC ht hIns hnn;go_enter F,Tryz.ntmps105;go_wp2_with fail
 go_loopg [7,8] nn (fun g1 va vb wr=>∃(q a:Nat) (d:Array (α×Nat)),va=.int .i64 a∧vb=.int .i64 (a+20:Nat)∧a=20*q∧a≤nn∧nn-a≤g1∧d.size=nn∧Hid (InsB (ltOf cf) nn a d)∧Hid (PermIn 0 nn d0 d)∧Hid (SWK enc k w0 blk off d wr))
 case atStart=>exact⟨0,0,d0,rfl,rfl,rfl,Nat.zero_le _,by omega,HNN.out,HT.out,permIn_refl _ _ _,HW.out⟩
 case round=>
  obtain⟨q,a,d,rfl,rfl,haq,han,hg1,hsd,HB,HP,HK⟩:=hrel;have HAQ:=hid haq;have HSD:=hid hsd;clear haq hsd;by_cases hlt:a+20≤nn
  ·have hltz:(a:Int)+20≤(nn:Int):=by omega
   have hsd:=HSD.out;obtain⟨p1,s1⟩:=HSt.out a (a+20) d (by omega) (by omega) (HB.out.prem hlt);have CQ:=hid (HIn.out a (a+20) d wr hsd (by omega) (by omega) HK.out);generalize Sort.insertionSort (fstB (ltOf cf)) d a (a+20)=d' at*;have HB2:=hid (HB.out.step HAQ.out (by omega) hlt (by omega) (by omega) p1 s1);have HP2:=hid (permIn_trans _ _ _ _ _ HP.out (permIn_mono d d' a (a+20) 0 nn (by omega) hlt (by omega) p1));have HS2:=hid (p1.1.trans hsd);clear p1 s1 hsd HB HP;go_wp2_with fail
   refine CQ.out.mono ?_;rintro en w1 ⟨rfl,hk1⟩;have HK2:=hid hk1;clear hk1;go_wp2_with fail
   go_roundg (nn-(a+20))
   case measure=>omega
   case rel=>exact⟨q+1,a+20,d',rfl,(by go_num),(by have:=HAQ.out;omega),hlt,Nat.le_refl _,HS2.out,HB2.out,HP2.out,HK2.out⟩
  ·have hltz:¬(a:Int)+20≤(nn:Int):=by omega
   have hltb:decide ((a:Int)+20≤(nn:Int))=false:=decide_eq_false hltz;have hsd:=HSD.out;obtain⟨p1,s1⟩:=HSt.out a nn d (by omega) (by omega) (HB.out.prem (Nat.le_refl _));have CQ:=hid (HIn.out a nn d wr hsd (by omega) (by omega) HK.out);generalize Sort.insertionSort (fstB (ltOf cf)) d a nn=d' at*;have HB2:=hid (HB.out.step HAQ.out (by omega) (Nat.le_refl _) (by omega) (by omega) p1 s1).full;have HP2:=hid (permIn_trans _ _ _ _ _ HP.out (permIn_mono d d' a nn 0 nn (by omega) (Nat.le_refl _) (by omega) p1));have HS2:=hid (p1.1.trans hsd);clear p1 s1 hsd HB HP;go_wp2_with fail
   refine CQ.out.mono ?_;rintro en w1 ⟨rfl,hk1⟩;have HK2:=hid hk1;clear hk1;go_wp2_with fail
   clear hlt hltz HSt HAQ HSD HIn HK CQ HT HW hg1 han;go_loopg [6] (nn+20) (fun g2 vs wr2=>∃(s:Nat) (d:Array (α×Nat)),vs=.int .i64 s∧0<s∧s≤2*nn+20∧nn+20-s≤g2∧d.size=nn∧Hid (FullB (ltOf cf) nn s d)∧Hid (PermIn 0 nn d0 d)∧Hid (SWK enc k w0 blk off d wr2))
   case atStart=>exact⟨20,d',rfl,by omega,by omega,by omega,HS2.out,HB2.out,HP2.out,HK2.out⟩
   case round=>
    clear HB2 HP2 HS2 HK2;obtain⟨s,d,rfl,hs0,hs1,hg2,hsd,HB,HP,HK⟩:=hrel;have HSD:=hid hsd;clear hsd;by_cases hlt:s<nn
    ·have hltz2:(s:Int)<(nn:Int):=by omega
     obtain⟨t,ht⟩:∃t,2*s=t:=⟨_,rfl⟩;have ht2:(2:Int)*(s:Int)=(t:Int):=by omega
     have ht3:(s:Int)*2=(t:Int):=by omega
     have HT2:=hid ht;have hst:s+s=t:=by omega
     clear ht;go_wp2_with fail
     go_loopg [7,8] nn (fun g3 va vb wr=>∃(q a:Nat) (d:Array (α×Nat)),va=.int .i64 a∧vb=.int .i64 ((a:Int)+(t:Int))∧Hid (a=2*s*q)∧a≤nn∧nn-a≤g3∧d.size=nn∧Hid (MidB (ltOf cf) nn s a d)∧Hid (PermIn 0 nn d0 d)∧Hid (SWK enc k w0 blk off d wr))
     case atStart=>exact⟨0,0,d,rfl,(by simp),rfl,Nat.zero_le _,by omega,HSD.out,HB.out.start,HP.out,HK.out⟩
     case round=>
      clear HB HP HK HSD;obtain⟨q,a,d,rfl,rfl,HAQ,han,hg3,hsd,HB,HP,HK⟩:=hrel;have HSD:=hid hsd;by_cases hlt3:a+t≤nn
      ·have hltz3:(a:Int)+(t:Int)≤(nn:Int):=by omega
       obtain⟨p1,p2,p3⟩:=HB.out.prem (b:=a+t) HAQ.out hlt3 (by have:=HT2.out;omega) (by omega);have hCQ:=HSy.out a (a+s) (a+t) d wr (by omega) (by omega) hlt3 hsd p1 p2 p3 HK.out;rw[show((a+s:Nat):Int)=(a:Int)+(s:Int) by omega,show((a+t:Nat):Int)=(a:Int)+(t:Int) by omega]at hCQ;have CQ:=hid hCQ;have HSTEP:=hid (fun d' (p:PermIn a (a+t) d d') (s':Srt (ltOf cf) a (a+t) d')=>HB.out.step HAQ.out (by omega) hlt3 (by have:=HT2.out;omega) (by omega) p s');clear hCQ p1 p2 p3 hsd;go_wp2_with fail
       refine CQ.out.mono ?_;rintro en w3 ⟨rfl,d3,p4,s4,k4⟩;have HB4:=hid (HSTEP.out d3 p4 s4);have HP4:=hid (permIn_trans _ _ _ _ _ HP.out (permIn_mono d d3 a (a+t) 0 nn (by omega) hlt3 (by have:=HSD.out;omega) p4));have HS4:=hid (p4.1.trans HSD.out);have HK4:=hid k4;clear p4 s4 k4 HB HP HK HSD;go_wp2_with fail
       go_roundg (nn-(a+t))
       case measure=>omega
       case rel=>exact⟨q+1,a+t,d3,(by first|rfl|go_num),(by first|rfl|go_num|(congr 1;omega)),(by have:=HAQ.out;have:=HT2.out;unfold Hid;rw[Nat.mul_succ];omega),hlt3,Nat.le_refl _,HS4.out,HB4.out,HP4.out,HK4.out⟩
      ·have hltz3:¬(a:Int)+(t:Int)≤(nn:Int):=by omega
       have hltb3:decide ((a:Int)+(t:Int)≤(nn:Int))=false:=decide_eq_false hltz3;by_cases hm:a+s<nn
       ·have hmz:(a:Int)+(s:Int)<(nn:Int):=by omega
        obtain⟨p1,p2,p3⟩:=HB.out.prem (b:=nn) HAQ.out (Nat.le_refl _) (by have:=HT2.out;omega) hm;have hCQ:=HSy.out a (a+s) nn d wr (by omega) hm (Nat.le_refl _) hsd p1 p2 p3 HK.out;rw[show((a+s:Nat):Int)=(a:Int)+(s:Int) by omega]at hCQ;have CQ:=hid hCQ;have HSTEP:=hid (fun d' (p:PermIn a nn d d') (s':Srt (ltOf cf) a nn d')=>(HB.out.step HAQ.out han (Nat.le_refl _) (by have:=HT2.out;omega) (by omega) p s').full);clear hCQ p1 p2 p3 hsd;go_wp2_with fail
        refine CQ.out.mono ?_;rintro en w3 ⟨rfl,d3,p4,s4,k4⟩;have HB4:=hid (HSTEP.out d3 p4 s4);have HP4:=hid (permIn_trans _ _ _ _ _ HP.out (permIn_mono d d3 a nn 0 nn (by omega) (Nat.le_refl _) (by have:=HSD.out;omega) p4));have HS4:=hid (p4.1.trans HSD.out);have HK4:=hid k4;clear p4 s4 k4 HB HP HK HSD;go_wp2_with fail
        go_roundg (nn+20-t)
        case measure=>omega
        case rel=>exact⟨t,d3,rfl,by omega,by omega,by omega,HS4.out,(by have:=HB4.out;rwa [HT2.out]at this),HP4.out,HK4.out⟩
       ·have hmz:¬(a:Int)+(s:Int)<(nn:Int):=by omega
        have HB4:=hid (HB.out.done HAQ.out (by omega));clear hsd HB;go_wp2_with fail
        go_roundg (nn+20-t)
        case measure=>omega
        case rel=>exact⟨t,d,rfl,by omega,by omega,by omega,HSD.out,(by have:=HB4.out;rwa [HT2.out]at this),HP.out,HK.out⟩
    ·have hltz2:¬(s:Int)<(nn:Int):=by omega
     have HF:=hid (HB.out.all (by omega));clear HB;go_wp2;go_end0;exact⟨rfl,d,HP.out,HF.out,HK.out⟩
end
end PsSt
end
section
namespace PsSt
open Go.RowKit Go.Lib Go.Sort Go.Shelf
def encT {β:Type}(enc:β→List Value)(x:β×Nat):List Value:=enc x.1
theorem encT_ok {β:Type}{enc:β→List Value}{k:Nat}(h:Enc enc k):Enc (encT enc) k:=⟨fun x=>h.1 x.1,fun x=>h.2 x.1⟩
theorem flat_tag {β:Type}(enc:β→List Value)(t:List (β×Nat)):t.flatMap (encT enc)=(t.map Prod.fst).flatMap enc:=by
 induction t with
 |nil=>rfl
 |cons x t ih=>rw[List.flatMap_cons,ih];rfl
theorem Own.tag {β:Type}{enc:β→List Value}{e k:Nat}{w:World}{base:Nat}{A:Option Addr}{c:Nat}{l:List β}(t:List (β×Nat))(ht:t.map Prod.fst=l):Own e (encT enc) k w base A c t↔Own e enc k w base A c l:=by
 subst ht;unfold Own;rw[flat_tag,List.length_map]
theorem sortWorldK_other {β:Type}[Inhabited β](enc:β→List Value)(k:Nat)(w:World)(g n:Nat)(d':Array β)(os:Array Obj)(b:Nat)(hb:b<w.heap.size)(hne:b≠g):(sortWorldK enc k w g 0 n d' os).heap[b]? =w.heap[b]? :=by
 unfold sortWorldK putRowK;rw[heap_grow_old _ _ (by simpa[putRow,mapBlock,Sort.ahead]using hb)];have:g≠b:=Ne.symm hne
 simp[putRow,mapBlock,Sort.ahead,Array.getElem?_modify,this]
theorem stF:StF Tryz.prog 8 where
 mixed:=by kernel_rfl
 t0:=Tryz.underlying0
 a0:=Tryz.isAgg0
 z0:=Tryz.sizeOf0
 v0:=Tryz.zeroValue0
 t3:=Tryz.underlying3
 a3:=Tryz.isAgg3
 z3:=Tryz.sizeOf3
 v3:=Tryz.zeroValue3
 t4:=Tryz.underlying4
 a4:=Tryz.isAgg4
 z4:=Tryz.sizeOf4
 v4:=Tryz.zeroValue4
 t22:=Tryz.underlying55
 a22:=Tryz.isAgg55
 z22:=Tryz.sizeOf55
 v22:=Tryz.zeroValue55
 t78:=Tryz.underlying152
 a78:=Tryz.isAgg152
 z78:=Tryz.sizeOf152
 v78:=Tryz.zeroValue152
 t96:=Tryz.underlying115
 a96:=Tryz.isAgg115
 z96:=Tryz.sizeOf115
 v96:=Tryz.zeroValue115
 aE:=Tryz.isAgg76
 zE:=Tryz.sizeOf76
 fsw:=Tryz.func182
 fro:=Tryz.func171
 fsy:=Tryz.func142
 fst:=Tryz.func105
 fso:=Tryz.func56
theorem ins_none (cap:Nat)(fv:Value)(w:World):Calls Tryz.prog 141 #[.slice none 0 cap,.int .i64 0,.int .i64 0,fv] w fun e w'=>e=.returned (.tuple #[])∧w'=w:=by
 go_enter Tryz.func141,Tryz.ntmps141;go_wp2_with fail
 go_loopg [8] 0 (fun g1 va wr=>va=.int .i64 1∧wr=w)
 case atStart=>exact⟨rfl,rfl⟩
 case round=>
  obtain⟨rfl,rfl⟩:=hrel;go_wp2;go_end0;exact⟨rfl,rfl⟩
theorem stb_none (cap:Nat)(fv:Value)(w:World):Calls Tryz.prog 105 #[.slice none 0 cap,.int .i64 0,fv] w fun e w'=>e=.returned (.tuple #[])∧w'=w:=by
 go_enter Tryz.func105,Tryz.ntmps105;go_wp2_with fail
 go_loopg [7,8] 0 (fun g1 va vb wr=>va=.int .i64 0∧vb=.int .i64 20∧wr=w)
 case atStart=>exact⟨rfl,rfl,rfl⟩
 case round=>
  obtain⟨rfl,rfl,rfl⟩:=hrel;go_wp2_with fail
  refine(ins_none cap fv _).mono ?_;rintro e w' ⟨rfl,rfl⟩;go_wp2_with fail
  go_loopg [6] 0 (fun g1 va wr=>va=.int .i64 20∧wr=w')
  case atStart=>exact⟨rfl,rfl⟩
  case round=>
   obtain⟨rfl,rfl⟩:=hrel;go_wp2;go_end0;exact⟨rfl,rfl⟩
theorem stab_own {β:Type}[Inhabited β]{enc:β→List Value}{w:World}{base:Nat}{A:Option Addr}{c:Nat}{l:List β}(hE:Enc enc 8)(cf:β→β→Int)(hO:SWO (ltOf cf))(g:Nat)(cb:Array Value)
  (eg:∀args w,(callFunc g args).run Tryz.prog w=.ok (.enter g args) w) (hcmp:∀(W:World) (x y:β),Calls Tryz.prog g (#[.agg (enc x).toArray,.agg (enc y).toArray]++cb) W fun e w'=>e=.returned (.int .i64 (cf x y))∧Gr W w')
  (h:Own 76 enc 8 w base A c l) (hb:base≤w.heap.size) (hsz:l.length<1000000000000000000):
  Calls Tryz.prog 56 #[.slice A l.length c,.func (.func g) #[] cb] w fun en w'=>en=.returned (.tuple #[])∧∃l':List β,StabOf (ltOf cf) l l'∧Own 76 enc 8 w' base A c l'∧Below base w w'∧w.heap.size≤w'.heap.size∧∀b,b<w.heap.size→(∀g,A=some ⟨g,0,none⟩→b≠g)→w'.heap[b]? =w.heap[b]? :=by
 rcases h.form with⟨rfl,rfl,rfl⟩|⟨g0,hA,hg1,hg2⟩
 ·have HN:=hid (fun w=>stb_none 0 (.func (.func g) #[] cb) w);have HW:=hid h;go_enter Tryz.func56,Tryz.ntmps56;go_wp2_with fail
  refine(HN.out _).mono ?_;rintro e w' ⟨rfl,rfl⟩;go_wp2;go_end0;exact⟨rfl,[],StabOf.nil,HW.out,Below.refl _ _,Nat.le_refl _,fun _ _ _=>rfl⟩
 ·have hT:Own 76 (encT enc) 8 w base A c l.zipIdx:=(Own.tag l.zipIdx (List.zipIdx_map_fst 0 l)).2 h;have hlz:l.zipIdx.length=l.length:=List.length_zipIdx;have R:RowK (encT enc) 8 w g0 0 l.zipIdx.toArray:=⟨(encT_ok hE).1,(encT_ok hE).2,hT.holds (encT_ok hE) hA,hg2⟩;have hC:CmpLays Tryz.prog g cb (encT enc) 8 (tagC cf) g0 0 l.zipIdx.toArray.size w:=fun _ _ _ _ x y=>hcmp _ x.1 y.1;have hS2:SWO (ltOf (tagC cf)):=⟨fun x=>hO.irrefl x.1,fun x y z=>hO.trans x.1 y.1 z.1,fun x y z=>hO.ntrans x.1 y.1 z.1⟩;have hsz2:l.zipIdx.toArray.size<1000000000000000000:=by simpa[hlz]using hsz
  have hIns:InsOk Tryz.prog (encT enc) 8 w g0 0 c g cb cf l.zipIdx.toArray:=by
   intro a b d W h1 h2 h3 h4;have:=AnyQ.insertionSortCmpFunc_w (P:=Tryz.prog) Tryz.lay_ins_f141 8 Tryz.isAgg76 Tryz.sizeOf76 (encT enc) (tagC cf) g cb g0 0 c a b l.zipIdx.toArray d w W eg hC R h1.symm h4 hS2 h2 h3 (by omega)
   rw[h1]at this;exact this
  have hst:=stable_any stF R hsz2 c g cb cf hC eg hO hIns (enters_of Tryz.func141 (by kernel_rfl) rfl) (by
   intro i hi;have hi':i<l.zipIdx.length:=by simpa using hi
   rw[getElem!_pos _ i hi];simp)
  have HST:=hid hst;have hss:l.zipIdx.toArray.size=l.length:=by simp
  rw[hss]at HST;have HB:=hid (fun n os (d':Array (β×Nat)) (hd:d'.size=l.zipIdx.length)=>hT.sorted (encT_ok hE) (g:=g0) (n:=n) (os:=os) (d':=d') hA hd);clear hC hS2 hIns hst R hT;have HA:=hid hA;subst hA;clear h;go_enter Tryz.func56,Tryz.ntmps56;go_wp2_with fail
  refine(HST.out).mono ?_;rintro e w' ⟨rfl,d',hp,hs,n,os,rfl⟩;have hd:d'.size=l.zipIdx.length:=by rw[hp.1];simp
  have HX:Hid (∃l':List β,StabOf (ltOf cf) l l'∧Own 76 enc 8 (sortWorldK (encT enc) 8 w g0 0 n d' os) base (some ⟨g0,0,none⟩) c l'∧Below base w (sortWorldK (encT enc) 8 w g0 0 n d' os)∧w.heap.size≤(sortWorldK (encT enc) 8 w g0 0 n d' os).heap.size∧∀b,b<w.heap.size→(∀g,some (⟨g0,0,none⟩:Addr)=some ⟨g,0,none⟩→b≠g)→(sortWorldK (encT enc) 8 w g0 0 n d' os).heap[b]? =w.heap[b]?):=by
   obtain⟨h1,h2⟩:=HB.out n os d' hd;refine⟨d'.toList.map Prod.fst,⟨d'.toList,?_,?_,rfl⟩,(Own.tag d'.toList rfl).1 h1,h2,size_sortWorldK_c _ _ _ _ _ _ _ _,fun b hb hne=>sortWorldK_other _ _ _ _ _ _ _ _ hb (hne g0 rfl)⟩
   ·have:=hp.2.2
    have e1:d'.extract 0 l.length=d':=by rw[show l.length=d'.size by rw[hd,hlz]];exact Array.extract_size
    have e2:l.zipIdx.toArray.extract 0 l.length=l.zipIdx.toArray:=by rw[←hss];exact Array.extract_size
    rw[e1,e2]at this;simpa using this
   ·rw[List.pairwise_iff_getElem];intro i j hi hj hij;have hi':i<d'.size:=by simpa using hi
    have hj':j<d'.size:=by simpa using hj
    have:=hs i j (Nat.zero_le _) hij (by omega)
    rw[getElem!_pos d' j hj',getElem!_pos d' i hi']at this;simpa using this
  clear hp hs;go_wp2;go_end0;exact⟨rfl,HX.out⟩
end PsSt
end
section
open Go.RowKit Go.Lib Go.Sort
open Mat
def cmpPg (a b:Pg):Int:=cmpPv a.v b.v
theorem cmpPg_pre:PreC cmpPg:=cmpPv_pre.on Pg.v
theorem ordered1_any (a b:Pg)(w:World):Calls Tryz.prog 57 #[PgV a,PgV b] w fun e w'=>e=.returned (.int .i64 (cmpPg a b))∧Gr w w':=by
 obtain⟨⟨a1,a2,a3,a4,a5,a6,a7,a8⟩,aA,ac⟩:=a;obtain⟨⟨b1,b2,b3,b4,b5,b6,b7,b8⟩,bA,bc⟩:=b;simp only[PgV,cmpPg,cmpPv];obtain⟨an,han⟩:∃n,a8.length=n:=⟨_,rfl⟩;obtain⟨bn,hbn⟩:∃n,b8.length=n:=⟨_,rfl⟩;rw[han,hbn];clear han hbn;obtain⟨Y1,hY1⟩:∃Y,w.alloc (.cells #[.string a1,.string a2,.int .i64 a3,.string a4,.string a5,.int .i64 a6,.int .i64 a7,.slice aA an ac] 76)=Y:=⟨_,rfl⟩;obtain⟨Y2,hY2⟩:∃Y,Y1.alloc (.cells #[.string b1,.string b2,.int .i64 b3,.string b4,.string b5,.int .i64 b6,.int .i64 b7,.slice bA bn bc] 76)=Y:=⟨_,rfl⟩;have gY:Gr w Y2:=(by rw[←hY2,←hY1];exact(Gr.alloc _ _).trans (Gr.alloc _ _));have BA:Blk Y2 w.heap.size #[.string a1,.string a2,.int .i64 a3,.string a4,.string a5,.int .i64 a6,.int .i64 a7,.slice aA an ac] 76:=(by rw[←hY2,←hY1];exact(Blk.new w _ _).alloc _);have BB:Blk Y2 Y1.heap.size #[.string b1,.string b2,.int .i64 b3,.string b4,.string b5,.int .i64 b6,.int .i64 b7,.slice bA bn bc] 76:=(by rw[←hY2];exact Blk.new Y1 _ _);have HSS:Hid ((fun w':World=>w'.cell? ⟨w.heap.size,0,none⟩=some (.string a1)∧w'.cell? ⟨w.heap.size,1,none⟩=some (.string a2)∧w'.cell? ⟨w.heap.size,2,none⟩=some (.int .i64 a3)∧w'.cell? ⟨Y1.heap.size,0,none⟩=some (.string b1)∧w'.cell? ⟨Y1.heap.size,1,none⟩=some (.string b2)∧w'.cell? ⟨Y1.heap.size,2,none⟩=some (.int .i64 b3)) Y2):=hid ⟨BA.cell 0 rfl,BA.cell 1 rfl,BA.cell 2 rfl,BB.cell 0 rfl,BB.cell 1 rfl,BB.cell 2 rfl⟩;have HBA:=hid BA;have HBB:=hid BB;clear BA BB;go_enter Tryz.func57,Tryz.ntmps57;go_wp2_with fail;refine wp_region_held_drew (S:=(fun w':World=>w'.cell? ⟨w.heap.size,0,none⟩=some (.string a1)∧w'.cell? ⟨w.heap.size,1,none⟩=some (.string a2)∧w'.cell? ⟨w.heap.size,2,none⟩=some (.int .i64 a3)∧w'.cell? ⟨Y1.heap.size,0,none⟩=some (.string b1)∧w'.cell? ⟨Y1.heap.size,1,none⟩=some (.string b2)∧w'.cell? ⟨Y1.heap.size,2,none⟩=some (.int .i64 b3))) (by kernel_rfl) ?_ (fun hHeld=> ?_);(focus exact HSS.out);have hSS:(fun w':World=>w'.cell? ⟨w.heap.size,0,none⟩=some (.string a1)∧w'.cell? ⟨w.heap.size,1,none⟩=some (.string a2)∧w'.cell? ⟨w.heap.size,2,none⟩=some (.int .i64 a3)∧w'.cell? ⟨Y1.heap.size,0,none⟩=some (.string b1)∧w'.cell? ⟨Y1.heap.size,1,none⟩=some (.string b2)∧w'.cell? ⟨Y1.heap.size,2,none⟩=some (.int .i64 b3)) Y2.drew:=HSS.out;have gW:Gr w Y2.drew:=gY.drew;have HBA:=hid HBA.out.drew;have HBB:=hid HBB.out.drew;clear HSS hY1 hY2 gY;generalize Y2.drew=W0 at hSS gW hHeld HBA HBB ⊢;change wpAnyH _ _ _ _ _ 18 _ _ _
 refine tk 0 (h:= ?_);refine tk 1 (h:= ?_);refine tk 2 (h:= ?_);refine tk 3 (h:= ?_);refine tk 5 (h:= ?_);refine tk 6 (h:= ?_);refine tk 7 (h:= ?_);refine tk 8 (h:= ?_);refine tk 10 (h:= ?_);refine tk 11 (h:= ?_);refine tk 12 (h:= ?_);refine tk 13 (h:= ?_);refine rd1 4 (h:=fun K hK=> ?_);rw[if_pos (by rfl)];go_wp2_with fail;refine(cmpInt_any _ _ _).mono ?_;rintro e wn ⟨rfl,rfl⟩;go_wp2_with fail;refine hK.out _ _ ?_ (fun hHeld=> ?_);(focus exact hSS);clear hK K;refine td (h:= ?_)
 refine rd1 9 (h:=fun K hK=> ?_);rw[if_pos (by rfl)];go_wp2_with fail;refine(cmpStr_any _ _ _).mono ?_;rintro e wn ⟨rfl,rfl⟩;go_wp2_with fail;refine hK.out _ _ ?_ (fun hHeld=> ?_);(focus exact hSS);clear hK K;refine td (h:= ?_)
 refine rd1 14 (h:=fun K hK=> ?_);rw[if_pos (by rfl)];go_wp2_with fail;refine(cmpStr_any _ _ _).mono ?_;rintro e wn ⟨rfl,rfl⟩;go_wp2_with fail;refine hK.out _ _ ?_ (fun hHeld=> ?_);(focus exact hSS);clear hK K;refine td (h:= ?_)
 (obtain⟨Z,hZ⟩:∃x,World.alloc wn (.cells #[.int .i64 (cmpI a3 b3),.int .i64 (cmpS a2 b2),.int .i64 (cmpS a1 b1)] 3)=x:=⟨_,rfl⟩);have gZ:Gr w Z:=(by rw[←hZ];exact gW.trans (Gr.alloc _ _));have hSS:(fun w':World=>w'.cell? ⟨w.heap.size,0,none⟩=some (.string a1)∧w'.cell? ⟨w.heap.size,1,none⟩=some (.string a2)∧w'.cell? ⟨w.heap.size,2,none⟩=some (.int .i64 a3)∧w'.cell? ⟨Y1.heap.size,0,none⟩=some (.string b1)∧w'.cell? ⟨Y1.heap.size,1,none⟩=some (.string b2)∧w'.cell? ⟨Y1.heap.size,2,none⟩=some (.int .i64 b3)) Z:=(by have BA:=HBA.out.alloc (.cells #[.int .i64 (cmpI a3 b3),.int .i64 (cmpS a2 b2),.int .i64 (cmpS a1 b1)] 3);have BB:=HBB.out.alloc (.cells #[.int .i64 (cmpI a3 b3),.int .i64 (cmpS a2 b2),.int .i64 (cmpS a1 b1)] 3);rw[hZ]at BA BB;exact⟨BA.cell 0 rfl,BA.cell 1 rfl,BA.cell 2 rfl,BB.cell 0 rfl,BB.cell 1 rfl,BB.cell 2 rfl⟩);have rdl:Rd encI 1 Z Z.heap.size (some ⟨wn.heap.size,0,none⟩) [cmpI a3 b3,cmpS a2 b2,cmpS a1 b1]:=(by rw[←hZ];exact Rd.lit wn _ encI_ok rfl (by simp));refine rd1 15 (h:=fun K hK=> ?_);rw[if_pos (by rfl)];go_wp2_with fail;refine hK.out _ _ ?_ (fun hHeld=> ?_);(focus exact hSS);clear hK K hZ HBA HBB gW;refine td (h:= ?_);refine rd1 16 (h:=fun K hK=> ?_);rw[if_pos (by rfl)];go_wp2_with fail;refine(or_any 3 rdl (by simp)).mono ?_;rintro e wn ⟨rfl,rfl⟩;go_wp2_with fail;refine hK.out _ _ ?_ (fun hHeld=> ?_);(focus exact hSS);clear hK K;refine td (h:= ?_);refine tk 17 (h:= ?_);refine wpAnyH_done (by kernel_rfl) ?_ _;go_wp2_with fail;go_ret;exact⟨rfl,gZ⟩
theorem ordered_any {A:Option Addr}{c:Nat}{l:List Pg}{w:World}{base:Nat}(h:Own 76 encPg 8 w base A c l)(hb:base≤w.heap.size)(hsz:l.length<1000000000000000000):
  Calls Tryz.prog 28 #[.slice A l.length c] w fun e w'=>e=.returned (.slice A l.length c)∧Own 76 encPg 8 w' base A c (ordS (ltOf cmpPg) l)∧Below base w w'∧∀b,b<w.heap.size→(∀g,A=some ⟨g,0,none⟩→b≠g)→w'.heap[b]? =w.heap[b]? :=by
 have eg:∀args w,(callFunc 57 args).run Tryz.prog w=.ok (.enter 57 args) w:=enters_of Tryz.func57 (by kernel_rfl) rfl;have CS:=hid (PsSt.stab_own (w:=w) encPg_ok cmpPg cmpPg_pre.swo 57 #[] eg (fun W x y=>ordered1_any x y W) h hb hsz);clear h hb hsz eg;go_enter Tryz.func28,Tryz.ntmps28;go_wp2_with fail
 refine CS.out.mono ?_;rintro e w' ⟨rfl,l',hs,ho,hbl,hz,hot⟩;have:=hs.ord cmpPg_pre.swo
 subst this;have HO:=hid ho;have HB:=hid hbl;have HT:=hid hot;clear hs ho hbl hz hot CS;go_wp2_with fail
 go_ret;exact⟨rfl,HO.out,HB.out,HT.out⟩
end
section
open Go.RowKit Go.Lib Go.Sort
open Mat
theorem insS_map {α β:Type}(f:α→β)(lt:β→β→Bool)(x:α):∀l:List α,(insS (fun a b=>lt (f a) (f b)) x l).map f=insS lt (f x) (l.map f)
 |[]=>rfl
 |y::r=>by
  show(if lt (f x) (f y)=true then x::y::r else y::insS (fun a b=>lt (f a) (f b)) x r).map f=(if lt (f x) (f y)=true then f x::f y::r.map f else f y::insS lt (f x) (r.map f))
  split
  ·rfl
  ·rw[List.map_cons,insS_map f lt x r]
theorem ordS_map {α β:Type}(f:α→β)(lt:β→β→Bool)(l:List α):(ordS (fun a b=>lt (f a) (f b)) l).map f=ordS lt (l.map f):=by
 have:∀(l r:List α),(l.foldl (fun r x=>insS (fun a b=>lt (f a) (f b)) x r) r).map f=(l.map f).foldl (fun r x=>insS lt x r) (r.map f):=by
  intro l;induction l with
  |nil=>intro r;rfl
  |cons x l ih=>
   intro r;rw[List.foldl_cons,ih,insS_map,List.map_cons,List.foldl_cons]
 exact this l []
theorem ordPg_map (l:List Pg):(ordS (ltOf cmpPg) l).map Pg.v=ordS (ltOf cmpPv) (l.map Pg.v):=ordS_map Pg.v (ltOf cmpPv) l
theorem itoaB_size {n:Int}(h0:0≤n)(h1:n≤1000000000000000000):(itoaB n).size≤1000:=by
 have:=itoa_length_le n (by omega) (by omega)
 unfold itoaB;show((Lib.itoa n).toArray).size≤1000
 rw[List.size_toArray];omega
end
end Go.Proofs.YtimffppffbideaaGreatDoor
