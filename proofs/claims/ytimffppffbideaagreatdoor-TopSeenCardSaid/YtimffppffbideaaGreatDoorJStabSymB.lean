import Derived.Test.YtimffppffbideaaGreatDoorJStabSwap
set_option linter.unusedSimpArgs false
set_option linter.unusedVariables false
set_option maxRecDepth 1000000
set_option maxHeartbeats 16000000
namespace Go.Proofs.YtimffppffbideaaGreatDoor
section
open Go.RowKit Go.Lib Go.Sort Go.Shelf
section
variable {P:Program}{α:Type}[Inhabited α]{enc:α×Nat→List Value}{k:Nat}{w0:World}{blk off:Nat}{d0:Array (α×Nat)}
theorem Crs.out {a m b x y:Nat}{d d':Array (α×Nat)}(h:Crs a m b d)(hy:y≤a∨b≤x)(p:PermIn x y d d'):Crs a m b d':=by
 intro i j h1 h2 h3 h4;rw[p.2.1 i (by omega),p.2.1 j (by omega)];exact h i j h1 h2 h3 h4
def SymOk (P:Program)(enc:α×Nat→List Value)(k:Nat)(w0:World)(blk off cap g:Nat)(cb:Array Value)(cf:α→α→Int)(n:Nat)(d0:Array (α×Nat)):Prop:=
 ∀(A M B:Int) (d:Array (α×Nat)) (W:World),0≤A→A<M→M<B→B≤d0.size→d.size=d0.size→(B-A).toNat≤n→
  Srt (ltOf cf) A.toNat M.toNat d→Srt (ltOf cf) M.toNat B.toNat d→Crs A.toNat M.toNat B.toNat d→SWK enc k w0 blk off d W→
  Calls P 148 #[.slice (some ⟨blk,off,none⟩) d0.size cap,.int .i64 A,.int .i64 M,.int .i64 B,.func (.func g) #[] cb] W (MergeR enc k w0 blk off (ltOf cf) A.toNat B.toNat d)
theorem symBig_any (S:StF P k)(R:RowK enc k w0 blk off d0)(hsz:d0.size<4611686018427387904)(cap g:Nat)(cb:Array Value)(cf:α→α→Int)(hC:CmpLays P g cb enc k (tagC cf) blk off d0.size w0)
  (eg:∀args w,(callFunc g args).run P w=.ok (.enter g args) w) (hS:SWO (ltOf cf)) (n:Nat) (ih:SymOk P enc k w0 blk off cap g cb cf n d0)
  (A M B:Int) (d:Array (α×Nat)) (W:World) (hA0:0≤A) (hAM:A+1<M) (hMB:M+1<B) (hB:B≤d0.size) (hs:d.size=d0.size) (hn:(B-A).toNat≤n+1)
  (hl:Srt (ltOf cf) A.toNat M.toNat d) (hr:Srt (ltOf cf) M.toNat B.toNat d) (hc:Crs A.toNat M.toNat B.toNat d) (hW:SWK enc k w0 blk off d W):
  Calls P 148 #[.slice (some ⟨blk,off,none⟩) d0.size cap,.int .i64 A,.int .i64 M,.int .i64 B,.func (.func g) #[] cb] W (MergeR enc k w0 blk off (ltOf cf) A.toNat B.toNat d):=by
 have mixed:=S.mixed;have t0:=S.t0;have a0:=S.a0;have z0:=S.z0;have v0:=S.v0;have t3:=S.t3;have a3:=S.a3;have z3:=S.z3;have v3:=S.v3;have t4:=S.t4;have a4:=S.a4;have z4:=S.z4;have v4:=S.v4;have t22:=S.t22;have a22:=S.a22;have z22:=S.z22;have v22:=S.v22;have t78:=S.t78;have a78:=S.a78;have z78:=S.z78;have v78:=S.v78;have t96:=S.t96;have a96:=S.a96;have z96:=S.z96;have v96:=S.v96;have aE:=S.aE;have zE:=S.zE;have u22:=run_underlying S.t22;have F:=S.fsy;have eSY:∀args w,(callFunc 148 args).run P w=.ok (.enter 148 args) w:=enters_of S.fsy (by kernel_rfl) rfl;have eRO:∀args w,(callFunc 173 args).run P w=.ok (.enter 173 args) w:=enters_of S.fro (by kernel_rfl) rfl;have HRO:=hid (fun(dk:Array (α×Nat)) (X:World) (h1:dk.size=d0.size) (s m e:Nat) (h2:s<m) (h3:m<e) (h4:e≤dk.size) (h5:SWK enc k w0 blk off dk X)=>rotate_any S R h1 (by omega) cap s m e (.func (.func g) #[] cb) h2 h3 h4 h5);have HFin:Hid (∀(d1 d3:Array (α×Nat)) (w':World),PermIn A.toNat B.toNat d d1→(PermIn A.toNat B.toNat d1 d3∧Srt (ltOf cf) A.toNat B.toNat d3)→SWK enc k w0 blk off d3 w'→MergeR enc k w0 blk off (ltOf cf) A.toNat B.toNat d (.returned (.tuple #[])) w'):=
  fun d1 d3 w' h1 h2 h3=>⟨rfl,d3,permIn_trans _ _ _ _ _ h1 h2.1,h2.2,h3⟩
 have HMid:Hid (∀(s e mid:Nat) (d':Array (α×Nat)),A.toNat≤s→s≤M.toNat→M.toNat≤e→e≤B.toNat→mid=s+(e-M.toNat)→(s=A.toNat∨e=B.toNat∨fstB (ltOf cf) d[e]! d[s-1]! =false)→(s=M.toNat∨e=M.toNat∨fstB (ltOf cf) d[e-1]! d[s]! =true)→Moved (roF s M.toNat e) d d'→Srt (ltOf cf) A.toNat s d'∧Srt (ltOf cf) s mid d'∧Crs A.toNat s mid d'∧Srt (ltOf cf) mid e d'∧Srt (ltOf cf) e B.toNat d'∧Crs mid e B.toNat d'∧∀i j,A.toNat≤i→i<mid→mid≤j→j<B.toNat→lexB (ltOf cf) d'[j]! d'[i]! =false):=
  fun s e mid d' h1 h2 h3 h4 h5 h6 h7 h8=>merge_mid hS h1 h2 h3 h4 (by omega) h5 hl hr hc h6 h7 h8
 have HW:=hid hW;have HR:=hid R;have HC:=hid hC;have HI:Hid _:=ih;have hmz:(M-A==1)=false:=by simp;omega
 have hbz:(B-M==1)=false:=by simp;omega
 have hsd:=hs;have HSD:=hid hs;clear hW R S hC hl hr hc hs ih;generalize MergeR enc k w0 blk off (ltOf cf) A.toNat B.toNat d=MR at*;obtain⟨mid,hmid⟩:∃mid,(A+B)/2=mid:=⟨_,rfl⟩;have hm1:A<mid:=by omega
 have hm2:mid<B:=by omega
 have hm3:A+B-1≤2*mid:=by omega
 have hm4:2*mid≤A+B:=by omega
 have hab0:0≤A+B:=by omega
 have hab1:A+B<9223372036854775807:=by omega
 obtain⟨s0,r0,⟨hsr,hss,hrr⟩|⟨hsr,hss,hrr⟩⟩:∃s0 r0:Int,(M>mid∧s0=mid+M-B∧r0=mid)∨(¬M>mid∧s0=A∧r0=M):=by
  by_cases h:M>mid
  ·exact⟨_,_,.inl ⟨h,rfl,rfl⟩⟩
  ·exact⟨_,_,.inr ⟨h,rfl,rfl⟩⟩
 all_goals
  go_enter F,Tryz.ntmps148;go_wp2_with fail
  go_loopg [20,21] (r0-s0).toNat (fun g1 vi vj wr=>∃i j:Int,vi=.int .i64 i∧vj=.int .i64 j∧s0≤i∧i≤j∧j≤r0∧j-i≤g1∧Hid ((i=s0∨fstB (ltOf cf) d[(mid+M-i).toNat]! d[i.toNat-1]! =false)∧(j=r0∨fstB (ltOf cf) d[(mid+M-1-j).toNat]! d[j.toNat]! =true))∧Hid (SWK enc k w0 blk off d wr))
  case atStart=>exact⟨s0,r0,(by subst hss;rfl),(by subst hrr;rfl),Int.le_refl _,by omega,Int.le_refl _,by omega,⟨.inl rfl,.inl rfl⟩,HW⟩
  case round=>
   obtain⟨i,j,rfl,rfl,hi,hij,hj,hg1,HB,HK⟩:=hrel;have HSS:=hid hss;have HRR:=hid hrr;by_cases hlt:i<j
   ·have m1:i≤(i+j)/2:=by omega
    have m2:(i+j)/2<j:=by omega
    have m0:0≤(i+j)/2:=by omega
    have t0':0≤i+j:=by omega
    obtain⟨c,hc⟩:∃c,(i+j)/2=c:=⟨_,rfl⟩;obtain⟨px,hx⟩:∃px,mid+M-1-c=px:=⟨_,rfl⟩;have x0:0≤px:=by omega
    have x1:px<(d0.size:Int):=by omega
    have y0:0≤c:=by omega
    have y1:c<(d0.size:Int):=by omega
    have hX:px.toNat<d.size:=by omega
    have hY:c.toNat<d.size:=by omega
    have hw1:IntKind.i64.wrap (mid+M-1-c)=px:=by rw[IntKind.wrap_i64];omega
    have HXX:=hid hx;clear hx;have z1:i≤c∧c<j:=by omega
    obtain⟨z1,z2⟩:=z1;have z3:c+1≤r0∧s0≤c∧s0≤c+1∧c≤r0:=by omega
    have Z3:=hid z3;clear z3 m1 m2 m0 hss hrr;have lx:=HK.out.ld HR.out hsd P px.toNat hX;have ly:=HK.out.ld HR.out hsd P c.toNat hY;have GR:=hid (fun n' os'=>HK.out.grown n' os');have hcg:=fun n' os'=>HK.out.cmp HC.out hsd d[px.toNat]! d[c.toNat]! n' os';obtain⟨xh,hxh⟩:∃x,d[px.toNat]! =x:=⟨_,rfl⟩;obtain⟨xa,hxa⟩:∃x,d[c.toNat]! =x:=⟨_,rfl⟩;rw[hxh]at lx hcg;rw[hxa]at ly hcg;have HXH:=hid hxh;have HXA:=hid hxa;clear hxh hxa;by_cases hlv:tagC cf xh xa<0
    ·have HB2:Hid ((i=s0∨fstB (ltOf cf) d[(mid+M-i).toNat]! d[i.toNat-1]! =false)∧(c=r0∨fstB (ltOf cf) d[(mid+M-1-c).toNat]! d[c.toNat]! =true)):=⟨HB.out.1,.inr (by rw[HXX.out,HXH.out,HXA.out];exact decide_eq_true hlv)⟩;have hdc:decide (tagC cf xh xa<0)=true:=decide_eq_true hlv;generalize tagC cf xh xa=tc at*;go_wp2_with fail
     go_quiet_grown(first|(go_at_fn g;refine Calls.grown_of (hcg _ _)))
     go_wp2;go_roundg (c-i).toNat
     case measure=>omega
     case rel=>exact⟨i,c,rfl,rfl,hi,z1,Z3.out.2.2.2,by omega,HB2,GR.out _ _⟩
    ·have HB2:Hid ((c+1=s0∨fstB (ltOf cf) d[(mid+M-(c+1)).toNat]! d[(c+1).toNat-1]! =false)∧(j=r0∨fstB (ltOf cf) d[(mid+M-1-j).toNat]! d[j.toNat]! =true)):=⟨.inr (by rw[show(mid+M-(c+1)).toNat=px.toNat by have:=HXX.out;omega,show(c+1).toNat-1=c.toNat by omega,HXH.out,HXA.out];exact decide_eq_false hlv),HB.out.2⟩;have hdc:decide (tagC cf xh xa<0)=false:=decide_eq_false hlv;generalize tagC cf xh xa=tc at*;go_wp2_with fail
     go_quiet_grown(first|(go_at_fn g;refine Calls.grown_of (hcg _ _)))
     go_wp2;go_roundg (j-(c+1)).toNat
     case measure=>omega
     case rel=>exact⟨c+1,j,rfl,rfl,Z3.out.2.2.1,by omega,hj,by omega,HB2,GR.out _ _⟩
   ·obtain rfl:i=j:=by omega
    obtain⟨E,hE⟩:∃E,mid+M-i=E:=⟨_,rfl⟩;have e1:A≤i∧i≤M∧M≤E∧E≤B∧i≤mid∧mid≤E:=by omega
    obtain⟨e1,e2,e3,e4,e5,e6⟩:=e1;have hHM:=fun d1=>HMid.out i.toNat E.toNat mid.toNat d1 (by omega) (by omega) (by omega) (by omega) (by omega)
     (by rcases HB.out.1 with q|q;(first|(left;omega)|(right;left;omega));(right;right;rwa [hE]at q))
     (by rcases HB.out.2 with q|q;(first|(left;omega)|(right;left;omega));(right;right;rwa [show(mid+M-1-i).toNat=E.toNat-1 by omega]at q))
    have HM:=hid hHM;clear hHM HB HMid hss hrr;by_cases c12:i<M∧M<E;case' pos=>
     obtain⟨c1,c2⟩:=c12;have hCR:=HRO.out d wr HSD.out i.toNat M.toNat E.toNat (by omega) (by omega) (by rw[HSD.out];omega) HK.out;rw[show((i.toNat:Nat):Int)=i by omega,show((M.toNat:Nat):Int)=M by omega,show((E.toNat:Nat):Int)=E by omega,HSD.out]at hCR;have CR:=hid hCR;clear hCR;go_wp2_with fail
     refine CR.out.mono ?_;rintro en w1 ⟨rfl,d1,hM,hP,hK⟩;have H7:=hid (HM.out d1 hM);have HP1:=hid (hP A.toNat B.toNat (by omega) (by omega) (by omega));have HS1:=hid (hM.1.trans HSD.out);have HK1:=hid hK;clear hM hP hK
    case' neg=>
     obtain⟨d1,hd1⟩:∃d1,d1=d:=⟨_,rfl⟩;have H7:=hid (HM.out d ((Moved.refl d).congr fun t _=>(roF_none (by omega) (by omega) (by omega)).symm));have HP1:Hid (PermIn A.toNat B.toNat d d1):=by rw[hd1];exact permIn_refl _ _ _
     have HS1:=hid HSD.out;have HK1:=hid HK.out;rw[←hd1]at H7 HK1 HS1;clear hd1;by_cases c1:i<M;case' pos=>have c2:¬M<E:=by omega
     all_goals clear c12
    all_goals
     by_cases c3:A<i∧i<mid;case' pos=>
      obtain⟨c3,c4⟩:=c3;have CQ1:=hid (HI.out A i mid d1 _ hA0 c3 c4 (by omega) HS1.out (by omega) H7.out.1 H7.out.2.1 H7.out.2.2.1 HK1.out);go_wp2_with fail;refine CQ1.out.mono ?_;rintro en w2 ⟨rfl,d2,p2,s2,k2⟩;have HP2:=hid p2;have HS2:=hid s2;have HK2:=hid k2;clear p2 s2 k2
     case' neg=>
      obtain⟨d2,hd2⟩:∃d2,d2=d1:=⟨_,rfl⟩;have HP2:Hid (PermIn A.toNat mid.toNat d1 d2):=(by rw[hd2];exact permIn_refl _ _ _);have HS2:Hid (Srt (ltOf cf) A.toNat mid.toNat d2):=(by rw[hd2];by_cases q:A<i;(have e:mid.toNat=i.toNat:=(by omega);rw[e];exact H7.out.1);(have e:A.toNat=i.toNat:=(by omega);rw[e];exact H7.out.2.1));have HK2:=hid HK1.out;rw[←hd2]at HK2;clear hd2;by_cases q:A<i;case' pos=>have q2:¬i<mid:=by omega
      all_goals clear c3
      all_goals try(exfalso;omega)
    all_goals
     have h7:=H7.out;by_cases c5:mid<E∧E<B;(focus(obtain⟨c5,c6⟩:=c5;have CQ2:=hid (HI.out mid E B d2 _ (by omega) c5 c6 hB (HP2.out.1.trans HS1.out) (by omega) (h7.2.2.2.1.out (.inl (Nat.le_refl _)) HP2.out) (h7.2.2.2.2.1.out (.inl (by omega)) HP2.out) (Crs.out h7.2.2.2.2.2.1 (.inl (Nat.le_refl _)) HP2.out) HK2.out);have HJ2:=hid (fun d3 (p3:PermIn mid.toNat B.toNat d2 d3) (s3:Srt (ltOf cf) mid.toNat B.toNat d3)=>merge_join hS (by omega) (by omega) (by have:=HS1.out;omega) h7.2.2.2.2.2.2 HP2.out HS2.out p3 s3);clear h7;go_wp2_with fail;all_goals(refine CQ2.out.mono ?_;rintro en wz ⟨rfl,d3,p3,s3,k3⟩;have HX:=hid (HFin.out d1 d3 wz HP1.out (HJ2.out d3 p3 s3) k3);clear p3 s3 k3;go_wp2;all_goals(first|exact HX.out|(go_end0;exact HX.out)))));(focus(have s3:Srt (ltOf cf) mid.toNat B.toNat d2:=(by by_cases q:mid<E;(have e:B.toNat=E.toNat:=(by omega);rw[e];exact h7.2.2.2.1.out (.inl (Nat.le_refl _)) HP2.out);(have e:mid.toNat=E.toNat:=(by omega);rw[e];exact h7.2.2.2.2.1.out (.inl (by omega)) HP2.out));have HX:=hid (HFin.out d1 d2 _ HP1.out (merge_join hS (by omega) (by omega) (by have:=HS1.out;omega) h7.2.2.2.2.2.2 HP2.out HS2.out (permIn_refl _ _ _) s3) HK2.out);clear h7 s3;by_cases q:mid<E;(focus(have q2:¬E<B:=(by omega);clear c5;go_wp2;all_goals(first|exact HX.out|(go_end0;exact HX.out))));(focus(clear c5;go_wp2;all_goals(first|exact HX.out|(go_end0;exact HX.out))))))
end
end
section
open Go.Sort
section
variable {α:Type}[Inhabited α]{lt:α→α→Bool}
def InB (s q i:Nat):Prop:=s*q≤i∧i<s*q+s
theorem InB.uniq {s q p i:Nat}(h:InB s q i)(k:InB s p i):q=p:=by
 unfold InB at h k;have a:s*q<s*(p+1):=by rw[Nat.mul_succ];omega
 have b:s*p<s*(q+1):=by rw[Nat.mul_succ];omega
 have:=Nat.lt_of_mul_lt_mul_left a
 have:=Nat.lt_of_mul_lt_mul_left b
 omega
theorem InB.half {s q i:Nat}(h:InB (2*s) q i):InB s (2*q) i∨InB s (2*q+1) i:=by
 unfold InB at*;have e1:s*(2*q)=2*s*q:=by rw[Nat.mul_left_comm,Nat.mul_assoc]
 have e2:s*(2*q+1)=2*s*q+s:=by rw[Nat.mul_succ,e1]
 omega
theorem InB.dbl {s q i:Nat}(h:InB s (2*q) i∨InB s (2*q+1) i):InB (2*s) q i:=by
 unfold InB at*;have e1:s*(2*q)=2*s*q:=by rw[Nat.mul_left_comm,Nat.mul_assoc]
 have e2:s*(2*q+1)=2*s*q+s:=by rw[Nat.mul_succ,e1]
 omega
def FullB (lt:α→α→Bool)(nn s:Nat)(d:Array (α×Nat)):Prop:=
 (∀q i j,InB s q i→i<j→InB s q j→j<nn→lexB lt d[j]! d[i]! =false)∧∀q i,InB s q i→i<nn→InB s q d[i]!.2
def MidB (lt:α→α→Bool)(nn s a:Nat)(d:Array (α×Nat)):Prop:=
 (∀q i j,InB (2*s) q i→i<j→InB (2*s) q j→j<a→j<nn→lexB lt d[j]! d[i]! =false)∧
 (∀q i j,InB s q i→i<j→InB s q j→a≤i→j<nn→lexB lt d[j]! d[i]! =false)∧
 (∀q i,InB s q i→a≤i→i<nn→InB s q d[i]!.2)∧∀q i,InB (2*s) q i→i<nn→InB (2*s) q d[i]!.2
theorem FullB.start {nn s:Nat}{d:Array (α×Nat)}(h:FullB lt nn s d):MidB lt nn s 0 d:=by
 refine⟨fun q i j _ _ _ h4 _=>by omega,fun q i j h1 h2 h3 _ h4=>h.1 q i j h1 h2 h3 h4,fun q i h1 _ h2=>h.2 q i h1 h2,fun q i h1 h2=> ?_⟩;rcases h1.half with k|k
 ·exact InB.dbl (.inl (h.2 _ i k h2))
 ·exact InB.dbl (.inr (h.2 _ i k h2))
theorem FullB.all {nn s:Nat}{d:Array (α×Nat)}(h:FullB lt nn s d)(hs:nn≤s):Srt lt 0 nn d:=
 fun i j _ h2 h3=>h.1 0 i j (by unfold InB;omega) h2 (by unfold InB;omega) h3
theorem MidB.prem {nn s a q b:Nat}{d:Array (α×Nat)}(h:MidB lt nn s a d)(ha:a=2*s*q)(hb:b≤nn)(hb2:b≤a+2*s)(hb3:a+s<b):
  Srt lt a (a+s) d∧Srt lt (a+s) b d∧Crs a (a+s) b d:=by
 have e1:s*(2*q)=a:=by rw[ha,Nat.mul_left_comm,Nat.mul_assoc]
 have e2:s*(2*q+1)=a+s:=by rw[Nat.mul_succ,e1]
 refine⟨fun i j h1 h2 h3=>h.2.1 (2*q) i j (by unfold InB;omega) h2 (by unfold InB;omega) h1 (by omega),fun i j h1 h2 h3=>h.2.1 (2*q+1) i j (by unfold InB;omega) h2 (by unfold InB;omega) (by omega) (by omega),fun i j h1 h2 h3 h4=> ?_⟩;have k1:=h.2.2.1 (2*q) i (by unfold InB;omega) h1 (by omega);have k2:=h.2.2.1 (2*q+1) j (by unfold InB;omega) (by omega) (by omega);unfold InB at k1 k2;omega
theorem MidB.step {nn s a q b:Nat}{d d':Array (α×Nat)}(h:MidB lt nn s a d)(ha:a=2*s*q)(hab:a≤b)(hb:b≤nn)(hb2:b≤a+2*s)(hsz:nn≤d.size)(p:PermIn a b d d')(hs:Srt lt a b d'):MidB lt nn s b d':=by
 have blk:∀i,a≤i→i<b→InB (2*s) q i:=fun i h1 h2=>by unfold InB;omega
 refine⟨fun r i j h1 h2 h3 h4 h5=> ?_,fun r i j h1 h2 h3 h4 h5=> ?_,fun r i h1 h2 h3=> ?_,fun r i h1 h2=> ?_⟩
 ·by_cases hj:j<a
  ·rw[p.2.1 i (.inl (by omega)),p.2.1 j (.inl hj)];exact h.1 r i j h1 h2 h3 hj h5
  ·obtain rfl:=h3.uniq (blk j (by omega) h4);unfold InB at h1;exact hs i j (by omega) h2 h4
 ·rw[p.2.1 i (.inr h4),p.2.1 j (.inr (by omega))];exact h.2.1 r i j h1 h2 h3 (by omega) h5
 ·rw[p.2.1 i (.inr h2)];exact h.2.2.1 r i h1 (by omega) h3
 ·by_cases hi:a≤i∧i<b
  ·obtain rfl:=h1.uniq (blk i hi.1 hi.2);exact permIn_all d d' a b (fun x=>InB (2*s) r x.2) (by omega) p (fun u h5 h6=>h.2.2.2 r u (blk u h5 h6) (by omega)) i hi.1 hi.2
  ·rw[p.2.1 i (by omega)];exact h.2.2.2 r i h1 h2
theorem MidB.done {nn s a q:Nat}{d:Array (α×Nat)}(h:MidB lt nn s a d)(ha:a=2*s*q)(hn:nn≤a+s):FullB lt nn (2*s) d:=by
 have e1:s*(2*q)=a:=by rw[ha,Nat.mul_left_comm,Nat.mul_assoc]
 refine⟨fun r i j h1 h2 h3 h4=> ?_,fun r i h1 h2=>h.2.2.2 r i h1 h2⟩;by_cases hj:j<a
 ·exact h.1 r i j h1 h2 h3 hj h4
 ·have:InB (2*s) q j:=by unfold InB;omega
  obtain rfl:=h3.uniq this;unfold InB at h1;exact h.2.1 (2*r) i j (by unfold InB;omega) h2 (by unfold InB;omega) (by omega) h4
theorem MidB.full {nn s:Nat}{d:Array (α×Nat)}(h:MidB lt nn s nn d):FullB lt nn (2*s) d:=
 ⟨fun r i j h1 h2 h3 h4=>h.1 r i j h1 h2 h3 h4 h4,fun r i h1 h2=>h.2.2.2 r i h1 h2⟩
def InsB (lt:α→α→Bool)(nn a:Nat)(d:Array (α×Nat)):Prop:=
 (∀q i j,InB 20 q i→i<j→InB 20 q j→j<a→lexB lt d[j]! d[i]! =false)∧(∀i,a≤i→i<nn→d[i]!.2=i)∧∀q i,InB 20 q i→i<a→InB 20 q d[i]!.2
theorem InsB.start {nn:Nat}{d:Array (α×Nat)}(h:∀i,i<nn→d[i]!.2=i):InsB lt nn 0 d:=
 ⟨fun q i j _ _ _ h4=>by omega,fun i _ h2=>h i h2,fun q i _ h2=>by omega⟩
theorem InsB.prem {nn a b:Nat}{d:Array (α×Nat)}(h:InsB lt nn a d)(hb:b≤nn):∀s t,a≤s→s<t→t<b→d[s]!.2<d[t]!.2:=
 fun s t h1 h2 h3=>by rw[h.2.1 s h1 (by omega),h.2.1 t (by omega) (by omega)];exact h2
theorem InsB.step {nn a q b:Nat}{d d':Array (α×Nat)}(h:InsB lt nn a d)(ha:a=20*q)(hab:a≤b)(hb:b≤nn)(hb2:b≤a+20)(hsz:nn≤d.size)(p:PermIn a b d d')(hs:Srt lt a b d'):InsB lt nn b d':=by
 have blk:∀i,a≤i→i<b→InB 20 q i:=fun i h1 h2=>by unfold InB;omega
 refine⟨fun r i j h1 h2 h3 h4=> ?_,fun i h1 h2=> ?_,fun r i h1 h2=> ?_⟩
 ·by_cases hj:j<a
  ·rw[p.2.1 i (.inl (by omega)),p.2.1 j (.inl hj)];exact h.1 r i j h1 h2 h3 hj
  ·obtain rfl:=h3.uniq (blk j (by omega) h4);unfold InB at h1;exact hs i j (by omega) h2 h4
 ·rw[p.2.1 i (.inr h1)];exact h.2.1 i (by omega) h2
 ·by_cases hi:a≤i
  ·obtain rfl:=h1.uniq (blk i hi h2);exact permIn_all d d' a b (fun x=>InB 20 r x.2) (by omega) p (fun u h5 h6=>by rw[h.2.1 u h5 (by omega)];exact blk u h5 h6) i hi h2
  ·rw[p.2.1 i (.inl (by omega))];exact h.2.2 r i h1 (by omega)
theorem InsB.full {nn:Nat}{d:Array (α×Nat)}(h:InsB lt nn nn d):FullB lt nn 20 d:=⟨h.1,h.2.2⟩
end
end
section
open Go.RowKit Go.Lib Go.Sort Go.Shelf
section
variable {P:Program}{α:Type}[Inhabited α]{enc:α×Nat→List Value}{k:Nat}{w0:World}{blk off:Nat}{d0:Array (α×Nat)}
theorem symMerge_any (S:StF P k)(R:RowK enc k w0 blk off d0)(hsz:d0.size<4611686018427387904)(cap g:Nat)(cb:Array Value)(cf:α→α→Int)(hC:CmpLays P g cb enc k (tagC cf) blk off d0.size w0)
  (eg:∀args w,(callFunc g args).run P w=.ok (.enter g args) w) (hS:SWO (ltOf cf)):∀n,SymOk P enc k w0 blk off cap g cb cf n d0:=by
 intro n;induction n with
 |zero=>intro A M B d W h1 h2 h3 h4 h5 h6;omega
 |succ n ih=>
  intro A M B d W h1 h2 h3 h4 h5 h6 hl hr hc hW;by_cases c1:M=A+1
  ·have:=symLeft_any S R hsz cap g cb cf hC eg hS A.toNat M.toNat B.toNat d W (by omega) (by omega) (by omega) h5 hr hc hW
   rwa [show((A.toNat:Nat):Int)=A by omega,show((M.toNat:Nat):Int)=M by omega,show((B.toNat:Nat):Int)=B by omega]at this
  ·by_cases c2:B=M+1
   ·have:=symRight_any S R hsz cap g cb cf hC eg hS A.toNat M.toNat B.toNat d W (by omega) (by omega) (by omega) h5 hl hc hW
    rwa [show((A.toNat:Nat):Int)=A by omega,show((M.toNat:Nat):Int)=M by omega,show((B.toNat:Nat):Int)=B by omega]at this
   ·exact symBig_any S R hsz cap g cb cf hC eg hS n ih A M B d W h1 (by omega) (by omega) h4 h5 h6 hl hr hc hW
def InsOk (P:Program)(enc:α×Nat→List Value)(k:Nat)(w0:World)(blk off cap g:Nat)(cb:Array Value)(cf:α→α→Int)(d0:Array (α×Nat)):Prop:=
 ∀(a b:Nat) (d:Array (α×Nat)) (W:World),d.size=d0.size→a≤b→b≤d.size→SWK enc k w0 blk off d W→
  Calls P 84 #[.slice (some ⟨blk,off,none⟩) d0.size cap,.int .i64 a,.int .i64 b,.func (.func g) #[] cb] W fun e w'=>e=.returned (.tuple #[])∧SWK enc k w0 blk off (Sort.insertionSort (fstB (ltOf cf)) d a b) w'
theorem stable_any (S:StF P k)(R:RowK enc k w0 blk off d0)(hsz:d0.size<1000000000000000000)(cap g:Nat)(cb:Array Value)(cf:α→α→Int)(hC:CmpLays P g cb enc k (tagC cf) blk off d0.size w0)
  (eg:∀args w,(callFunc g args).run P w=.ok (.enter g args) w) (hS:SWO (ltOf cf)) (hIns:InsOk P enc k w0 blk off cap g cb cf d0) (eIN:∀args w,(callFunc 84 args).run P w=.ok (.enter 84 args) w) (ht:∀i,i<d0.size→d0[i]!.2=i):
  Calls P 124 #[.slice (some ⟨blk,off,none⟩) d0.size cap,.int .i64 d0.size,.func (.func g) #[] cb] w0 fun e w'=>e=.returned (.tuple #[])∧∃d',PermIn 0 d0.size d0 d'∧Srt (ltOf cf) 0 d0.size d'∧SWK enc k w0 blk off d' w':=by
 have mixed:=S.mixed;have t0:=S.t0;have a0:=S.a0;have z0:=S.z0;have v0:=S.v0;have t3:=S.t3;have a3:=S.a3;have z3:=S.z3;have v3:=S.v3;have t4:=S.t4;have a4:=S.a4;have z4:=S.z4;have v4:=S.v4;have t22:=S.t22;have a22:=S.a22;have z22:=S.z22;have v22:=S.v22;have t78:=S.t78;have a78:=S.a78;have z78:=S.z78;have v78:=S.v78;have t96:=S.t96;have a96:=S.a96;have z96:=S.z96;have v96:=S.v96;have aE:=S.aE;have zE:=S.zE;have u22:=run_underlying S.t22;have F:=S.fst;have eSY:∀args w,(callFunc 148 args).run P w=.ok (.enter 148 args) w:=enters_of S.fsy (by kernel_rfl) rfl;have HSy:=hid (fun n=>symMerge_any S R (by omega) cap g cb cf hC eg hS n);unfold SymOk at HSy;have HSy:Hid (∀(a m b:Nat) (d:Array (α×Nat)) (W:World),a<m→m<b→b≤d0.size→d.size=d0.size→Srt (ltOf cf) a m d→Srt (ltOf cf) m b d→Crs a m b d→SWK enc k w0 blk off d W→
   Calls P 148 #[.slice (some ⟨blk,off,none⟩) d0.size cap,.int .i64 a,.int .i64 m,.int .i64 b,.func (.func g) #[] cb] W (MergeR enc k w0 blk off (ltOf cf) a b d)):=by
  intro a m b d W h1 h2 h3 h4 h5 h6 h7 h8;have:=HSy.out (((b:Int)-(a:Int)).toNat) a m b d W (by omega) (by omega) (by omega) (by omega) h4 (Nat.le_refl _) h5 h6 h7 h8
  simpa using this
 have HIn:Hid _:=hIns;have HSt:Hid (∀(a b:Nat) (d:Array (α×Nat)),a≤b→b≤d.size→(∀s t,a≤s→s<t→t<b→d[s]!.2<d[t]!.2)→PermIn a b d (Sort.insertionSort (fstB (ltOf cf)) d a b)∧Srt (ltOf cf) a b (Sort.insertionSort (fstB (ltOf cf)) d a b)):=fun a b d h1 h2 h3=>insSort_lex hS h1 h2 h3;have HW:=hid (SWK.start R.hH);have HT:=hid (InsB.start (lt:=ltOf cf) ht);obtain⟨nn,hnn⟩:∃nn,d0.size=nn:=⟨_,rfl⟩;have HNN:=hid hnn;unfold InsOk at HIn;rw[hnn]at HSy HIn HT hsz;rw[hnn];clear R S hC ht hIns hnn;go_enter F,Tryz.ntmps124;go_wp2_with fail
 go_loopg [7,8] nn (fun g1 va vb wr=>∃(q a:Nat) (d:Array (α×Nat)),va=.int .i64 a∧vb=.int .i64 (a+20:Nat)∧a=20*q∧a≤nn∧nn-a≤g1∧d.size=nn∧Hid (InsB (ltOf cf) nn a d)∧Hid (PermIn 0 nn d0 d)∧Hid (SWK enc k w0 blk off d wr))
 case atStart=>exact⟨0,0,d0,rfl,rfl,rfl,Nat.zero_le _,by omega,HNN.out,HT.out,permIn_refl _ _ _,HW.out⟩
 case round=>
  obtain⟨q,a,d,rfl,rfl,haq,han,hg1,hsd,HB,HP,HK⟩:=hrel;have HAQ:=hid haq;have HSD:=hid hsd;clear haq hsd;by_cases hlt:a+20≤nn
  ·have hltz:(a:Int)+20≤(nn:Int):=by omega
   have hsd:=HSD.out;obtain⟨p1,s1⟩:=HSt.out a (a+20) d (by omega) (by omega) (HB.out.prem hlt);have CQ:=hid (HIn.out a (a+20) d wr hsd (by omega) (by omega) HK.out);generalize Sort.insertionSort (fstB (ltOf cf)) d a (a+20)=d' at*;have HB2:=hid (HB.out.step HAQ.out (by omega) hlt (by omega) (by omega) p1 s1);have HP2:=hid (permIn_trans _ _ _ _ _ HP.out (permIn_mono d d' a (a+20) 0 nn (by omega) hlt (by omega) p1));have HS2:=hid (p1.1.trans hsd);clear p1 s1 hsd HB HP;go_wp2_with fail
   refine CQ.out.mono ?_;rintro en w1 ⟨rfl,hk1⟩;have HK2:=hid hk1;clear hk1;go_wp2_with fail
   go_roundg (nn-(a+20))
   case measure=>omega
   case rel=>exact⟨q+1,a+20,d',rfl,(by go_num),(by have:=HAQ.out;omega),hlt,Nat.le_refl _,HS2.out,HB2.out,HP2.out,HK2.out⟩
  ·have hltz:¬(a:Int)+20≤(nn:Int):=by omega
   have hltb:decide ((a:Int)+20≤(nn:Int))=false:=decide_eq_false hltz;have hsd:=HSD.out;obtain⟨p1,s1⟩:=HSt.out a nn d (by omega) (by omega) (HB.out.prem (Nat.le_refl _));have CQ:=hid (HIn.out a nn d wr hsd (by omega) (by omega) HK.out);generalize Sort.insertionSort (fstB (ltOf cf)) d a nn=d' at*;have HB2:=hid (HB.out.step HAQ.out (by omega) (Nat.le_refl _) (by omega) (by omega) p1 s1).full;have HP2:=hid (permIn_trans _ _ _ _ _ HP.out (permIn_mono d d' a nn 0 nn (by omega) (Nat.le_refl _) (by omega) p1));have HS2:=hid (p1.1.trans hsd);clear p1 s1 hsd HB HP;go_wp2_with fail
   refine CQ.out.mono ?_;rintro en w1 ⟨rfl,hk1⟩;have HK2:=hid hk1;clear hk1;go_wp2_with fail
   clear hlt hltz HSt HAQ HSD HIn HK CQ HT HW hg1 han;go_loopg [6] (nn+20) (fun g2 vs wr2=>∃(s:Nat) (d:Array (α×Nat)),vs=.int .i64 s∧0<s∧s≤2*nn+20∧nn+20-s≤g2∧d.size=nn∧Hid (FullB (ltOf cf) nn s d)∧Hid (PermIn 0 nn d0 d)∧Hid (SWK enc k w0 blk off d wr2))
   case atStart=>exact⟨20,d',rfl,by omega,by omega,by omega,HS2.out,HB2.out,HP2.out,HK2.out⟩
   case round=>
    clear HB2 HP2 HS2 HK2;obtain⟨s,d,rfl,hs0,hs1,hg2,hsd,HB,HP,HK⟩:=hrel;have HSD:=hid hsd;clear hsd;by_cases hlt:s<nn
    ·have hltz2:(s:Int)<(nn:Int):=by omega
     obtain⟨t,ht⟩:∃t,2*s=t:=⟨_,rfl⟩;have ht2:(2:Int)*(s:Int)=(t:Int):=by omega
     have ht3:(s:Int)*2=(t:Int):=by omega
     have HT2:=hid ht;have hst:s+s=t:=by omega
     clear ht;go_wp2_with fail
     go_loopg [7,8] nn (fun g3 va vb wr=>∃(q a:Nat) (d:Array (α×Nat)),va=.int .i64 a∧vb=.int .i64 ((a:Int)+(t:Int))∧Hid (a=2*s*q)∧a≤nn∧nn-a≤g3∧d.size=nn∧Hid (MidB (ltOf cf) nn s a d)∧Hid (PermIn 0 nn d0 d)∧Hid (SWK enc k w0 blk off d wr))
     case atStart=>exact⟨0,0,d,rfl,(by simp),rfl,Nat.zero_le _,by omega,HSD.out,HB.out.start,HP.out,HK.out⟩
     case round=>
      clear HB HP HK HSD;obtain⟨q,a,d,rfl,rfl,HAQ,han,hg3,hsd,HB,HP,HK⟩:=hrel;have HSD:=hid hsd;by_cases hlt3:a+t≤nn
      ·have hltz3:(a:Int)+(t:Int)≤(nn:Int):=by omega
       obtain⟨p1,p2,p3⟩:=HB.out.prem (b:=a+t) HAQ.out hlt3 (by have:=HT2.out;omega) (by omega);have hCQ:=HSy.out a (a+s) (a+t) d wr (by omega) (by omega) hlt3 hsd p1 p2 p3 HK.out;rw[show((a+s:Nat):Int)=(a:Int)+(s:Int) by omega,show((a+t:Nat):Int)=(a:Int)+(t:Int) by omega]at hCQ;have CQ:=hid hCQ;have HSTEP:=hid (fun d' (p:PermIn a (a+t) d d') (s':Srt (ltOf cf) a (a+t) d')=>HB.out.step HAQ.out (by omega) hlt3 (by have:=HT2.out;omega) (by omega) p s');clear hCQ p1 p2 p3 hsd;go_wp2_with fail
       refine CQ.out.mono ?_;rintro en w3 ⟨rfl,d3,p4,s4,k4⟩;have HB4:=hid (HSTEP.out d3 p4 s4);have HP4:=hid (permIn_trans _ _ _ _ _ HP.out (permIn_mono d d3 a (a+t) 0 nn (by omega) hlt3 (by have:=HSD.out;omega) p4));have HS4:=hid (p4.1.trans HSD.out);have HK4:=hid k4;clear p4 s4 k4 HB HP HK HSD;go_wp2_with fail
       go_roundg (nn-(a+t))
       case measure=>omega
       case rel=>exact⟨q+1,a+t,d3,(by first|rfl|go_num),(by first|rfl|go_num|(congr 1;omega)),(by have:=HAQ.out;have:=HT2.out;unfold Hid;rw[Nat.mul_succ];omega),hlt3,Nat.le_refl _,HS4.out,HB4.out,HP4.out,HK4.out⟩
      ·have hltz3:¬(a:Int)+(t:Int)≤(nn:Int):=by omega
       have hltb3:decide ((a:Int)+(t:Int)≤(nn:Int))=false:=decide_eq_false hltz3;by_cases hm:a+s<nn
       ·have hmz:(a:Int)+(s:Int)<(nn:Int):=by omega
        obtain⟨p1,p2,p3⟩:=HB.out.prem (b:=nn) HAQ.out (Nat.le_refl _) (by have:=HT2.out;omega) hm;have hCQ:=HSy.out a (a+s) nn d wr (by omega) hm (Nat.le_refl _) hsd p1 p2 p3 HK.out;rw[show((a+s:Nat):Int)=(a:Int)+(s:Int) by omega]at hCQ;have CQ:=hid hCQ;have HSTEP:=hid (fun d' (p:PermIn a nn d d') (s':Srt (ltOf cf) a nn d')=>(HB.out.step HAQ.out han (Nat.le_refl _) (by have:=HT2.out;omega) (by omega) p s').full);clear hCQ p1 p2 p3 hsd;go_wp2_with fail
        refine CQ.out.mono ?_;rintro en w3 ⟨rfl,d3,p4,s4,k4⟩;have HB4:=hid (HSTEP.out d3 p4 s4);have HP4:=hid (permIn_trans _ _ _ _ _ HP.out (permIn_mono d d3 a nn 0 nn (by omega) (Nat.le_refl _) (by have:=HSD.out;omega) p4));have HS4:=hid (p4.1.trans HSD.out);have HK4:=hid k4;clear p4 s4 k4 HB HP HK HSD;go_wp2_with fail
        go_roundg (nn+20-t)
        case measure=>omega
        case rel=>exact⟨t,d3,rfl,by omega,by omega,by omega,HS4.out,(by have:=HB4.out;rwa [HT2.out]at this),HP4.out,HK4.out⟩
       ·have hmz:¬(a:Int)+(s:Int)<(nn:Int):=by omega
        have HB4:=hid (HB.out.done HAQ.out (by omega));clear hsd HB;go_wp2_with fail
        go_roundg (nn+20-t)
        case measure=>omega
        case rel=>exact⟨t,d,rfl,by omega,by omega,by omega,HSD.out,(by have:=HB4.out;rwa [HT2.out]at this),HP.out,HK.out⟩
    ·have hltz2:¬(s:Int)<(nn:Int):=by omega
     have HF:=hid (HB.out.all (by omega));clear HB;go_wp2;go_end0;exact⟨rfl,d,HP.out,HF.out,HK.out⟩
end
end
end Go.Proofs.YtimffppffbideaaGreatDoor
