import Derived.Test.YtimffppffbideaaGreatDoorJSnDist
set_option linter.unusedSimpArgs false
set_option linter.unusedVariables false
set_option maxRecDepth 1000000
set_option maxHeartbeats 8000000
namespace Go.Proofs.YtimffppffbideaaGreatDoor
section
open Go.RowKit Go.Lib Go.Sort Go.Shelf
structure StF (P:Program)(k:Nat):Prop where
 mixed:P.follows .mixedOrders=true
 t0:P.underlying 0=some (TypeDesc.tuple #[])
 a0:∀w,(isAgg 0).run P w=.ok false w
 z0:∀w,(Go.sizeOf 0).run P w=.ok 1 w
 v0:∀w,(zeroValue 0).run P w=.ok (Value.tuple #[]) w
 t3:P.underlying 3=some (TypeDesc.int IntKind.i64)
 a3:∀w,(isAgg 3).run P w=.ok false w
 z3:∀w,(Go.sizeOf 3).run P w=.ok 1 w
 v3:∀w,(zeroValue 3).run P w=.ok (Value.int IntKind.i64 0) w
 t4:P.underlying 4=some (TypeDesc.bool)
 a4:∀w,(isAgg 4).run P w=.ok false w
 z4:∀w,(Go.sizeOf 4).run P w=.ok 1 w
 v4:∀w,(zeroValue 4).run P w=.ok (Value.bool false) w
 t22:P.underlying 51=some (TypeDesc.slice 84)
 a22:∀w,(isAgg 51).run P w=.ok false w
 z22:∀w,(Go.sizeOf 51).run P w=.ok 1 w
 v22:∀w,(zeroValue 51).run P w=.ok (Value.slice none 0 0) w
 t78:P.underlying 90=some (TypeDesc.func #[84,84] #[3] false)
 a78:∀w,(isAgg 90).run P w=.ok false w
 z78:∀w,(Go.sizeOf 90).run P w=.ok 1 w
 v78:∀w,(zeroValue 90).run P w=.ok (Value.nilFunc) w
 t96:P.underlying 115=some (TypeDesc.int IntKind.u64)
 a96:∀w,(isAgg 115).run P w=.ok false w
 z96:∀w,(Go.sizeOf 115).run P w=.ok 1 w
 v96:∀w,(zeroValue 115).run P w=.ok (Value.int IntKind.u64 0) w
 aE:∀w,(isAgg 84).run P w=.ok true w
 zE:∀w,(Go.sizeOf 84).run P w=.ok k w
 fsw:P.funcs[184]? =some Tryz.f184
 fro:P.funcs[173]? =some Tryz.f173
 fsy:P.funcs[148]? =some Tryz.f148
 fst:P.funcs[124]? =some Tryz.f124
 fso:P.funcs[94]? =some Tryz.f94
section
variable {P:Program}{β:Type}[Inhabited β]{enc:β→List Value}{k:Nat}{w0 W:World}{blk off:Nat}{d0 d:Array β}
theorem swapRange_any (S:StF P k)(R:RowK enc k w0 blk off d0)(hs:d.size=d0.size)(hsz:d.size<4611686018427387904)(cap a b n:Nat)(fv:Value)(hab:a+n≤b)(hb:b+n≤d.size)(hW:SWK enc k w0 blk off d W):
  Calls P 184 #[.slice (some ⟨blk,off,none⟩) d.size cap,.int .i64 a,.int .i64 b,.int .i64 n,fv] W fun e w'=>
   e=.returned (.tuple #[])∧∃d',Moved (raF a b n) d d'∧(∀x y,x≤a→b+n≤y→y≤d.size→PermIn x y d d')∧SWK enc k w0 blk off d' w':=by
 have mixed:=S.mixed;have t0:=S.t0;have a0:=S.a0;have z0:=S.z0;have v0:=S.v0;have t3:=S.t3;have a3:=S.a3;have z3:=S.z3;have v3:=S.v3;have t4:=S.t4;have a4:=S.a4;have z4:=S.z4;have v4:=S.v4;have t22:=S.t22;have a22:=S.a22;have z22:=S.z22;have v22:=S.v22;have t78:=S.t78;have a78:=S.a78;have z78:=S.z78;have v78:=S.v78;have t96:=S.t96;have a96:=S.a96;have z96:=S.z96;have v96:=S.v96;have aE:=S.aE;have zE:=S.zE;have u22:=run_underlying S.t22;have F:=S.fsw;have HW:=hid hW;have HR:=hid R;clear hW R S;go_enter F,Tryz.ntmps184;go_wp2;go_loopg [10] n (fun g1 vi wr=>∃(i:Nat) (dk:Array β),vi=.int .i64 i∧i≤n∧n-i≤g1∧Hid (Moved (raF a b i) d dk)∧Hid (∀x y,x≤a→b+n≤y→y≤d.size→PermIn x y d dk)∧Hid (SWK enc k w0 blk off dk wr))
 case atStart=>exact⟨0,d,rfl,Nat.zero_le _,Nat.le_refl _,(Moved.refl d).congr (fun t _=>(raF_zero a b t).symm),fun x y _ _ _=>permIn_refl _ _ _,HW.out⟩
 case round=>
  obtain⟨i,dk,rfl,hi,hg1,HM,HP,HK⟩:=hrel;by_cases hlt:i<n
  ·have hsk:dk.size=d0.size:=HM.out.1.trans hs;have i1:(0:Int)≤(a:Int)+(i:Int):=by omega
   have i2:(a:Int)+(i:Int)<(d.size:Int):=by omega
   have i3:((a:Int)+(i:Int)).toNat=a+i:=by omega
   have j1:(0:Int)≤(b:Int)+(i:Int):=by omega
   have j2:(b:Int)+(i:Int)<(d.size:Int):=by omega
   have j3:((b:Int)+(i:Int)).toNat=b+i:=by omega
   have hsd:=HM.out.1;have l1:=HK.out.ld1 HR.out hsk P (a+i) (by omega);have l2:=HK.out.ld1 HR.out hsk P (b+i) (by omega);have s1:=HK.out.st1 HR.out hsk P (a+i) (by omega) dk[b+i]!;have s2:=HK.out.st2 HR.out hsk P (a+i) (b+i) (by omega) (by omega) dk[b+i]! dk[a+i]!;have X:=hid (HK.out.swapped HR.out (a+i) (b+i) (by omega) (by omega));have M2:=hid (HM.out.ra hlt hab hb);have P2:Hid (∀x y,x≤a→b+n≤y→y≤d.size→PermIn x y d (swp dk (a+i) (b+i))):=fun x y h1 h2 h3=>permIn_trans _ _ _ _ _ (HP.out x y h1 h2 h3) (swp_permIn dk x y _ _ (by omega) (by omega) (by omega) (by omega) (by omega));have hcI:(enc dk[a+i]!).length=k:=HR.out.hk _;have hcJ:(enc dk[b+i]!).length=k:=HR.out.hk _;obtain⟨cI,hI⟩:∃c,c=enc dk[a+i]! :=⟨_,rfl⟩;obtain⟨cJ,hJ⟩:∃c,c=enc dk[b+i]! :=⟨_,rfl⟩;rw[←hI]at l1 s2 hcI X;rw[←hJ]at l2 s1 s2 hcJ X;clear hI hJ HM HP hsk hsd;go_wp2_with fail
   go_big_region_o
   all_goals go_wp2
   go_roundg (n-(i+1))
   case measure=>omega
   case rel=>exact⟨i+1,_,by go_num,by omega,Nat.le_refl _,M2,P2,X⟩
  ·obtain rfl:i=n:=by omega
   go_wp2;go_end0;exact⟨rfl,dk,HM.out,HP.out,HK.out⟩
end
end
section
open Go.RowKit Go.Lib Go.Sort Go.Shelf
section
variable {P:Program}{β:Type}[Inhabited β]{enc:β→List Value}{k:Nat}{w0 W:World}{blk off:Nat}{d0 d:Array β}
theorem rotate_any (S:StF P k)(R:RowK enc k w0 blk off d0)(hs:d.size=d0.size)(hsz:d.size<4611686018427387904)(cap s m e:Nat)(fv:Value)(hsm:s<m)(hme:m<e)(he:e≤d.size)(hW:SWK enc k w0 blk off d W):
  Calls P 173 #[.slice (some ⟨blk,off,none⟩) d.size cap,.int .i64 s,.int .i64 m,.int .i64 e,fv] W fun en w'=>
   en=.returned (.tuple #[])∧∃d',Moved (roF s m e) d d'∧(∀x y,x≤s→e≤y→y≤d.size→PermIn x y d d')∧SWK enc k w0 blk off d' w':=by
 have mixed:=S.mixed;have t0:=S.t0;have a0:=S.a0;have z0:=S.z0;have v0:=S.v0;have t3:=S.t3;have a3:=S.a3;have z3:=S.z3;have v3:=S.v3;have t4:=S.t4;have a4:=S.a4;have z4:=S.z4;have v4:=S.v4;have t22:=S.t22;have a22:=S.a22;have z22:=S.z22;have v22:=S.v22;have t78:=S.t78;have a78:=S.a78;have z78:=S.z78;have v78:=S.v78;have t96:=S.t96;have a96:=S.a96;have z96:=S.z96;have v96:=S.v96;have aE:=S.aE;have zE:=S.zE;have u22:=run_underlying S.t22;have F:=S.fro;have HW:=hid hW;have HC:Hid (∀(dk:Array β) (X:World) (a b n:Nat),dk.size=d.size→a+n≤b→b+n≤d.size→SWK enc k w0 blk off dk X→Calls P 184 #[.slice (some ⟨blk,off,none⟩) d.size cap,.int .i64 a,.int .i64 b,.int .i64 n,fv] X fun e w'=>
   e=.returned (.tuple #[])∧∃d',Moved (raF a b n) dk d'∧(∀x y,x≤a→b+n≤y→y≤d.size→PermIn x y dk d')∧SWK enc k w0 blk off d' w'):=by
  intro dk X a b n h1 h2 h3 h4;have:=swapRange_any S R (d:=dk) (W:=X) (h1.trans hs) (by omega) cap a b n fv h2 (by omega) h4
  rwa [h1]at this
 have eSW:∀args w,(callFunc 184 args).run P w=.ok (.enter 184 args) w:=enters_of S.fsw (by kernel_rfl) rfl;have HS:=hid hs;clear hW R S hs;go_enter F,Tryz.ntmps173;go_wp2;go_loopg [10,11] (e-s) (fun g1 vi vj wr=>∃(i j:Nat) (dk:Array β),vi=.int .i64 i∧vj=.int .i64 j∧0<i∧0<j∧s+i≤m∧m+j≤e∧i+j≤g1∧dk.size=d.size∧Hid (∀d',Moved (roF (m-i) m (m+j)) dk d'→Moved (roF s m e) d d')∧Hid (∀x y,x≤s→e≤y→y≤d.size→PermIn x y d dk)∧Hid (SWK enc k w0 blk off dk wr))
 case atStart=>exact⟨m-s,e-m,d,(by congr 1;omega),(by congr 1;omega),by omega,by omega,by omega,by omega,by omega,rfl,(fun d' h=>by rwa [show m-(m-s)=s by omega,show m+(e-m)=e by omega]at h),fun x y _ _ _=>permIn_refl _ _ _,HW.out⟩
 case round=>
  obtain⟨i,j,dk,rfl,rfl,hi,hj,hi2,hj2,hg1,hsk,HT,HP,HK⟩:=hrel;by_cases hne:i=j
  ·subst hne;have CQ:=hid (HC.out dk wr (m-i) m i hsk (by omega) (by omega) HK.out);have hie:(m:Int)-(i:Int)=((m-i:Nat):Int):=by omega
   have HIE:=hid hie;clear hie;go_wp2_with(go_at_fn 184;rw[HIE.out];refine CQ.out.mono ?_;rintro en w' ⟨rfl,d',hM,hP,hK⟩)
   have HM':=hid (HT.out d' (hM.congr fun t _=>roF_even (by omega)));have HP':Hid (∀x y,x≤s→e≤y→y≤d.size→PermIn x y d d'):=fun x y h1 h2 h3=>permIn_trans _ _ _ _ _ (HP.out x y h1 h2 h3) (hP x y (by omega) (by omega) h3);have HK':=hid hK;clear hM hP hK;go_end0;exact⟨rfl,d',HM'.out,HP'.out,HK'.out⟩
  ·have hnb:((i:Int)==(j:Int))=false:=by simp;omega
   have hnb2:((i:Int) !=(j:Int))=true:=by simp;omega
   by_cases hij:j<i
   ·have hijz:(j:Int)<(i:Int):=by omega
    have CQ:=hid (HC.out dk wr (m-i) m j hsk (by omega) (by omega) HK.out);have HIE:=hid (show(m:Int)-(i:Int)=((m-i:Nat):Int) by omega);have HI2:=hid (show(i:Int)-(j:Int)=((i-j:Nat):Int) by omega);clear hne;go_wp2_with(go_at_fn 184;rw[HIE.out];refine CQ.out.mono ?_;rintro en w' ⟨rfl,d',hM,hP,hK⟩)
    have HS':=hM.1;have HT':Hid (∀d'',Moved (roF (m-(i-j)) m (m+j)) d' d''→Moved (roF s m e) d d''):=fun d'' h=>HT.out d'' ((hM.trans h fun t ht=>roF_lt (by omega) (by omega) (by omega) ht).congr fun t _=>roF_big hij (by omega));have HP':Hid (∀x y,x≤s→e≤y→y≤d.size→PermIn x y d d'):=fun x y h1 h2 h3=>permIn_trans _ _ _ _ _ (HP.out x y h1 h2 h3) (hP x y (by omega) (by omega) h3);have HK':=hid hK;have HSZ:=hid (HS'.trans hsk);clear hM hP hK HS';go_roundg (i-j+j)
    case measure=>omega
    case rel=>exact⟨i-j,j,d',(by rw[HI2.out]),rfl,by omega,hj,by omega,hj2,Nat.le_refl _,HSZ.out,HT'.out,HP'.out,HK'.out⟩
   ·have hijz:¬(j:Int)<(i:Int):=by omega
    have hlt:i<j:=by omega
    have CQ:=hid (HC.out dk wr (m-i) (m+j-i) i hsk (by omega) (by omega) HK.out);have HIE:=hid (show(m:Int)-(i:Int)=((m-i:Nat):Int) by omega);have HI3:=hid (show(m:Int)+(j:Int)-(i:Int)=((m+j-i:Nat):Int) by omega);have HI2:=hid (show(j:Int)-(i:Int)=((j-i:Nat):Int) by omega);clear hne;go_wp2_with(go_at_fn 184;rw[HIE.out,HI3.out];refine CQ.out.mono ?_;rintro en w' ⟨rfl,d',hM,hP,hK⟩)
    have HS':=hM.1;have HT':Hid (∀d'',Moved (roF (m-i) m (m+(j-i))) d' d''→Moved (roF s m e) d d''):=fun d'' h=>HT.out d'' ((hM.trans h fun t ht=>roF_lt (by omega) (by omega) (by omega) ht).congr fun t _=>roF_small hlt (by omega));have HP':Hid (∀x y,x≤s→e≤y→y≤d.size→PermIn x y d d'):=fun x y h1 h2 h3=>permIn_trans _ _ _ _ _ (HP.out x y h1 h2 h3) (hP x y (by omega) (by omega) h3);have HK':=hid hK;have HSZ:=hid (HS'.trans hsk);clear hM hP hK HS';go_roundg (i+(j-i))
    case measure=>omega
    case rel=>exact⟨i,j-i,d',rfl,(by rw[HI2.out]),hi,by omega,hi2,by omega,Nat.le_refl _,HSZ.out,HT'.out,HP'.out,HK'.out⟩
end
end
section
open Go.RowKit Go.Lib Go.Sort Go.Shelf
section
variable {P:Program}{α:Type}[Inhabited α]{enc:α×Nat→List Value}{k:Nat}{w0:World}{blk off:Nat}{d0:Array (α×Nat)}
def tagC (cf:α→α→Int)(x y:α×Nat):Int:=cf x.1 y.1
def MergeR (enc:α×Nat→List Value)(k:Nat)(w0:World)(blk off:Nat)(lt:α→α→Bool)(a b:Nat)(d:Array (α×Nat))(e:Ending)(w':World):Prop:=
 e=.returned (.tuple #[])∧∃d',PermIn a b d d'∧Srt lt a b d'∧SWK enc k w0 blk off d' w'
theorem symLeft_any (S:StF P k)(R:RowK enc k w0 blk off d0)(hsz:d0.size<4611686018427387904)(cap g:Nat)(cb:Array Value)(cf:α→α→Int)(hC:CmpLays P g cb enc k (tagC cf) blk off d0.size w0)
  (eg:∀args w,(callFunc g args).run P w=.ok (.enter g args) w) (hS:SWO (ltOf cf)) (a m b:Nat) (d:Array (α×Nat)) (W:World) (ham:m=a+1) (hmb:m<b) (hb:b≤d.size) (hs:d.size=d0.size)
  (hr:Srt (ltOf cf) m b d) (hc:Crs a m b d) (hW:SWK enc k w0 blk off d W):
  Calls P 148 #[.slice (some ⟨blk,off,none⟩) d0.size cap,.int .i64 a,.int .i64 m,.int .i64 b,.func (.func g) #[] cb] W (MergeR enc k w0 blk off (ltOf cf) a b d):=by
 have mixed:=S.mixed;have t0:=S.t0;have a0:=S.a0;have z0:=S.z0;have v0:=S.v0;have t3:=S.t3;have a3:=S.a3;have z3:=S.z3;have v3:=S.v3;have t4:=S.t4;have a4:=S.a4;have z4:=S.z4;have v4:=S.v4;have t22:=S.t22;have a22:=S.a22;have z22:=S.z22;have v22:=S.v22;have t78:=S.t78;have a78:=S.a78;have z78:=S.z78;have v78:=S.v78;have t96:=S.t96;have a96:=S.a96;have z96:=S.z96;have v96:=S.v96;have aE:=S.aE;have zE:=S.zE;have u22:=run_underlying S.t22;have F:=S.fsy;have HFin:Hid (∀(i:Nat) (d':Array (α×Nat)) (w':World),m≤i→i≤b→(i=m∨fstB (ltOf cf) d[i-1]! d[a]! =true)→(i=b∨fstB (ltOf cf) d[i]! d[a]! =false)→Moved (dnF a i) d d'→PermIn a b d d'→SWK enc k w0 blk off d' w'→MergeR enc k w0 blk off (ltOf cf) a b d (.returned (.tuple #[])) w'):=
  fun i d' w' h1 h2 h3 h4 h5 h6 h7=>⟨rfl,d',h6,merge_left hS ham h1 h2 hb hr hc h3 h4 h5,h7⟩
 have HW:=hid hW;have HR:=hid R;have HC:=hid hC;have hmz:((m:Int)-(a:Int)==1)=true:=by simp;omega
 have hsd:=hs;have HSD:=hid hs;have hb0:b≤d0.size:=by omega
 have ham2:a<m:=by omega
 have HAM:=hid ham;clear hW R S hC hr hc ham hs;generalize MergeR enc k w0 blk off (ltOf cf) a b d=MR at*;go_enter F,Tryz.ntmps148;go_wp2_with fail
 have hstart:Hid ((m=m∨fstB (ltOf cf) d[m-1]! d[a]! =true)∧(b=b∨fstB (ltOf cf) d[b]! d[a]! =false)):=⟨.inl rfl,.inl rfl⟩;go_loopg [10,11] (b-m) (fun g1 vi vj wr=>∃i j:Int,vi=.int .i64 i∧vj=.int .i64 j∧(m:Int)≤i∧i≤j∧j≤b∧j-i≤g1∧Hid ((i.toNat=m∨fstB (ltOf cf) d[i.toNat-1]! d[a]! =true)∧(j.toNat=b∨fstB (ltOf cf) d[j.toNat]! d[a]! =false))∧Hid (SWK enc k w0 blk off d wr))
 case atStart=>exact⟨m,b,rfl,rfl,Int.le_refl _,by omega,Int.le_refl _,by omega,hstart,HW⟩
 case round=>
  obtain⟨i,j,rfl,rfl,hi,hij,hj,hg1,HB,HK⟩:=hrel;by_cases hlt:i<j
  ·have m1:i≤(i+j)/2:=by omega
   have m2:(i+j)/2<j:=by omega
   have m0:0≤(i+j)/2:=by omega
   have s0:0≤i+j:=by omega
   have hH:((i+j)/2).toNat<d.size:=by omega
   have ha:a<d.size:=by omega
   have m3:(i+j)/2<(d0.size:Int):=by omega
   have a3':(a:Int)<(d0.size:Int):=by omega
   have a4':(0:Int)≤(a:Int):=by omega
   have lx:=HK.out.ld HR.out hsd P ((i+j)/2).toNat hH;have ly:=HK.out.ld HR.out hsd P a ha;have GR:=hid (fun n' os'=>HK.out.grown n' os');have hcg:=fun n' os'=>HK.out.cmp HC.out hsd d[((i+j)/2).toNat]! d[a]! n' os';obtain⟨xh,hxh⟩:∃x,d[((i+j)/2).toNat]! =x:=⟨_,rfl⟩;obtain⟨xa,hxa⟩:∃x,d[a]! =x:=⟨_,rfl⟩;rw[hxh]at lx hcg;rw[hxa]at ly hcg;have HXH:=hid hxh;have HXA:=hid hxa;clear hxh hxa;by_cases hlv:tagC cf xh xa<0
   ·have HB2:Hid ((((i+j)/2+1).toNat=m∨fstB (ltOf cf) d[((i+j)/2+1).toNat-1]! d[a]! =true)∧(j.toNat=b∨fstB (ltOf cf) d[j.toNat]! d[a]! =false)):=⟨.inr (by rw[show((i+j)/2+1).toNat-1=((i+j)/2).toNat by omega,HXH.out,HXA.out];exact decide_eq_true hlv),HB.out.2⟩;have HM:=hid (show(i+j)/2+1≤j∧(m:Int)≤(i+j)/2+1 by omega);generalize tagC cf xh xa=tc at*;go_wp2_with fail
    go_quiet_grown(first|(go_at_fn g;refine Calls.grown_of (hcg _ _)))
    go_wp2;go_roundg (j-((i+j)/2+1)).toNat
    case measure=>omega
    case rel=>exact⟨(i+j)/2+1,j,rfl,rfl,HM.out.2,HM.out.1,hj,by omega,HB2,GR.out _ _⟩
   ·have HB2:Hid ((i.toNat=m∨fstB (ltOf cf) d[i.toNat-1]! d[a]! =true)∧(((i+j)/2).toNat=b∨fstB (ltOf cf) d[((i+j)/2).toNat]! d[a]! =false)):=⟨HB.out.1,.inr (by rw[HXH.out,HXA.out];exact decide_eq_false hlv)⟩;have HM:=hid (show(i+j)/2≤b∧(m:Int)≤(i+j)/2 by omega);generalize tagC cf xh xa=tc at*;go_wp2_with fail
    go_quiet_grown(first|(go_at_fn g;refine Calls.grown_of (hcg _ _)))
    go_wp2;go_roundg ((i+j)/2-i).toNat
    case measure=>omega
    case rel=>exact⟨i,(i+j)/2,rfl,rfl,hi,m1,HM.out.1,by omega,HB2,GR.out _ _⟩
  ·obtain rfl:i=j:=by omega
   obtain⟨q,rfl⟩:∃q:Nat,i=q:=⟨i.toNat,by omega⟩;rw[Int.toNat_natCast]at HB;have hq1:m≤q:=by omega
   have hq2:q≤b:=by omega
   have HF:=hid (fun d' w'=>HFin.out q d' w' hq1 hq2 HB.out.1 HB.out.2);clear HB HFin hstart;go_wp2_with fail
   go_loopg [13] (q-a) (fun g1 vi wr=>∃(i:Nat) (dk:Array (α×Nat)),vi=.int .i64 i∧a≤i∧i+1≤q∧q-i≤g1+1∧Hid (Moved (dnF a (i+1)) d dk)∧Hid (PermIn a b d dk)∧Hid (SWK enc k w0 blk off dk wr))
   case atStart=>exact⟨a,d,rfl,Nat.le_refl _,by omega,by omega,(Moved.refl d).congr (fun t _=>dnF_start.symm),permIn_refl _ _ _,HK⟩
   case round=>
    obtain⟨i,dk,rfl,hai,hiq,hg1,HM,HP,HK⟩:=hrel;by_cases hlt:i+1<q
    ·have hltz:(i:Int)<(q:Int)-1:=by omega
     have hsk:dk.size=d0.size:=HM.out.1.trans HSD.out;have hskd:=HM.out.1;have i1:(0:Int)≤(i:Int):=by omega
     have i2:(i:Int)<(d0.size:Int):=by omega
     have j1:(0:Int)≤(i:Int)+1:=by omega
     have j2:(i:Int)+1<(d0.size:Int):=by omega
     have j3:((i:Int)+1).toNat=i+1:=by omega
     have l1:=HK.out.ld1 HR.out hsk P (i) (by omega);have l2:=HK.out.ld1 HR.out hsk P (i+1) (by omega);have s1:=HK.out.st1 HR.out hsk P (i) (by omega) dk[i+1]!;have s2:=HK.out.st2 HR.out hsk P (i) (i+1) (by omega) (by omega) dk[i+1]! dk[i]!;have X:=hid (HK.out.swapped HR.out (i) (i+1) (by omega) (by omega));have hcI:(enc dk[i]!).length=k:=HR.out.hk _;have hcJ:(enc dk[i+1]!).length=k:=HR.out.hk _;obtain⟨cI,hI⟩:∃c,c=enc dk[i]! :=⟨_,rfl⟩;obtain⟨cJ,hJ⟩:∃c,c=enc dk[i+1]! :=⟨_,rfl⟩;rw[←hI]at l1 s2 hcI X;rw[←hJ]at l2 s1 s2 hcJ X;clear hI hJ;have M2:=hid (HM.out.dn hai (by omega));have P2:=hid (permIn_trans _ _ _ _ _ HP.out (swp_permIn dk a b i (i+1) (by omega) (by omega) (by omega) (by omega) (by omega)));clear HM HP hsk hskd;go_wp2_with fail
     go_big_region_o
     all_goals go_wp2
     go_roundg (q-(i+1)-1)
     case measure=>omega
     case rel=>exact⟨i+1,_,by go_num,by omega,by omega,by omega,M2,P2,X⟩
    ·have hltz:¬(i:Int)<(q:Int)-1:=by omega
     obtain rfl:q=i+1:=by omega
     have HX:=hid (HF.out dk wr HM.out HP.out HK.out);clear HM HP HF;go_wp2;first|exact HX.out|(go_end0;exact HX.out)
end
end
section
open Go.RowKit Go.Lib Go.Sort Go.Shelf
section
variable {P:Program}{α:Type}[Inhabited α]{enc:α×Nat→List Value}{k:Nat}{w0:World}{blk off:Nat}{d0:Array (α×Nat)}
theorem symRight_any (S:StF P k)(R:RowK enc k w0 blk off d0)(hsz:d0.size<4611686018427387904)(cap g:Nat)(cb:Array Value)(cf:α→α→Int)(hC:CmpLays P g cb enc k (tagC cf) blk off d0.size w0)
  (eg:∀args w,(callFunc g args).run P w=.ok (.enter g args) w) (hS:SWO (ltOf cf)) (a m b:Nat) (d:Array (α×Nat)) (W:World) (ham:a+1<m) (hmb:b=m+1) (hb:b≤d.size) (hs:d.size=d0.size)
  (hl:Srt (ltOf cf) a m d) (hc:Crs a m b d) (hW:SWK enc k w0 blk off d W):
  Calls P 148 #[.slice (some ⟨blk,off,none⟩) d0.size cap,.int .i64 a,.int .i64 m,.int .i64 b,.func (.func g) #[] cb] W (MergeR enc k w0 blk off (ltOf cf) a b d):=by
 have mixed:=S.mixed;have t0:=S.t0;have a0:=S.a0;have z0:=S.z0;have v0:=S.v0;have t3:=S.t3;have a3:=S.a3;have z3:=S.z3;have v3:=S.v3;have t4:=S.t4;have a4:=S.a4;have z4:=S.z4;have v4:=S.v4;have t22:=S.t22;have a22:=S.a22;have z22:=S.z22;have v22:=S.v22;have t78:=S.t78;have a78:=S.a78;have z78:=S.z78;have v78:=S.v78;have t96:=S.t96;have a96:=S.a96;have z96:=S.z96;have v96:=S.v96;have aE:=S.aE;have zE:=S.zE;have u22:=run_underlying S.t22;have F:=S.fsy;have HFin:Hid (∀(i:Nat) (d':Array (α×Nat)) (w':World),a≤i→i≤m→(i=a∨fstB (ltOf cf) d[m]! d[i-1]! =false)→(i=m∨fstB (ltOf cf) d[m]! d[i]! =true)→Moved (upF i m) d d'→PermIn a b d d'→SWK enc k w0 blk off d' w'→MergeR enc k w0 blk off (ltOf cf) a b d (.returned (.tuple #[])) w'):=
  fun i d' w' h1 h2 h3 h4 h5 h6 h7=>⟨rfl,d',h6,merge_right hS hmb h1 h2 hb hl hc h3 h4 h5,h7⟩
 have HW:=hid hW;have HR:=hid R;have HC:=hid hC;have hmz:((m:Int)-(a:Int)==1)=false:=by simp;omega
 have hbz:((b:Int)-(m:Int)==1)=true:=by simp;omega
 have hsd:=hs;have HSD:=hid hs;have hb0:b≤d0.size:=by omega
 have ham2:a<m:=by omega
 have hmb2:m<b:=by omega
 have HMB:=hid hmb;clear hmb;clear hW R S hC hl hc hs;generalize MergeR enc k w0 blk off (ltOf cf) a b d=MR at*;go_enter F,Tryz.ntmps148;go_wp2_with fail
 have hstart:Hid ((a=a∨fstB (ltOf cf) d[m]! d[a-1]! =false)∧(m=m∨fstB (ltOf cf) d[m]! d[m]! =true)):=⟨.inl rfl,.inl rfl⟩;go_loopg [14,15] (m-a) (fun g1 vi vj wr=>∃i j:Int,vi=.int .i64 i∧vj=.int .i64 j∧(a:Int)≤i∧i≤j∧j≤m∧j-i≤g1∧Hid ((i.toNat=a∨fstB (ltOf cf) d[m]! d[i.toNat-1]! =false)∧(j.toNat=m∨fstB (ltOf cf) d[m]! d[j.toNat]! =true))∧Hid (SWK enc k w0 blk off d wr))
 case atStart=>exact⟨a,m,rfl,rfl,Int.le_refl _,by omega,Int.le_refl _,by omega,hstart,HW⟩
 case round=>
  obtain⟨i,j,rfl,rfl,hi,hij,hj,hg1,HB,HK⟩:=hrel;by_cases hlt:i<j
  ·have m1:i≤(i+j)/2:=by omega
   have m2:(i+j)/2<j:=by omega
   have m0:0≤(i+j)/2:=by omega
   have s0:0≤i+j:=by omega
   have hH:((i+j)/2).toNat<d.size:=by omega
   have hM:m<d.size:=by have:=HMB.out;omega
   have m3:(i+j)/2<(d0.size:Int):=by omega
   have a3':(m:Int)<(d0.size:Int):=by omega
   have a4':(0:Int)≤(m:Int):=by omega
   have lx:=HK.out.ld HR.out hsd P m hM;have ly:=HK.out.ld HR.out hsd P ((i+j)/2).toNat hH;have GR:=hid (fun n' os'=>HK.out.grown n' os');have hcg:=fun n' os'=>HK.out.cmp HC.out hsd d[m]! d[((i+j)/2).toNat]! n' os';obtain⟨xh,hxh⟩:∃x,d[m]! =x:=⟨_,rfl⟩;obtain⟨xa,hxa⟩:∃x,d[((i+j)/2).toNat]! =x:=⟨_,rfl⟩;rw[hxh]at lx hcg;rw[hxa]at ly hcg;have HXH:=hid hxh;have HXA:=hid hxa;clear hxh hxa;by_cases hlv:tagC cf xh xa<0
   ·have HB2:Hid ((i.toNat=a∨fstB (ltOf cf) d[m]! d[i.toNat-1]! =false)∧(((i+j)/2).toNat=m∨fstB (ltOf cf) d[m]! d[((i+j)/2).toNat]! =true)):=⟨HB.out.1,.inr (by rw[HXH.out,HXA.out];exact decide_eq_true hlv)⟩;have HM:=hid (show(i+j)/2≤m∧(a:Int)≤(i+j)/2 by omega);have hdc:decide (tagC cf xh xa<0)=true:=decide_eq_true hlv;generalize tagC cf xh xa=tc at*;go_wp2_with fail
    go_quiet_grown(first|(go_at_fn g;refine Calls.grown_of (hcg _ _)))
    go_wp2;go_roundg ((i+j)/2-i).toNat
    case measure=>omega
    case rel=>exact⟨i,(i+j)/2,rfl,rfl,hi,m1,HM.out.1,by omega,HB2,GR.out _ _⟩
   ·have HB2:Hid ((((i+j)/2+1).toNat=a∨fstB (ltOf cf) d[m]! d[((i+j)/2+1).toNat-1]! =false)∧(j.toNat=m∨fstB (ltOf cf) d[m]! d[j.toNat]! =true)):=⟨.inr (by rw[show((i+j)/2+1).toNat-1=((i+j)/2).toNat by omega,HXH.out,HXA.out];exact decide_eq_false hlv),HB.out.2⟩;have HM:=hid (show(i+j)/2+1≤j∧(a:Int)≤(i+j)/2+1 by omega);have hdc:decide (tagC cf xh xa<0)=false:=decide_eq_false hlv;generalize tagC cf xh xa=tc at*;go_wp2_with fail
    go_quiet_grown(first|(go_at_fn g;refine Calls.grown_of (hcg _ _)))
    go_wp2;go_roundg (j-((i+j)/2+1)).toNat
    case measure=>omega
    case rel=>exact⟨(i+j)/2+1,j,rfl,rfl,HM.out.2,HM.out.1,hj,by omega,HB2,GR.out _ _⟩
  ·obtain rfl:i=j:=by omega
   obtain⟨q,rfl⟩:∃q:Nat,i=q:=⟨i.toNat,by omega⟩;rw[Int.toNat_natCast]at HB;have hq1:a≤q:=by omega
   have hq2:q≤m:=by omega
   have HF:=hid (fun d' w'=>HFin.out q d' w' hq1 hq2 HB.out.1 HB.out.2);clear HB HFin hstart;go_wp2_with fail
   go_loopg [17] (m-q) (fun g1 vi wr=>∃(i:Nat) (dk:Array (α×Nat)),vi=.int .i64 i∧q≤i∧i≤m∧i-q≤g1∧Hid (Moved (upF i m) d dk)∧Hid (PermIn a b d dk)∧Hid (SWK enc k w0 blk off dk wr))
   case atStart=>exact⟨m,d,rfl,by omega,Nat.le_refl _,by omega,(Moved.refl d).congr (fun t _=>upF_start.symm),permIn_refl _ _ _,HK⟩
   case round=>
    obtain⟨i,dk,rfl,hai,hiq,hg1,HM,HP,HK⟩:=hrel;by_cases hlt:q<i
    ·obtain⟨i,rfl⟩:∃i',i=i'+1:=⟨i-1,by omega⟩;have hltz:(q:Int)<(i:Int)+1:=by omega
     have hsk:dk.size=d0.size:=HM.out.1.trans HSD.out;have hskd:=HM.out.1;have hmd:m<d.size:=by have:=HMB.out;omega
     have i1:(0:Int)≤(i:Int):=by omega
     have i2:(i:Int)<(d0.size:Int):=by omega
     have j1:(0:Int)≤(i:Int)+1:=by omega
     have j2:(i:Int)+1<(d0.size:Int):=by omega
     have j3:((i:Int)+1).toNat=i+1:=by omega
     have hwp:IntKind.i64.wrap (i:Int)=(i:Int):=by rw[IntKind.wrap_i64];omega
     have l1:=HK.out.ld1 HR.out hsk P (i+1) (by omega);have l2:=HK.out.ld1 HR.out hsk P (i) (by omega);have s1:=HK.out.st1 HR.out hsk P (i+1) (by omega) dk[i]!;have s2:=HK.out.st2 HR.out hsk P (i+1) (i) (by omega) (by omega) dk[i]! dk[i+1]!;have X:=hid (HK.out.swapped HR.out (i+1) (i) (by omega) (by omega));have hcI:(enc dk[i+1]!).length=k:=HR.out.hk _;have hcJ:(enc dk[i]!).length=k:=HR.out.hk _;obtain⟨cI,hI⟩:∃c,c=enc dk[i+1]! :=⟨_,rfl⟩;obtain⟨cJ,hJ⟩:∃c,c=enc dk[i]! :=⟨_,rfl⟩;rw[←hI]at l1 s2 hcI X;rw[←hJ]at l2 s1 s2 hcJ X;clear hI hJ;have M2:=hid (HM.out.up (by omega) (by omega));have P2:=hid (permIn_trans _ _ _ _ _ HP.out (swp_permIn dk a b (i+1) i (by omega) (by omega) (by omega) (by omega) (by omega)));clear HM HP hsk hskd;go_wp2_with fail
     go_big_region_o
     all_goals go_wp2
     go_roundg (i-q)
     case measure=>omega
     case rel=>exact⟨i,_,(by first|rfl|go_num|(congr 1;omega)),by omega,by omega,by omega,M2,P2,X⟩
    ·have hltz:¬(q:Int)<(i:Int):=by omega
     obtain rfl:q=i:=by omega
     have HX:=hid (HF.out dk wr HM.out HP.out HK.out);clear HM HP HF;go_wp2;first|exact HX.out|(go_end0;exact HX.out)
end
end
end Go.Proofs.YtimffppffbideaaGreatDoor
