import Derived.Test.YtimffppffbideaaGreatDoorDevROne
import Derived.Test.YtimffppffbideaaGreatDoorJSlChk
import Derived.Test.YtimffppffbideaaGreatDoorJDetAdd
set_option linter.unusedSimpArgs false
set_option linter.unusedVariables false
set_option maxRecDepth 100000
set_option maxHeartbeats 16000000
namespace Go.Proofs.YtimffppffbideaaGreatDoor
section
open Go.RowKit Go.Lib
theorem rIsName_any (s:ByteArray)(w:World):
  Calls Tryz.prog 33 #[.string s] w fun e w'=>e=.returned (.bool (nameB s))∧w'=w:=by
 generalize hr:nameB s=r;by_cases h0:s.size<1
 ·have R:=hid (show r=false by rw[←hr,nameB,show decide (1≤s.size)=false from decide_eq_false (by omega)];rfl);clear hr;go_enter Tryz.func33,Tryz.ntmps33;go_wp2;all_goals(go_ret;rw[R.out];exact⟨rfl,rfl⟩)
 ·by_cases h12:12<s.size
  ·have R:=hid (show r=false by rw[←hr,nameB,show decide (s.size≤12)=false from decide_eq_false (by omega)];simp);clear hr;go_enter Tryz.func33,Tryz.ntmps33;go_wp2;all_goals(go_ret;rw[R.out];exact⟨rfl,rfl⟩)
  ·have hp0:0<s.size:=by omega
   obtain⟨c0,hc0⟩:∃c0:Nat,(s[0]'hp0).toNat=c0:=⟨_,rfl⟩;cases ho0:okByte 0 c0
   ·have R:=hid (show r=false by rw[←hr];exact nameB_no hp0 (by rw[hc0];exact ho0));have hz:(c0:Int)<97∨(97≤(c0:Int)∧122<(c0:Int)):=by
     unfold okByte at ho0;simp at ho0;omega
    clear hr ho0;go_enter Tryz.func33,Tryz.ntmps33;rcases hz with h1|⟨h1,h2⟩
    all_goals(go_wp2;all_goals(go_ret;rw[R.out];exact⟨rfl,rfl⟩))
   ·have hz:97≤(c0:Int)∧(c0:Int)≤122:=by
     unfold okByte at ho0;simp at ho0;omega
    obtain⟨h1,h2⟩:=hz;have HO:=hid (show okByte 0 (s[0]'hp0).toNat=true by rw[hc0];exact ho0);have HR:=hid hr;clear hr;go_enter Tryz.func33,Tryz.ntmps33;go_wp2;go_loopw [3] (fun i wr=>∃k:Nat,k≤s.size∧i=.int .i64 k∧wr=w∧Hid (nameTo s k)) (fun i _=>s.size-(RowKit.intOf i).toNat)
    case atStart=>exact⟨0,Nat.zero_le _,rfl,rfl,fun i _ h=>absurd h (Nat.not_lt_zero _)⟩
    case round=>
     obtain⟨k,hkl,rfl,rfl,HN⟩:=hrel;clear h1 h2 hc0;by_cases hk:k<s.size
     ·obtain⟨c,hc⟩:∃c:Nat,(s[k]'hk).toNat=c:=⟨_,rfl⟩;cases ho:okByte k c
      ·have hk0:k≠0:=by
        rintro rfl;rw[←hc,HO.out]at ho;cases ho
       have R:=hid (show r=false by rw[←HR.out,nameB_no hk (by rw[hc];exact ho)]);have hno:=okByte_no' ho hk0;clear ho;rcases hno with⟨h1,h2⟩|⟨h1,h2⟩|h1
       all_goals(go_wp2;all_goals first|(go_ret;rw[R.out];exact⟨rfl,rfl⟩)|(exfalso;rename_i hx;simp at hx;omega)|skip)
      ·have R:=hid (nameTo_succ HN.out hk (by rw[hc];exact ho));have hyes:=okByte_yes' ho;clear ho;rcases hyes with⟨h1,h2⟩|⟨h1,h2,h3⟩|⟨h1,h2⟩
       all_goals
        go_wp2;go_roundw
        case rel=>exact⟨k+1,by omega,by go_num,by first|rfl|trivial,R⟩
        case measure=>simp[RowKit.intOf];omega
     ·obtain rfl:k=s.size:=by omega
      have R:=hid (show r=true by rw[←HR.out];exact(nameB_iff s).2 ⟨by omega,by omega,HN.out⟩);go_wp2;go_ret;rw[R.out];exact⟨rfl,rfl⟩
theorem devX_6r {ps:List Pt}{d:Dv}{b:Bool}(h:nameB d.name=false):devX ps b d=6:=by unfold devX;rw[if_pos h]
theorem devX_9r {ps:List Pt}{d:Dv}(h:nameB d.name=true):devX ps true d=9:=by unfold devX;rw[if_neg (by rw[h];simp),if_pos rfl]
theorem devX_oner {ps:List Pt}{d:Dv}(h:nameB d.name=true):devX ps false d=oneE ps d:=by unfold devX;rw[if_neg (by rw[h];simp),if_neg (by simp)]
theorem rcheck_any {A:Option Addr}(c:Nat){l:List Dv}(n:Nw){w:World}(h:Rd encD 6 w w.heap.size A l)(hz:DsOk w l)(hn:NwOk w n)(hsm:∀d∈l,smallD d)(hl3:n.ps.length≤100000000000):
  Calls Tryz.prog 16 #[.slice A l.length c,NV n] w fun e w'=>e=.returned (.int .i64 (devsE n.ps l))∧Below w.heap.size w w':=by
 have H:=hid h;have CO:=hid (fun(X:World) (hX:Below w.heap.size w X) (d:Dv) (hd:d∈l)=>rone_any d n ((hz d hd).st hX) (hn.st hX) (hsm d hd).1 (hsm d hd).2 hl3);have HR:=hid (show¬1024<l.length→devsE n.ps l=firstE (devE n.ps l) l.length from fun h=>by unfold devsE;rw[if_neg h]);have HB:=hid (show 1024<l.length→devsE n.ps l=3 from fun h=>by unfold devsE;rw[if_pos h]);generalize devsE n.ps l=r at*;clear h hz hsm hn;obtain⟨pA,pc,ps,lA,ln2,lc⟩:=n;simp only[NV]at*;obtain⟨Y,hY⟩:∃Y,w.alloc (.cells #[.slice pA ps.length pc,.slice lA ln2 lc] 25)=Y:=⟨_,rfl⟩;have bW:Below w.heap.size w Y:=by rw[←hY];exact(Below.refl _ w).al _
 have bN:Blk Y w.heap.size #[.slice pA ps.length pc,.slice lA ln2 lc] 25:=by rw[←hY];exact Blk.new w _ _
 by_cases hbig:1024<l.length
 ·have R:=HB.out hbig;subst R;clear HR HB CO;go_enter Tryz.func16,Tryz.ntmps16;go_wp2;go_ret;exact⟨rfl,bW⟩
 ·have HR:=hid (HR.out hbig);clear HB;go_enter Tryz.func16,Tryz.ntmps16;go_wp2_with fail
  go_loopw [5] (fun i wr=>∃k:Nat,k≤l.length∧i=.int .i64 k∧Hid (∀j,j<k→devE ps l j=0)∧Blk wr w.heap.size #[.slice pA ps.length pc,.slice lA ln2 lc] 25∧Below w.heap.size w wr) (fun i _=>l.length-(RowKit.intOf i).toNat)
  case atStart=>exact⟨0,Nat.zero_le _,rfl,fun j hj=>absurd hj (Nat.not_lt_zero _),bN,bW⟩
  case round=>
   clear bN bW;obtain⟨k,hk,rfl,HE,bN,bX⟩:=hrel;by_cases hi:k<l.length
   ·have HD:=fun(W:World) (hW:Below w.heap.size w W)=>(H.out.st hW).d hi;obtain⟨b,off,d,rfl,hg,hx,d0,d1,d2,d3,d4,d5⟩:=(H.out.st bX).d hi;have hgw:b<w.heap.size:=by
     obtain⟨b',off',_,hA,hb',_⟩:=H.out.d hi;injection hA with hA;injection hA with hA1;omega
    have hmem:=List.mem_of_getElem? hx;have he:=devE_at (ps:=ps) hx;have COd:=hid (fun(X:World) (hX:Below w.heap.size w X)=>CO.out X hX d hmem);have HL:=hid hi;have CN:=hid (rIsName_any d.name wr);have k0:(0:Int)≤(k:Int):=by omega
    have kl:(k:Int)<(l.length:Int):=by omega
    have n0:World.cell? wr ⟨w.heap.size,0,none⟩=some (.slice pA ps.length pc):=bN.cell 0 rfl;have n1:World.cell? wr ⟨w.heap.size,1,none⟩=some (.slice lA ln2 lc):=bN.cell 1 rfl;cases hnm:nameB d.name
    ·rw[hnm]at CN;rw[devX_6r hnm]at he;have R:=hid (show r=6 by rw[HR.out,firstE_some HE.out hi (by rw[he];decide),he]);clear he COd CO hnm HD hx hmem;go_wp2_with fail
     refine CN.out.mono ?_;rintro e w2 ⟨rfl,rfl⟩;go_wp2;all_goals(go_ret;rw[R.out];exact⟨rfl,bX⟩)
    ·rw[hnm]at CN;have HN1:=hid (fun hf:((l.take k).any fun y=>eqS y.name d.name)=true=>by rw[hf,devX_9r hnm]at he;exact he);have HN0:=hid (fun hf:((l.take k).any fun y=>eqS y.name d.name)=false=>by rw[hf,devX_oner hnm]at he;exact he);have HX:=hid hx;clear hnm he CO hmem;obtain⟨wo,rfl⟩:∃wo:World,wo=wr:=⟨_,rfl⟩;clear hx;go_wp2_with fail
     refine CN.out.mono ?_;rintro e w2 ⟨rfl,rfl⟩;go_wp2_with fail
     go_loopw [6] (fun i wr=>∃j m:Nat,j≤k∧i=.int .i64 j∧Hid (∀y∈(l.take k).take j,eqS y.name d.name=false)∧wr=w2.drewN m) (fun i _=>k-(RowKit.intOf i).toNat)
     case atStart=>exact⟨0,0,Nat.zero_le _,rfl,(by unfold Hid;simp),rfl⟩
     case round=>
      obtain⟨j,m,hj,rfl,HQ,rfl⟩:=hrel;by_cases hjk:j<k
      ·obtain⟨b',off',y,hA,hg',hy,e0,-,-,-,-,-⟩:=(H.out.st bX).d (show j<l.length by omega);injection hA with hA;injection hA with hA1 hA2;subst hA1 hA2;have hj1:(0:Int)≤(j:Int):=by omega
       have hj2:(j:Int)<(l.length:Int):=by omega
       have hdj:decide ((j:Int)<(k:Int))=true:=decide_eq_true (by omega);have hy2:=take_get hy hjk;cases hq:eqS y.name d.name
       ·have R:=hid (all_succ' (p:=fun y=>eqS y.name d.name) hy2 HQ.out hq);have hq2:(y.name.toList==d.name.toList)=false:=hq;have HJ:=hid hjk;clear hq hy hy2 HD HN1 HN0 HX COd;go_wp2_with fail
        go_quiet(fail)
        go_wp2;go_roundw
        case rel=>exact⟨j+1,_,HJ.out,by go_num,R,rfl⟩
        case measure=>have:=HJ.out;simp[RowKit.intOf];omega
       ·have hf:((l.take k).any fun y=>eqS y.name d.name)=true:=List.any_eq_true.2 ⟨y,List.mem_of_getElem? hy2,hq⟩;have R:=hid (show r=9 by rw[HR.out,firstE_some HE.out hi (by rw[HN1.out hf];decide),HN1.out hf]);have hq2:(y.name.toList==d.name.toList)=true:=hq;clear hq hy hy2 HD HN1 HN0 HX COd hf;go_wp2_with fail
        go_quiet(fail)
        go_wp2;all_goals(go_ret;rw[R.out];first|exact⟨rfl,below_drewN bX _⟩|exact⟨rfl,below_drewN (below_drewN bX _) _⟩)
      ·obtain rfl:j=k:=by omega
       have hf:((l.take j).any fun y=>eqS y.name d.name)=false:=by
        rw[List.any_eq_false];intro y hy;have:=HQ.out y (by rw[List.take_take,Nat.min_self];exact hy)
        rw[this];simp
       have he:=HN0.out hf;have hdj:decide ((j:Int)<(j:Int))=false:=decide_eq_false (by omega);have bX3:=below_drewN bX m;have bN3:Blk (w2.drewN m) w.heap.size #[.slice pA ps.length pc,.slice lA ln2 lc] 25:=bN;clear hf HN0 HN1 HQ HX HD H;obtain⟨nm,pt,kd,ln,oA,oc,os,dA,dc,ds⟩:=d;simp only[DV]at*;have e0:(w2.drewN m).cell? ⟨b,off+j*6,none⟩=some (.string nm):=d0;have e1:(w2.drewN m).cell? ⟨b,off+j*6+1,none⟩=some (.string pt):=d1;have e2:(w2.drewN m).cell? ⟨b,off+j*6+2,none⟩=some (.int .i64 kd):=d2;have e3:(w2.drewN m).cell? ⟨b,off+j*6+3,none⟩=some (.int .i64 ln):=d3;have e4:(w2.drewN m).cell? ⟨b,off+j*6+4,none⟩=some (.slice oA os.length oc):=d4;have e5:(w2.drewN m).cell? ⟨b,off+j*6+5,none⟩=some (.slice dA ds.length dc):=d5;have hgq:b<(w2.drewN m).heap.size:=hg;have m0:(w2.drewN m).cell? ⟨w.heap.size,0,none⟩=some (.slice pA ps.length pc):=n0;have m1:(w2.drewN m).cell? ⟨w.heap.size,1,none⟩=some (.slice lA ln2 lc):=n1;clear d0 d1 d2 d3 d4 d5 hg n0 n1 bX bN;generalize w2.drewN m=wq at*;by_cases ho:oneE ps ⟨nm,pt,kd,ln,oA,oc,os,dA,dc,ds⟩=0
       ·have HK:=hid (firstE_up HE.out (he.trans ho));rw[ho]at COd;clear he ho;go_wp2_with fail
        go_region_held3 (fun w'=>w'.cell? ⟨b,off+j*6,none⟩=some (.string nm)∧w'.cell? ⟨b,off+j*6+1,none⟩=some (.string pt)∧w'.cell? ⟨b,off+j*6+2,none⟩=some (.int .i64 kd)∧w'.cell? ⟨b,off+j*6+3,none⟩=some (.int .i64 ln)∧w'.cell? ⟨b,off+j*6+4,none⟩=some (.slice oA os.length oc)∧w'.cell? ⟨b,off+j*6+5,none⟩=some (.slice dA ds.length dc)∧w'.cell? ⟨w.heap.size,0,none⟩=some (.slice pA ps.length pc)∧w'.cell? ⟨w.heap.size,1,none⟩=some (.slice lA ln2 lc)) (go_keep) ((go_at_call 34;(with_reducible refine(COd.out _ (by first|exact bX3|exact bX3.drew)).mono ?_);rintro e wn ⟨rfl,hbn⟩;(first|have bY:=bX3.st hbn|have bY:=bX3.drew.st hbn);(first|have bM:=bN3.below hbn bN3.lt|have bM:=bN3.drew.below hbn bN3.lt);have v0:=(hbn.cell (p:=⟨b,off+j*6,none⟩) hgq).trans e0;have v1:=(hbn.cell (p:=⟨b,off+j*6+1,none⟩) hgq).trans e1;have v2:=(hbn.cell (p:=⟨b,off+j*6+2,none⟩) hgq).trans e2;have v3:=(hbn.cell (p:=⟨b,off+j*6+3,none⟩) hgq).trans e3;have v4:=(hbn.cell (p:=⟨b,off+j*6+4,none⟩) hgq).trans e4;have v5:=(hbn.cell (p:=⟨b,off+j*6+5,none⟩) hgq).trans e5;have v6:World.cell? wn ⟨w.heap.size,0,none⟩=some (.slice pA ps.length pc):=bM.cell 0 rfl;have v7:World.cell? wn ⟨w.heap.size,1,none⟩=some (.slice lA ln2 lc):=bM.cell 1 rfl))
        all_goals
         go_wp2;go_roundw
         case rel=>exact⟨j+1,HL.out,by go_num,HK,by first|exact bM|exact bM.drew,by first|exact bY|exact bY.drew⟩
         case measure=>have:=HL.out;simp[RowKit.intOf];omega
       ·have ho2:oneE ps ⟨nm,pt,kd,ln,oA,oc,os,dA,dc,ds⟩≠0:=ho;have R:=hid (show r=oneE ps ⟨nm,pt,kd,ln,oA,oc,os,dA,dc,ds⟩ by rw[HR.out,firstE_some HE.out hi (by rw[he];exact ho2),he]);generalize oneE ps ⟨nm,pt,kd,ln,oA,oc,os,dA,dc,ds⟩=v at*;have hv:(v !=0)=true:=by simp[ho2]
        clear he ho ho2;go_wp2_with fail
        go_region_held3 (fun w'=>w'.cell? ⟨b,off+j*6,none⟩=some (.string nm)∧w'.cell? ⟨b,off+j*6+1,none⟩=some (.string pt)∧w'.cell? ⟨b,off+j*6+2,none⟩=some (.int .i64 kd)∧w'.cell? ⟨b,off+j*6+3,none⟩=some (.int .i64 ln)∧w'.cell? ⟨b,off+j*6+4,none⟩=some (.slice oA os.length oc)∧w'.cell? ⟨b,off+j*6+5,none⟩=some (.slice dA ds.length dc)∧w'.cell? ⟨w.heap.size,0,none⟩=some (.slice pA ps.length pc)∧w'.cell? ⟨w.heap.size,1,none⟩=some (.slice lA ln2 lc)) (go_keep) ((go_at_call 34;(with_reducible refine(COd.out _ (by first|exact bX3|exact bX3.drew)).mono ?_);rintro e wn ⟨rfl,hbn⟩;(first|have bY:=bX3.st hbn|have bY:=bX3.drew.st hbn);(first|have bM:=bN3.below hbn bN3.lt|have bM:=bN3.drew.below hbn bN3.lt);have v0:=(hbn.cell (p:=⟨b,off+j*6,none⟩) hgq).trans e0;have v1:=(hbn.cell (p:=⟨b,off+j*6+1,none⟩) hgq).trans e1;have v2:=(hbn.cell (p:=⟨b,off+j*6+2,none⟩) hgq).trans e2;have v3:=(hbn.cell (p:=⟨b,off+j*6+3,none⟩) hgq).trans e3;have v4:=(hbn.cell (p:=⟨b,off+j*6+4,none⟩) hgq).trans e4;have v5:=(hbn.cell (p:=⟨b,off+j*6+5,none⟩) hgq).trans e5;have v6:World.cell? wn ⟨w.heap.size,0,none⟩=some (.slice pA ps.length pc):=bM.cell 0 rfl;have v7:World.cell? wn ⟨w.heap.size,1,none⟩=some (.slice lA ln2 lc):=bM.cell 1 rfl))
        all_goals
         go_wp2;go_ret;rw[R.out];exact⟨rfl,by first|exact bY|exact bY.drew⟩
   ·obtain rfl:k=l.length:=by omega
    have R:=hid (show r=0 by rw[HR.out,firstE_none HE.out]);go_wp2;go_ret;rw[R.out];exact⟨rfl,bX⟩
end
section
open Go.RowKit Go.Lib Go.Sort
open Mat
theorem Rd.conv {α β:Type}{enc:α→List Value}{enc':β→List Value}{k B:Nat}{w:World}{A:Option Addr}{l:List α}(f:α→β)(he:∀x,enc' (f x)=enc x)(h:Rd enc k w B A l):Rd enc' k w B A (l.map f):=by
 intro hne;obtain⟨b,off,hA,hb,hc⟩:=h (by intro e;rw[e]at hne;exact hne rfl);refine⟨b,off,hA,hb,fun i x hx j u hu=> ?_⟩;rw[List.getElem?_map]at hx;cases hg:l[i]? with
 |none=>rw[hg]at hx;simp at hx
 |some z=>
  rw[hg]at hx;simp only[Option.map_some,Option.some.injEq]at hx;rw[←hx,he]at hu;exact hc i z hg j u hu
structure DevsGood (pts:List Pt)(dvs:List Dv)(kn gn:Nat)(gap weak:Int):Prop where
 n:dvs.length≤40
 s:∀y∈dvs,y.os.length≤8∧y.ds.length≤8
 e:devsE pts dvs=0
 k:kn≤9
 g:gn≤12
 gap:0≤gap∧gap≤3600
 weak:0≤weak∧weak≤1000
def DvsR (pts:List Pt)(dvs:List Dv)(kn gn:Nat)(gap weak:Int)(e:Ending):Prop:=∃b:Bool,e=.returned (.bool b)∧(b=true→DevsGood pts dvs kn gn gap weak)
theorem devices_any (v2 v8 v9 v10 v11 v12 v13 v14 v15 v16 v17 v18 v19 v20 v21 v22 v23 v24:Value){pA lA dA kA gA:Option Addr}(pc lc dc kc gc:Nat){pts:List Pt}{lks:List Net.Lk}{dvs:List Dv}{ks:List Cl}{gs:List Tg}(gap weak:Int){w:World}(hp:Rd encPt 3 w w.heap.size pA pts)(hk:Rd Net.encLk 4 w w.heap.size lA lks)
  (hd:Rd encD 6 w w.heap.size dA dvs) (hz:DsOk w dvs) (hc:Rd encCl 3 w w.heap.size kA ks) (hg:Rd encTg 3 w w.heap.size gA gs)
  (hl1:pts.length≤9223372036854775807) (hl2:lks.length≤9223372036854775807) (hl3:dvs.length≤9223372036854775807) (hl4:ks.length≤9223372036854775807) (hl5:gs.length≤9223372036854775807):
  Calls Tryz.prog 5 #[.agg #[.slice pA pts.length pc,.slice lA lks.length lc,v2,.slice dA dvs.length dc,.slice kA ks.length kc,.slice gA gs.length gc,.int .i64 gap,.int .i64 weak,v8,v9,v10,v11,v12,v13,v14,v15,v16,v17,v18,v19,v20,v21,v22,v23,v24]] w fun e w'=>DvsR pts dvs ks.length gs.length gap weak e∧Below w.heap.size w w':=by
 obtain⟨pn,hpn⟩:∃n,pts.length=n:=⟨_,rfl⟩;obtain⟨ln,hln⟩:∃n,lks.length=n:=⟨_,rfl⟩;obtain⟨dn,hdn⟩:∃n,dvs.length=n:=⟨_,rfl⟩;obtain⟨kn,hkn⟩:∃n,ks.length=n:=⟨_,rfl⟩;obtain⟨gn,hgn⟩:∃n,gs.length=n:=⟨_,rfl⟩;rw[hpn,hln,hdn,hkn,hgn];rw[hpn]at hl1;rw[hln]at hl2;rw[hdn]at hl3;rw[hkn]at hl4;rw[hgn]at hl5;obtain⟨Y1,hY1⟩:∃Y,w.alloc (.cells #[.slice pA pn pc,.slice lA ln lc,v2,.slice dA dn dc,.slice kA kn kc,.slice gA gn gc,.int .i64 gap,.int .i64 weak,v8,v9,v10,v11,v12,v13,v14,v15,v16,v17,v18,v19,v20,v21,v22,v23,v24] 46)=Y:=⟨_,rfl⟩;obtain⟨Y2,hY2⟩:∃Y,Y1.alloc (.cells #[.slice pA pn pc,.slice lA ln lc] 25)=Y:=⟨_,rfl⟩;have s1:Y1.heap.size=w.heap.size+1:=by rw[←hY1];simp
 have B0:Blk Y1 w.heap.size #[.slice pA pn pc,.slice lA ln lc,v2,.slice dA dn dc,.slice kA kn kc,.slice gA gn gc,.int .i64 gap,.int .i64 weak,v8,v9,v10,v11,v12,v13,v14,v15,v16,v17,v18,v19,v20,v21,v22,v23,v24] 46:=by rw[←hY1];exact Blk.new w _ _
 have b2:Below w.heap.size w Y2:=by rw[←hY2,←hY1];exact((Below.refl _ w).al _).al _
 have B1:Blk Y2 w.heap.size #[.slice pA pn pc,.slice lA ln lc,v2,.slice dA dn dc,.slice kA kn kc,.slice gA gn gc,.int .i64 gap,.int .i64 weak,v8,v9,v10,v11,v12,v13,v14,v15,v16,v17,v18,v19,v20,v21,v22,v23,v24] 46:=by rw[←hY2];exact B0.alloc _
 have B2:Blk Y2 (w.heap.size+1) #[.slice pA pn pc,.slice lA ln lc] 25:=by rw[←s1,←hY2];exact Blk.new Y1 _ _
 have x0:=B0.cell 0 (v:=.slice pA pn pc) rfl;have x1:=B0.cell 1 (v:=.slice lA ln lc) rfl;have c3:=B1.cell 3 (v:=.slice dA dn dc) rfl;have c4:=B1.cell 4 (v:=.slice kA kn kc) rfl;have c5:=B1.cell 5 (v:=.slice gA gn gc) rfl;have c6:=B1.cell 6 (v:=.int .i64 gap) rfl;have c7:=B1.cell 7 (v:=.int .i64 weak) rfl;have t0:=B2.cell 0 (v:=.slice pA pn pc) rfl;have t1:=B2.cell 1 (v:=.slice lA ln lc) rfl;have HD:=hid hd;have HZ:=hid hz;have HB2:=hid b2;have HC2:=hid B1;have HN2:=hid B2;have HDN:=hid hdn;have CN:=hid (fun(X:World) (hX:Below w.heap.size w X) (h12:pn≤12) (h24:ln≤24)=>Net.netchk_any pc lc (pts:=pts.map fun p=>⟨p.name,p.kind,p.sys⟩) ((hp.st hX).conv (enc':=Net.encPt) (fun p:Pt=>⟨p.name,p.kind,p.sys⟩) (fun _=>rfl)) (hk.st hX) (by rw[List.length_map];omega) (by omega));rw[List.length_map,hpn,hln]at CN;have CD:=hid (fun(X:World) (hX:Below w.heap.size w X) (hs:∀d∈dvs,smallD d) (h12:pn≤12)=>rcheck_any dc ⟨pA,pc,pts,lA,ln,lc⟩ (hd.st hX) (hz.st hX) (show NwOk X ⟨pA,pc,pts,lA,ln,lc⟩from hp.st hX) hs (by show pts.length≤_;omega));simp only[NV]at CD;rw[hpn,hdn]at CD;have CK:=hid (fun(X:World) (hX:Below w.heap.size w X) (h:kn≤9)=>clschk_any kc (hc.st hX) (by omega));rw[hkn]at CK;have CG:=hid (fun(X:World) (hX:Below w.heap.size w X) (h:gn≤12)=>tagschk_any gc (hg.st hX) (by omega));rw[hgn]at CG;clear hp hk hd hz hc hg b2 B0 B1 B2 hpn hln hdn hkn hgn;go_enter Tryz.func5,Tryz.ntmps5;by_cases q1:12<pn
 ·have i1:(12:Int)<(pn:Int):=by omega
  go_wp2_with fail;go_ret;exact⟨⟨false,rfl,fun h=>by cases h⟩,HB2.out⟩
 have i1:¬(12:Int)<(pn:Int):=by omega
 by_cases q2:24<ln
 ·have i2:(24:Int)<(ln:Int):=by omega
  go_wp2_with fail;go_ret;exact⟨⟨false,rfl,fun h=>by cases h⟩,HB2.out⟩
 have i2:¬(24:Int)<(ln:Int):=by omega
 by_cases q3:40<dn
 ·have i3:(40:Int)<(dn:Int):=by omega
  go_wp2_with fail;go_ret;exact⟨⟨false,rfl,fun h=>by cases h⟩,HB2.out⟩
 have i3:¬(40:Int)<(dn:Int):=by omega
 by_cases q4:12<gn
 ·have i4:(12:Int)<(gn:Int):=by omega
  go_wp2_with fail;go_ret;exact⟨⟨false,rfl,fun h=>by cases h⟩,HB2.out⟩
 have i4:¬(12:Int)<(gn:Int):=by omega
 by_cases q5:9<kn
 ·have i5:(9:Int)<(kn:Int):=by omega
  go_wp2_with fail;go_ret;exact⟨⟨false,rfl,fun h=>by cases h⟩,HB2.out⟩
 have i5:¬(9:Int)<(kn:Int):=by omega
 by_cases q6:gap<0
 ·go_wp2_with fail;go_ret;exact⟨⟨false,rfl,fun h=>by cases h⟩,HB2.out⟩
 by_cases q7:3600<gap
 ·go_wp2_with fail;go_ret;exact⟨⟨false,rfl,fun h=>by cases h⟩,HB2.out⟩
 by_cases q8:weak<0
 ·go_wp2_with fail;go_ret;exact⟨⟨false,rfl,fun h=>by cases h⟩,HB2.out⟩
 by_cases q9:1000<weak
 ·go_wp2_with fail;go_ret;exact⟨⟨false,rfl,fun h=>by cases h⟩,HB2.out⟩
 have HQ:=hid (show dn≤40∧kn≤9∧gn≤12∧(0≤gap∧gap≤3600)∧(0≤weak∧weak≤1000) by omega);have CN:=hid (fun(X:World) (hX:Below w.heap.size w X)=>CN.out X hX (by omega) (by omega));have CD:=hid (fun(X:World) (hX:Below w.heap.size w X) (hs:∀d∈dvs,smallD d)=>CD.out X hX hs (by omega));have CK:=hid (fun(X:World) (hX:Below w.heap.size w X)=>CK.out X hX (by omega));have CG:=hid (fun(X:World) (hX:Below w.heap.size w X)=>CG.out X hX (by omega));go_wp2_with fail
 go_loopw [4] (fun sj wx=>∃j:Nat,j≤dn∧sj=.int .i64 j∧Hid (∀y∈dvs.take j,y.os.length≤8∧y.ds.length≤8)∧wx=Y2) (fun sj _=>dn-(RowKit.intOf sj).toNat)
 case atStart=>exact⟨0,Nat.zero_le _,rfl,(fun y h=>by simp at h),rfl⟩
 case round=>
  obtain⟨j,hj,rfl,HQS,hw⟩:=hrel;have hw:=hw.symm;subst hw;have j0:(0:Int)≤(j:Int):=by omega
  by_cases hi:j<dn
  ·obtain⟨db,dof,d,hA,hbl,hx,hc⟩:=(HD.out.st HB2.out).at_ (i:=j) (by rw[HDN.out];exact hi);rw[hA]at c3;have HI:=hid hi;have HX:=hid (fun(g:d.os.length≤8∧d.ds.length≤8)=>show∀y∈dvs.take (j+1),y.os.length≤8∧y.ds.length≤8 from fun y hy=>by
    rw[List.take_add_one,hx]at hy;rcases List.mem_append.1 hy with q|q
    ·exact HQS.out y q
    ·have:y=d:=by simpa using q
     rw[this];exact g)
   have j1:(j:Int)<(dn:Int):=by omega
   have j2:decide (j<dn)=true:=decide_eq_true hi;have e4:Y2.cell? ⟨db,dof+j*6+4,none⟩=some (.slice d.oA d.os.length d.oc):=hc 4 _ rfl;have e5:Y2.cell? ⟨db,dof+j*6+5,none⟩=some (.slice d.dA d.ds.length d.dc):=hc 5 _ rfl;clear hc hbl hx hi hj;by_cases g1:8<d.ds.length
   ·have g1i:(8:Int)<(d.ds.length:Int):=by omega
    go_wp2_with fail;go_ret;exact⟨⟨false,rfl,fun h=>by cases h⟩,HB2.out⟩
   have g1i:¬(8:Int)<(d.ds.length:Int):=by omega
   by_cases g2:8<d.os.length
   ·have g2i:(8:Int)<(d.os.length:Int):=by omega
    go_wp2_with fail;go_ret;exact⟨⟨false,rfl,fun h=>by cases h⟩,HB2.out⟩
   have g2i:¬(8:Int)<(d.os.length:Int):=by omega
   have HX2:=hid (HX.out ⟨by omega,by omega⟩);clear HX hA;go_wp2_with fail
   go_roundw
   case rel=>exact⟨j+1,HI.out,by go_num,HX2,trivial⟩
   case measure=>have:=HI.out;simp[RowKit.intOf];omega
  ·obtain rfl:dn=j:=by omega
   have HSS:=hid (show∀y∈dvs,y.os.length≤8∧y.ds.length≤8 by have:=HQS.out;rwa [List.take_of_length_le (Nat.le_of_eq HDN.out)]at this);have CDD:=hid (fun(X:World) (hX:Below w.heap.size w X)=>CD.out X hX (fun y hy=>by have:=HSS.out y hy;unfold smallD;omega));have CN2:=hid (CN.out Y2 HB2.out);clear hi hj HQS CD CN;go_wp2_with(refine wpList_boxLoad rfl (ty:=25) (x:=.tmp 3) (cs:=#[.slice pA pn pc,.slice lA ln lc]) rfl HN2.out rfl ⟨_,Tryz.underlying25,by kernel_rfl⟩ ?_)
   with_reducible refine CN2.out.mono ?_
   rintro e W3 ⟨⟨n1,rfl⟩,hb3⟩;have HB3:=hid (HB2.out.st hb3);have HC3:=hid (HC2.out.below hb3 HC2.out.lt);have HN3:=hid (HN2.out.below hb3 HN2.out.lt);have c3:=HC3.out.cell 3 (v:=.slice dA dn dc) rfl;have t0:=HN3.out.cell 0 (v:=.slice pA pn pc) rfl;have t1:=HN3.out.cell 1 (v:=.slice lA ln lc) rfl;have CD2:=hid (CDD.out W3 HB3.out);clear hb3 CN2 CDD;by_cases r1:n1=0
   ·have r1b:(n1==0)=true:=by simp[r1]
    clear r1;go_wp2_with fail
    with_reducible refine CD2.out.mono ?_
    rintro e W4 ⟨rfl,hb4⟩;have HB4:=hid (HB3.out.st hb4);have HC4:=hid (HC3.out.below hb4 HC3.out.lt);have c5:=HC4.out.cell 5 (v:=.slice gA gn gc) rfl;have CG2:=hid (CG.out W4 HB4.out);obtain⟨de,hde⟩:∃z,devsE pts dvs=z:=⟨_,rfl⟩;rw[hde];have HDE:=hid hde;clear hb4 CD2 CG hde;by_cases r2:de=0
    ·have r2b:(de==0)=true:=by simp[r2]
     have HDE0:=hid (HDE.out.trans r2);clear r2 HDE;go_wp2_with fail
     with_reducible refine CG2.out.mono ?_
     rintro e W5 ⟨⟨n3,rfl⟩,hb5⟩;have HB5:=hid (HB4.out.st hb5);have HC5:=hid (HC4.out.below hb5 HC4.out.lt);have c4:=HC5.out.cell 4 (v:=.slice kA kn kc) rfl;have CK2:=hid (CK.out W5 HB5.out);clear hb5 CG2 CK;by_cases r3:n3=0
     ·have r3b:(n3==0)=true:=by simp[r3]
      clear r3;go_wp2_with fail
      with_reducible refine CK2.out.mono ?_
      rintro e W6 ⟨⟨n4,rfl⟩,hb6⟩;have HB6:=hid (HB5.out.st hb6);clear hb6 CK2;by_cases r4:n4=0
      ·have r4b:(n4==0)=true:=by simp[r4]
       clear r4;go_wp2_with fail
       go_ret;have hq:=HQ.out;exact⟨⟨true,rfl,fun _=>⟨by rw[HDN.out];exact hq.1,HSS.out,HDE0.out,hq.2.1,hq.2.2.1,hq.2.2.2.1,hq.2.2.2.2⟩⟩,HB6.out⟩
      ·have r4b:(n4==0)=false:=by simp[r4]
       clear r4;go_wp2_with fail;go_ret;exact⟨⟨false,rfl,fun h=>by cases h⟩,HB6.out⟩
     ·have r3b:(n3==0)=false:=by simp[r3]
      clear r3;go_wp2_with fail;go_ret;exact⟨⟨false,rfl,fun h=>by cases h⟩,HB5.out⟩
    ·have r2b:(de==0)=false:=by simp[r2]
     clear r2;go_wp2_with fail;go_ret;exact⟨⟨false,rfl,fun h=>by cases h⟩,HB4.out⟩
   ·have r1b:(n1==0)=false:=by simp[r1]
    clear r1;go_wp2_with fail;go_ret;exact⟨⟨false,rfl,fun h=>by cases h⟩,HB3.out⟩
end
end Go.Proofs.YtimffppffbideaaGreatDoor
