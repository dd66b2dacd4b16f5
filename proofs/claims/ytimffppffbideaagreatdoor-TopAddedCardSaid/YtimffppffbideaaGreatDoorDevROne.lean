import Derived.Test.YtimffppffbideaaGreatDoorJName
set_option linter.unusedSimpArgs false
set_option linter.unusedVariables false
set_option maxRecDepth 100000
set_option maxHeartbeats 8000000
namespace Go.Proofs.YtimffppffbideaaGreatDoor
open Go.RowKit Go.Lib
theorem offsE_some {l:List Iv}{k:Nat}(h:∀j,j<k→offE l j=0)(hk:k<l.length)(hne:offE l k≠0):offsE l=offE l k:=firstE_some h hk hne
theorem offsE_none {l:List Iv}(h:∀j,j<l.length→offE l j=0):offsE l=0:=firstE_none h
theorem downsE_some {l:List Iv}{k:Nat}(h:∀j,j<k→downE l j=0)(hk:k<l.length)(hne:downE l k≠0):downsE l=downE l k:=firstE_some h hk hne
theorem downsE_none {l:List Iv}(h:∀j,j<l.length→downE l j=0):downsE l=0:=firstE_none h
theorem oneE_16 {ps:List Pt}{d:Dv}(h:hasPt ps d.pt=false):oneE ps d=16:=by unfold oneE;rw[if_pos h]
theorem oneE_1 {ps:List Pt}{d:Dv}(h:hasPt ps d.pt=true)(h2:kindB d=false):oneE ps d=1:=by unfold oneE;rw[if_neg (by rw[h];simp),if_pos h2]
theorem oneE_off {ps:List Pt}{d:Dv}(h:hasPt ps d.pt=true)(h2:kindB d=true)(h3:offsE d.os≠0):oneE ps d=offsE d.os:=by unfold oneE;rw[if_neg (by rw[h];simp),if_neg (by rw[h2];simp),if_pos h3]
theorem oneE_down {ps:List Pt}{d:Dv}(h:hasPt ps d.pt=true)(h2:kindB d=true)(h3:offsE d.os=0):oneE ps d=downsE d.ds:=by unfold oneE;rw[if_neg (by rw[h];simp),if_neg (by rw[h2];simp),if_neg (by rw[h3];simp)]
theorem rhas_any (n:Nw)(nm:ByteArray){w:World}(h:NwOk w n)(hl:n.ps.length≤100000000000):
  Calls Tryz.prog 61 #[NV n,.string nm] w fun e w'=>e=.returned (.bool (hasPt n.ps nm))∧Below w.heap.size w w':=by
 obtain⟨pA,pc,ps,lA,ln2,lc⟩:=n;have h1:Rd encPt 3 w w.heap.size pA ps:=h;clear h;simp only[NV]at*;obtain⟨Y,hY⟩:∃Y,w.alloc (.cells #[.slice pA ps.length pc,.slice lA ln2 lc] 25)=Y:=⟨_,rfl⟩;have bW:Below w.heap.size w Y:=by rw[←hY];exact(Below.refl _ w).al _
 have bN:Blk Y w.heap.size #[.slice pA ps.length pc,.slice lA ln2 lc] 25:=by rw[←hY];exact Blk.new w _ _
 have n0:World.cell? Y ⟨w.heap.size,0,none⟩=some (.slice pA ps.length pc):=bN.cell 0 rfl;have H:=hid (h1.keep bW);have HH:=hid (show∀k x,ps[k]? =some x→eqS x.name nm=true→hasPt ps nm=true from fun k x hx he=>List.any_eq_true.2 ⟨x,List.mem_of_getElem? hx,he⟩);have HN:=hid (show(∀y∈ps.take ps.length,eqS y.name nm=false)→hasPt ps nm=false from fun h=>by rw[List.take_length]at h;exact(IdxR.any_no h).1);generalize hasPt ps nm=r at*;clear h1;go_enter Tryz.func61,Tryz.ntmps61;go_wp2_with fail
 go_loopw [5] (fun i wr=>∃k:Nat,k≤ps.length∧i=.int .i64 k∧Hid (∀y∈ps.take k,eqS y.name nm=false)∧wr=Y) (fun i _=>ps.length-(RowKit.intOf i).toNat)
 case atStart=>exact⟨0,Nat.zero_le _,rfl,(by unfold Hid;simp),rfl⟩
 case round=>
  obtain⟨k,hk,rfl,HQ,rfl⟩:=hrel;by_cases hi:k<ps.length
  ·obtain⟨b,off,z,rfl,hb,hx,d0,d1,d2⟩:=H.out.pt hi;have hi2:(k:Int)<(ps.length:Int):=by omega
   cases he:eqS z.name nm
   ·have R:=hid (all_succ' (p:=fun y=>eqS y.name nm) hx HQ.out he);have he2:(z.name.toList==nm.toList)=false:=he;clear hx he;go_wp2_with fail
    go_roundw
    case rel=>exact⟨k+1,by omega,by go_num,R,by first|rfl|trivial⟩
    case measure=>simp[RowKit.intOf];omega
   ·have R:=HH.out k z hx he;subst R;have he2:(z.name.toList==nm.toList)=true:=he;clear hx he;go_wp2_with fail
    go_ret;exact⟨rfl,bW⟩
  ·obtain rfl:k=ps.length:=by omega
   have R:=HN.out HQ.out;subst R;go_wp2_with fail
   go_ret;exact⟨rfl,bW⟩
theorem rone_any (d:Dv)(n:Nw){w:World}(h:DOk w d)(hn:NwOk w n)(hl1:d.os.length≤8796093022208)(hl2:d.ds.length≤100000000000)(hl3:n.ps.length≤100000000000):
  Calls Tryz.prog 34 #[DV d,NV n] w fun e w'=>e=.returned (.int .i64 (oneE n.ps d))∧Below w.heap.size w w':=by
 have CH:=hid (fun(X:World) (hX:Below w.heap.size w X)=>rhas_any n d.pt (hn.st hX) hl3);have H16:=hid (@oneE_16 n.ps d);have H1:=hid (@oneE_1 n.ps d);have HOF:=hid (fun(a:hasPt n.ps d.pt=true) (b:kindB d=true) (v:Int) (e:offsE d.os=v) (hv:v≠0)=>(oneE_off a b (by rw[e];exact hv)).trans e);have HDN:=hid (@oneE_down n.ps d);have h1:=hid h.1;have h2:=hid h.2;clear h hn;generalize oneE n.ps d=r at*;generalize hasPt n.ps d.pt=hp at*;obtain⟨nm,pt,kd,ln,oA,oc,os,dA,dc,ds⟩:=d;obtain⟨pA,pc,ps,lA,ln2,lc⟩:=n;simp only[DV,NV]at*;obtain⟨Y0,hY0⟩:∃Y,w.alloc (.cells #[.string nm,.string pt,.int .i64 kd,.int .i64 ln,.slice oA os.length oc,.slice dA ds.length dc] 69)=Y:=⟨_,rfl⟩;obtain⟨Y1,hY1⟩:∃Y,Y0.alloc (.cells #[.slice pA ps.length pc,.slice lA ln2 lc] 25)=Y:=⟨_,rfl⟩;have bW:Below w.heap.size w Y1:=by rw[←hY1,←hY0];exact((Below.refl _ w).al _).al _
 have s0:Y0.heap.size=w.heap.size+1:=by rw[←hY0];simp
 have bZ:Blk Y1 w.heap.size #[.string nm,.string pt,.int .i64 kd,.int .i64 ln,.slice oA os.length oc,.slice dA ds.length dc] 69:=by rw[←hY1,←hY0];exact(Blk.new w _ _).alloc _
 have bN:Blk Y1 (w.heap.size+1) #[.slice pA ps.length pc,.slice lA ln2 lc] 25:=by rw[←hY1,←s0];exact Blk.new Y0 _ _
 have n0:World.cell? Y1 ⟨w.heap.size+1,0,none⟩=some (.slice pA ps.length pc):=bN.cell 0 rfl;have n1:World.cell? Y1 ⟨w.heap.size+1,1,none⟩=some (.slice lA ln2 lc):=bN.cell 1 rfl;have q0:World.cell? Y1 ⟨w.heap.size,0,none⟩=some (.string nm):=bZ.cell 0 rfl;have q1:World.cell? Y1 ⟨w.heap.size,1,none⟩=some (.string pt):=bZ.cell 1 rfl;have q2:World.cell? Y1 ⟨w.heap.size,2,none⟩=some (.int .i64 kd):=bZ.cell 2 rfl;have q3:World.cell? Y1 ⟨w.heap.size,3,none⟩=some (.int .i64 ln):=bZ.cell 3 rfl;have q4:World.cell? Y1 ⟨w.heap.size,4,none⟩=some (.slice oA os.length oc):=bZ.cell 4 rfl;have q5:World.cell? Y1 ⟨w.heap.size,5,none⟩=some (.slice dA ds.length dc):=bZ.cell 5 rfl;cases hp
 ·have R:=H16.out rfl;subst R;clear H1 HOF HDN;go_enter Tryz.func34,Tryz.ntmps34;go_wp2_with fail
  refine(CH.out _ bW).mono ?_;rintro e wn ⟨rfl,hbn⟩;go_wp2;go_ret;exact⟨rfl,bW.st hbn⟩
 ·cases hkb:kindB ⟨nm,pt,kd,ln,oA,oc,os,dA,dc,ds⟩
  ·have R:=H1.out rfl hkb;subst R;have hw:kd<1∨(¬kd<1∧3<kd)∨(¬kd<1∧¬3<kd∧ln<0)∨(¬kd<1∧¬3<kd∧¬ln<0∧15<ln):=by
    unfold kindB at hkb;rw[decide_eq_false_iff_not]at hkb;simp only at hkb;omega
   clear H16 HOF HDN hkb H1;rcases hw with k1|⟨k1,k2⟩|⟨k1,k2,k3⟩|⟨k1,k2,k3,k4⟩
   all_goals
    go_enter Tryz.func34,Tryz.ntmps34;go_wp2_with fail
    refine(CH.out _ bW).mono ?_;rintro e wn ⟨rfl,hbn⟩;have bW:=bW.st hbn;have bZ:=bZ.below hbn bZ.lt;have q0:World.cell? wn ⟨w.heap.size,0,none⟩=some (.string nm):=bZ.cell 0 rfl;have q1:World.cell? wn ⟨w.heap.size,1,none⟩=some (.string pt):=bZ.cell 1 rfl;have q2:World.cell? wn ⟨w.heap.size,2,none⟩=some (.int .i64 kd):=bZ.cell 2 rfl;have q3:World.cell? wn ⟨w.heap.size,3,none⟩=some (.int .i64 ln):=bZ.cell 3 rfl;have q4:World.cell? wn ⟨w.heap.size,4,none⟩=some (.slice oA os.length oc):=bZ.cell 4 rfl;have q5:World.cell? wn ⟨w.heap.size,5,none⟩=some (.slice dA ds.length dc):=bZ.cell 5 rfl;go_wp2;go_ret;exact⟨rfl,bW⟩
  ·have HOF2:=hid (HOF.out rfl hkb);have HDN2:=hid (HDN.out rfl hkb);clear HOF HDN;have hw:¬kd<1∧¬3<kd∧¬ln<0∧¬15<ln:=by
    unfold kindB at hkb;rw[decide_eq_true_eq]at hkb;simp only at hkb;omega
   obtain⟨k1,k2,k3,k4⟩:=hw;clear H16 hkb H1;go_enter Tryz.func34,Tryz.ntmps34;go_wp2_with fail
   refine(CH.out _ bW).mono ?_;rintro e wn ⟨rfl,hbn⟩;have bW:=bW.st hbn;have bZ:=bZ.below hbn bZ.lt;have q0:World.cell? wn ⟨w.heap.size,0,none⟩=some (.string nm):=bZ.cell 0 rfl;have q1:World.cell? wn ⟨w.heap.size,1,none⟩=some (.string pt):=bZ.cell 1 rfl;have q2:World.cell? wn ⟨w.heap.size,2,none⟩=some (.int .i64 kd):=bZ.cell 2 rfl;have q3:World.cell? wn ⟨w.heap.size,3,none⟩=some (.int .i64 ln):=bZ.cell 3 rfl;have q4:World.cell? wn ⟨w.heap.size,4,none⟩=some (.slice oA os.length oc):=bZ.cell 4 rfl;have q5:World.cell? wn ⟨w.heap.size,5,none⟩=some (.slice dA ds.length dc):=bZ.cell 5 rfl;go_wp2;clear k1 k2 k3 k4 n0 n1 bN;go_loopw [5] (fun i wr=>∃k m:Nat,k≤os.length∧i=.int .i64 k∧Hid (∀j,j<k→offE os j=0)∧wr=wn.drewN m) (fun i _=>os.length-(RowKit.intOf i).toNat)
   case atStart=>exact⟨0,0,Nat.zero_le _,rfl,fun j hj=>absurd hj (Nat.not_lt_zero _),rfl⟩
   case round=>
    obtain⟨k,m,hk,rfl,HZ,rfl⟩:=hrel;by_cases hi:k<os.length
    ·have hr:=h1.out.st bW;have hp:=fun h0:0<k=>hr.ivPrev0 h0 hi;obtain⟨b,off,x,y,rfl,hb,hx,c0,c1⟩:=hr.iv hi;have he:=offE_at hx;have hi1:(0:Int)≤(k:Int):=by omega
     have hi2:(k:Int)<(os.length:Int):=by omega
     have CT:=hid (fun W=>rtime_any x W);have HL:=hid hi;clear hx hr h2 HDN2 CH;by_cases hk0:0<k
     ·obtain⟨f,t,hpx,e0,e1⟩:=hp hk0 b off rfl;have hpv:=prev1_at hpx;simp only at hpv;rw[hpv]at he;have g1:(0:Int)<(k:Int):=by omega
      have g2:(0:Int)≤(k:Int)-1:=by omega
      have g3:(k:Int)-1<(os.length:Int):=by omega
      have g4:((k:Int)-1).toNat=k-1:=by omega
      have g5:IntKind.i64.wrap ((k:Int)-1)=(k:Int)-1:=IntWalk.i64_in _ (by omega);have g6:decide ((0:Int)<(k:Int))=true:=decide_eq_true g1;have g8:decide (0<k)=true:=decide_eq_true (by omega);clear hpx hp hpv;by_cases hle:x≤f
      ·rw[offX_15 hk0 hle]at he;have R:=hid (show r=15 by rw[HOF2.out _ (offsE_some HZ.out hi (by rw[he];decide)) (by rw[he];decide),he]);clear he CT;go_wp2_with fail
       go_quiet(fail)
       go_wp2;all_goals(go_ret;rw[R.out];(first|exact⟨rfl,below_drewN bW _⟩|exact⟨rfl,below_drewN (below_drewN bW _) _⟩))
      ·have hn:¬(0<k∧x≤f):=fun q=>hle q.2
       (cases ht:tB x;(focus rw[ht]at CT;rw[offX_1 hn (.inl ht)]at he;(have R:=hid (show r=1 by rw[HOF2.out _ (offsE_some HZ.out hi (by rw[he];decide)) (by rw[he];decide),he]));clear he ht hn;go_wp2_with fail;go_quiet(fail);go_wp2_with(go_at_call 62;(refine(CT.out _).mono ?_);rintro e w' ⟨rfl,rfl⟩);all_goals(go_ret;rw[R.out];(first|exact⟨rfl,below_drewN bW _⟩|exact⟨rfl,below_drewN (below_drewN bW _) _⟩)));(focus rw[ht]at CT;by_cases h1:y< -86400;(focus rw[offX_1 hn (.inr (.inl h1))]at he;(have R:=hid (show r=1 by rw[HOF2.out _ (offsE_some HZ.out hi (by rw[he];decide)) (by rw[he];decide),he]));clear he ht hn;go_wp2_with fail;go_quiet(fail);go_wp2_with(go_at_call 62;(refine(CT.out _).mono ?_);rintro e w' ⟨rfl,rfl⟩);all_goals(go_ret;rw[R.out];(first|exact⟨rfl,below_drewN bW _⟩|exact⟨rfl,below_drewN (below_drewN bW _) _⟩)));(focus by_cases h2:86400<y;(focus rw[offX_1 hn (.inr (.inr h2))]at he;(have R:=hid (show r=1 by rw[HOF2.out _ (offsE_some HZ.out hi (by rw[he];decide)) (by rw[he];decide),he]));clear he ht hn;go_wp2_with fail;go_quiet(fail);go_wp2_with(go_at_call 62;(refine(CT.out _).mono ?_);rintro e w' ⟨rfl,rfl⟩);all_goals(go_ret;rw[R.out];(first|exact⟨rfl,below_drewN bW _⟩|exact⟨rfl,below_drewN (below_drewN bW _) _⟩)));(focus rw[offX_0 hn ht h1 h2]at he;(have HK:=hid (firstE_up HZ.out he));clear he ht hn;go_wp2_with fail;go_quiet(fail);go_wp2_with(go_at_call 62;(refine(CT.out _).mono ?_);rintro e w' ⟨rfl,rfl⟩);go_roundw;(case rel=>exact⟨k+1,_,HL.out,by go_num,HK,rfl⟩);(case measure=>(simp[RowKit.intOf];omega))))))
     ·have hn:¬(0<k∧x≤prev1 os k):=fun q=>hk0 q.1;have g6:decide ((0:Int)<(k:Int))=false:=decide_eq_false (by omega);have g8:decide (0<k)=false:=decide_eq_false (by omega);clear hp
      (cases ht:tB x;(focus rw[ht]at CT;rw[offX_1 hn (.inl ht)]at he;(have R:=hid (show r=1 by rw[HOF2.out _ (offsE_some HZ.out hi (by rw[he];decide)) (by rw[he];decide),he]));clear he ht hn;go_wp2_with fail;go_quiet(fail);go_wp2_with(go_at_call 62;(refine(CT.out _).mono ?_);rintro e w' ⟨rfl,rfl⟩);all_goals(go_ret;rw[R.out];(first|exact⟨rfl,below_drewN bW _⟩|exact⟨rfl,below_drewN (below_drewN bW _) _⟩)));(focus rw[ht]at CT;by_cases h1:y< -86400;(focus rw[offX_1 hn (.inr (.inl h1))]at he;(have R:=hid (show r=1 by rw[HOF2.out _ (offsE_some HZ.out hi (by rw[he];decide)) (by rw[he];decide),he]));clear he ht hn;go_wp2_with fail;go_quiet(fail);go_wp2_with(go_at_call 62;(refine(CT.out _).mono ?_);rintro e w' ⟨rfl,rfl⟩);all_goals(go_ret;rw[R.out];(first|exact⟨rfl,below_drewN bW _⟩|exact⟨rfl,below_drewN (below_drewN bW _) _⟩)));(focus by_cases h2:86400<y;(focus rw[offX_1 hn (.inr (.inr h2))]at he;(have R:=hid (show r=1 by rw[HOF2.out _ (offsE_some HZ.out hi (by rw[he];decide)) (by rw[he];decide),he]));clear he ht hn;go_wp2_with fail;go_quiet(fail);go_wp2_with(go_at_call 62;(refine(CT.out _).mono ?_);rintro e w' ⟨rfl,rfl⟩);all_goals(go_ret;rw[R.out];(first|exact⟨rfl,below_drewN bW _⟩|exact⟨rfl,below_drewN (below_drewN bW _) _⟩)));(focus rw[offX_0 hn ht h1 h2]at he;(have HK:=hid (firstE_up HZ.out he));clear he ht hn;go_wp2_with fail;go_quiet(fail);go_wp2_with(go_at_call 62;(refine(CT.out _).mono ?_);rintro e w' ⟨rfl,rfl⟩);go_roundw;(case rel=>exact⟨k+1,_,HL.out,by go_num,HK,rfl⟩);(case measure=>(simp[RowKit.intOf];omega))))))
    ·obtain rfl:k=os.length:=by omega
     have HD:=hid (HDN2.out (offsE_none HZ.out));clear HOF2 HDN2 HZ h1 CH;obtain⟨wo,hwo⟩:∃wo,wo=wn.drewN m:=⟨_,rfl⟩;have bW:=below_drewN bW m;have bZ:Blk (wn.drewN m) w.heap.size #[.string nm,.string pt,.int .i64 kd,.int .i64 ln,.slice oA os.length oc,.slice dA ds.length dc] 69:=bZ;rw[←hwo]at bW bZ ⊢;have q0:World.cell? wo ⟨w.heap.size,0,none⟩=some (.string nm):=bZ.cell 0 rfl;have q1:World.cell? wo ⟨w.heap.size,1,none⟩=some (.string pt):=bZ.cell 1 rfl;have q2:World.cell? wo ⟨w.heap.size,2,none⟩=some (.int .i64 kd):=bZ.cell 2 rfl;have q3:World.cell? wo ⟨w.heap.size,3,none⟩=some (.int .i64 ln):=bZ.cell 3 rfl;have q4:World.cell? wo ⟨w.heap.size,4,none⟩=some (.slice oA os.length oc):=bZ.cell 4 rfl;have q5:World.cell? wo ⟨w.heap.size,5,none⟩=some (.slice dA ds.length dc):=bZ.cell 5 rfl;clear hwo;go_wp2_with fail
     go_loopw [6] (fun i wr=>∃k:Nat,k≤ds.length∧i=.int .i64 k∧Hid (∀j,j<k→downE ds j=0)∧Below wo.heap.size wo wr) (fun i _=>ds.length-(RowKit.intOf i).toNat)
     case atStart=>exact⟨0,Nat.zero_le _,rfl,fun j hj=>absurd hj (Nat.not_lt_zero _),Below.refl _ _⟩
     case round=>
      obtain⟨k,hk,rfl,HZ,hbel⟩:=hrel;have bW:=bW.st hbel;have bZ:=bZ.below hbel bZ.lt;have q0:World.cell? wr ⟨w.heap.size,0,none⟩=some (.string nm):=bZ.cell 0 rfl;have q1:World.cell? wr ⟨w.heap.size,1,none⟩=some (.string pt):=bZ.cell 1 rfl;have q2:World.cell? wr ⟨w.heap.size,2,none⟩=some (.int .i64 kd):=bZ.cell 2 rfl;have q3:World.cell? wr ⟨w.heap.size,3,none⟩=some (.int .i64 ln):=bZ.cell 3 rfl;have q4:World.cell? wr ⟨w.heap.size,4,none⟩=some (.slice oA os.length oc):=bZ.cell 4 rfl;have q5:World.cell? wr ⟨w.heap.size,5,none⟩=some (.slice dA ds.length dc):=bZ.cell 5 rfl;have ltZ:=bZ.lt;by_cases hi:k<ds.length
      ·have hr:=h2.out.st bW;have hp:=fun h0:0<k=>hr.ivPrev0 h0 hi;obtain⟨b,off,x,y,rfl,hb,hx,c0,c1⟩:=hr.iv hi;have he:=downE_at hx;have hi1:(0:Int)≤(k:Int):=by omega
       have hi2:(k:Int)<(ds.length:Int):=by omega
       have hbY:Below wo.heap.size wo (wr.alloc (.cells #[.int .i64 x,.int .i64 y] 161)):=hbel.al _;have bWY:Below w.heap.size w (wr.alloc (.cells #[.int .i64 x,.int .i64 y] 161)):=bW.al _;have CS:=hid (rspan_any x y wr);have HL:=hid hi;have q5':=(World.cell?_alloc_lt wr (.cells #[.int .i64 x,.int .i64 y] 161) ⟨w.heap.size,5,none⟩ ltZ).trans q5;have c0':=(World.cell?_alloc_lt wr (.cells #[.int .i64 x,.int .i64 y] 161) ⟨b,off+k*2,none⟩ hb).trans c0;clear hx hr;cases hv:validB x y
       ·rw[hv]at CS;rw[downX_12 hv]at he;have R:=hid (show r=12 by rw[HD.out,downsE_some HZ.out hi (by rw[he];decide),he]);clear he hv hp;go_wp2_with fail
        refine CS.out.mono ?_;rintro e w2 ⟨rfl,rfl⟩;go_wp2;all_goals(go_ret;rw[R.out];exact⟨rfl,bWY⟩)
       ·rw[hv]at CS;by_cases hk0:0<k
        ·obtain⟨f,t,hpx,e0,e1⟩:=hp hk0 b off rfl;have hpv:=prev2_at hpx;simp only at hpv;rw[hpv]at he;have g1:(0:Int)<(k:Int):=by omega
         have g2:(0:Int)≤(k:Int)-1:=by omega
         have g3:(k:Int)-1<(ds.length:Int):=by omega
         have g4:((k:Int)-1).toNat=k-1:=by omega
         have g5:IntKind.i64.wrap ((k:Int)-1)=(k:Int)-1:=IntWalk.i64_in _ (by omega);have g6:decide ((0:Int)<(k:Int))=true:=decide_eq_true g1;have g8:decide (0<k)=true:=decide_eq_true (by omega);have d3:=(World.cell?_alloc_lt wr (.cells #[.int .i64 x,.int .i64 y] 161) ⟨b,off+(k-1)*2+1,none⟩ hb).trans e1;clear hpx hp e0 hpv;by_cases hle:x≤t
         ·rw[downX_15 hv hk0 hle]at he;have R:=hid (show r=15 by rw[HD.out,downsE_some HZ.out hi (by rw[he];decide),he]);clear he hv;go_wp2_with fail
          refine CS.out.mono ?_;rintro e w2 ⟨rfl,rfl⟩;go_wp2_with fail
          go_quiet(fail)
          go_wp2;all_goals(go_ret;rw[R.out];exact⟨rfl,below_drewN bWY _⟩)
         ·rw[downX_0 hv (fun q=>hle q.2)]at he;have HK:=hid (firstE_up HZ.out he);clear he hv;go_wp2_with fail
          refine CS.out.mono ?_;rintro e w2 ⟨rfl,rfl⟩;go_wp2_with fail
          go_quiet(fail)
          go_wp2;go_roundw
          case rel=>exact⟨k+1,HL.out,by go_num,HK,below_drewN hbY _⟩
          case measure=>simp[RowKit.intOf];omega
        ·rw[downX_0 hv (fun q=>hk0 q.1)]at he;have HK:=hid (firstE_up HZ.out he);have g6:decide ((0:Int)<(k:Int))=false:=decide_eq_false (by omega);have g8:decide (0<k)=false:=decide_eq_false (by omega);clear he hv hp;go_wp2_with fail
         refine CS.out.mono ?_;rintro e w2 ⟨rfl,rfl⟩;go_wp2_with fail
         go_quiet(fail)
         go_wp2;go_roundw
         case rel=>exact⟨k+1,HL.out,by go_num,HK,below_drewN hbY _⟩
         case measure=>simp[RowKit.intOf];omega
      ·obtain rfl:k=ds.length:=by omega
       have R:=hid (show r=0 by rw[HD.out,downsE_none HZ.out]);go_wp2;go_ret;rw[R.out];exact⟨rfl,bW⟩
end Go.Proofs.YtimffppffbideaaGreatDoor
