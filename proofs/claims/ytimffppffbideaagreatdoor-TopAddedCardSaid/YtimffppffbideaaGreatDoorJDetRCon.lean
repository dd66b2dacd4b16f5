import Derived.Test.YtimffppffbideaaGreatDoorDetCor
set_option linter.unusedSimpArgs false
set_option linter.unusedVariables false
set_option maxRecDepth 100000
set_option maxHeartbeats 16000000
namespace Go.Proofs.YtimffppffbideaaGreatDoor
section
open Go.RowKit Go.Lib
def ConTo (ds:List Dt)(d:Dt)(k:Nat):Prop:=(ds.take k).any (fun e=>eqS e.dev d.dev&&(e.seq==d.seq&& !(cmpDt e d==0)))=false
end
section
open Go.RowKit Go.Lib
end
section
open Go.RowKit Go.Lib
end
section
open Go.RowKit Go.Lib
end
section
open Go.RowKit Go.Lib
end
section
open Go.RowKit Go.Lib
end
section
open Go.RowKit Go.Lib
def SiftR (l:List Dv)(ds:List Dt)(w:World)(e:Ending)(w':World):Prop:=
 ∃(S:List Sn) (R:List Rj) (As Ar:Option Addr) (cs cr:Nat),SiftOf l ds S R∧S.length≤ds.length∧R.length≤ds.length∧e=.returned (.tuple #[.slice As S.length cs,.slice Ar R.length cr])∧Rd encSn 11 w' w'.heap.size As S∧Rd encRj 8 w' w'.heap.size Ar R∧Below w.heap.size w w'
end
section
open Go.RowKit Go.Lib
theorem compact_own {A:Option Addr}{c:Nat}{l:List Dt}{w:World}{base:Nat}(h:Own 61 encDt 7 w base A c l)(hs:l.Pairwise (fun x y=>cmpDt x y≤0))(hl:l.length≤1000):
  Calls Tryz.prog 22 #[.slice A l.length c] w fun e w'=>∃all c',e=.returned (.slice A all.length c')∧Rd encDt 7 w' w'.heap.size A all∧AscC cmpDt all∧(∀z,z∈all↔z∈l)∧all.length≤l.length∧Below base w w':=by
 rcases h.form with⟨rfl,rfl,rfl⟩|⟨g,rfl,hg1,hg2⟩
 ·clear h hs hl;go_enter Tryz.func22,Tryz.ntmps22;go_wp2_with fail
  go_ret;exact⟨[],0,rfl,Rd.nil,List.Pairwise.nil,fun _=>Iff.rfl,Nat.le_refl _,Below.refl _ _⟩
 ·have hc:=h.cap;have:=compactDt_any c l.toArray (base:=base) h.hold hg2 hg1 (by simp;omega) (by simpa using hc)
  simp only[List.size_toArray]at this;refine this.mono ?_;rintro e w' ⟨rfl,hr,hb⟩;have hsz:l.toArray.size=l.length:=by simp
  have hget:∀j,(hj:j<l.length)→l.toArray[j]! =l[j]:=fun j hj=>arr_get! l j hj;refine⟨_,c,rfl,hr,compact_asc l.toArray (fun i j hij hj=> ?_) _ (by simp),fun z=> ?_,?_,hb⟩
  ·rw[hsz]at hj;rw[hget i (by omega),hget j hj];exact List.pairwise_iff_getElem.1 hs i j (by omega) hj hij
  ·rw[compact_mem _ _ (by simp)];constructor
   ·rintro⟨j,hj,e⟩;rw[hget j hj]at e;exact e▸List.getElem_mem hj
   ·intro hz;obtain⟨j,hj,e⟩:=List.getElem_of_mem hz;exact⟨j,hj,(hget j hj).trans e⟩
  ·have:(compactUpTo l.toArray l.length).length≤l.length:=by
    unfold compactUpTo;rw[List.length_map];exact Nat.le_trans (List.length_filter_le _ _) (by simp)
   exact this
def seenN (l:List Dv)(ds all:List Dt)(k:Nat):List Sn:=((all.take k).filter (fun d=>whyF l ds d==0)).map (corS l)
def rejN (l:List Dv)(ds all:List Dt)(k:Nat):List Rj:=((all.take k).filter (fun d=> !(whyF l ds d==0))).map (fun d=>⟨d,whyF l ds d⟩)
theorem seenN_yes {l:List Dv}{ds all:List Dt}{k:Nat}{d:Dt}(h:all[k]? =some d)(hw:whyF l ds d=0):seenN l ds all (k+1)=seenN l ds all k++[corS l d]∧rejN l ds all (k+1)=rejN l ds all k:=by
 unfold seenN rejN;rw[take_snoc h,List.filter_append,List.filter_append];simp[hw]
theorem seenN_no {l:List Dv}{ds all:List Dt}{k:Nat}{d:Dt}(h:all[k]? =some d)(hw:whyF l ds d≠0):seenN l ds all (k+1)=seenN l ds all k∧rejN l ds all (k+1)=rejN l ds all k++[⟨d,whyF l ds d⟩]:=by
 unfold seenN rejN;rw[take_snoc h,List.filter_append,List.filter_append];simp[hw]
theorem seenN_len (l:List Dv)(ds all:List Dt)(k:Nat):(seenN l ds all k).length≤all.length∧(rejN l ds all k).length≤all.length:=by
 unfold seenN rejN;rw[List.length_map,List.length_map];have h1:=List.length_filter_le (fun d=>whyF l ds d==0) (all.take k);have h2:=List.length_filter_le (fun d=> !(whyF l ds d==0)) (all.take k);rw[List.length_take]at h1 h2;omega
theorem whyF_zero {l:List Dv}{ds:List Dt}{d:Dt}(h:whyF l ds d=0):(corS l d).d=d:=by
 unfold whyF at h;split at h
 ·cases h
 ·unfold corS;rw[if_pos h];rfl
theorem sift_final {l:List Dv}{ds all:List Dt}(hm:∀d,d∈all↔d∈ds)(ha:AscC cmpDt all){S:List Sn}(hp:S.Perm (seenN l ds all all.length))(hs:S.Pairwise (fun x y=>cmpSn x y≤0)):SiftOf l ds S (rejN l ds all all.length):=by
 have hnd:all.Pairwise (fun a b=>a≠b):=ha.imp fun{a b} h e=>by subst e;have:=cmpDt_zero.2 (rfl:a=a);omega
 refine⟨?_,?_,fun s=> ?_,fun r=> ?_⟩
 ·have h1:(seenN l ds all all.length).Pairwise (fun a b=>a≠b):=by
   unfold seenN;rw[List.take_length,List.pairwise_map];rw[List.pairwise_filter];refine hnd.imp fun{a b} hab ha hb e=>hab ?_;have:=congrArg Sn.d e
   rwa [whyF_zero (by simpa using ha),whyF_zero (by simpa using hb)]at this
  have h2:S.Pairwise (fun a b=>a≠b):=(hp.pairwise_iff (fun{a b} h=>Ne.symm h)).2 h1;refine(hs.and h2).imp fun{a b} h=> ?_;have:cmpSn a b≠0:=fun e=>h.2 (cmpSn_zero.1 e)
  omega
 ·unfold rejN;rw[List.take_length];refine List.pairwise_map.2 ((ha.filter _).imp fun{a b} h=> ?_);show cmpRj _ _<0
  unfold cmpRj firstI;rw[if_pos (by simp only;omega)];exact h
 ·rw[hp.mem_iff];unfold seenN;rw[List.take_length,List.mem_map];constructor
  ·rintro⟨d,hd,rfl⟩;rw[List.mem_filter]at hd;exact⟨d,(hm d).1 hd.1,by simpa using hd.2,rfl⟩
  ·rintro⟨d,hd,h1,rfl⟩;exact⟨d,List.mem_filter.2 ⟨(hm d).2 hd,by simpa using h1⟩,rfl⟩
 ·unfold rejN;rw[List.take_length,List.mem_map];constructor
  ·rintro⟨d,hd,rfl⟩;rw[List.mem_filter]at hd;exact⟨d,(hm d).1 hd.1,by simpa using hd.2,rfl⟩
  ·rintro⟨d,hd,h1,rfl⟩;exact⟨d,List.mem_filter.2 ⟨(hm d).2 hd,by simpa using h1⟩,rfl⟩
theorem sift_any {A B:Option Addr}(c cb:Nat){l:List Dv}{ds:List Dt}{w:World}(h:Rd encD 6 w w.heap.size A l)(hz:DsOk w l)(hsm:∀y∈l,y.os.length≤100∧y.ds.length≤100)(hl:l.length≤1000)
  (hd:Rd encDt 7 w w.heap.size B ds) (hdl:ds.length≤1000) (hsz:∀x∈ds,SzD x) (hok:∀x∈ds,SrcOk (srcOf x)):
  Calls Tryz.prog 8 #[.slice A l.length c,.slice B ds.length cb] w fun e w'=>SiftR l ds w e w':=by
 have CR:=hid (fun(d:Dt) (q:SzD d) (X:World) (hX:Below w.heap.size w X)=>correct_any c d (h.st hX) (hz.st hX) hsm hl q);have CCL:=hid (cloneDt_any cb hd (by omega));have HSZ:=hid hsz;have HOK:=hid hok;have HDL:=hid hdl;clear h hz hsm hl hd hsz hok hdl;simp only[CorR]at CR;go_enter Tryz.func8,Tryz.ntmps8;go_wp2_with fail
 refine CCL.out.mono ?_;rintro e w1 ⟨A1,c1,rfl,ho1,bW⟩;clear CCL;have CS:=hid (sortDt_any c1 ho1 bW.size (by have:=HDL.out;omega));clear ho1;go_wp2_with fail
 refine CS.out.mono ?_;rintro e w2 ⟨rfl,s2,hp2,hs2,ho2,hb2⟩;have bW:=bW.trans hb2;have HP:=hid (fun z=>hp2.mem_iff (a:=z));have hlen:=hp2.length_eq;have CM:=hid (compact_own ho2 hs2 (by have:=HDL.out;omega));rw[hlen]at CM;have HLEN:=hid hlen;clear CS hp2 hs2 ho2 hb2 hlen;go_wp2_with fail
 refine CM.out.mono ?_;rintro e w3 ⟨all,c3,rfl,rd,ha,hm,hal,hb3⟩;have bW:=bW.trans hb3;have HM:=hid (fun z=>(hm z).trans (HP.out z));have HA:=hid ha;have HAL:=hid (show all.length≤ds.length from hal);clear CM hm ha hal HP HLEN hb3;obtain⟨Y,hY⟩:∃Y,w3.alloc (.map #[] 0)=Y:=⟨_,rfl⟩;have bel:Below w3.heap.size w3 Y:=by rw[←hY];exact(Below.refl _ w3).al _
 have hM:CntMap Y w3.heap.size (cntS (all.take 0)):=by
  rw[←hY];have:=CntMap.made w3
  have e:cntS (all.take 0)=fun _=>(0:Int):=by funext s;simp[cntS]
  rw[e];exact this
 have HRD:=hid rd;have hls:all.length≤1000:=by have:=HAL.out;have:=HDL.out;omega
 have HBW:=hid bW;clear rd bW;have hmm:= @run_makeMap Tryz.prog;obtain⟨mb,hmb⟩:∃mb,w3.heap.size=mb:=⟨_,rfl⟩;rw[hmb]at hM bel HRD;have HMB:=hid hmb;go_wp2_with fail
 clear hY hmm hmb;go_loopw [25] (fun i wr=>∃k:Nat,k≤all.length∧i=.int .i64 k∧CntMap wr mb (cntS (all.take k))∧Below mb w3 wr) (fun i _=>all.length-(RowKit.intOf i).toNat)
 case atStart=>exact⟨0,Nat.zero_le _,rfl,hM,bel⟩
 case round=>
  clear hM bel;obtain⟨k,hk,rfl,hM,bel⟩:=hrel;by_cases hi:k<all.length
  ·obtain⟨b,off,d,hA,hb,hx,d0,d1,d2,d3,d4,d5,d6⟩:=HRD.out.dt hi;have hsd:=HOK.out d ((HM.out d).1 (List.mem_of_getElem? hx));have HS:=hid hsd;have HX:=hid hx;have hcle:=cntS_le all k (srcOf d);have HC:=hid (And.intro hb (And.intro d0 (And.intro d1 (And.intro d2 (And.intro d3 (And.intro d4 (And.intro d5 d6)))))));have hi1:(0:Int)≤(k:Int):=by omega
   have hi2:(k:Int)<(all.length:Int):=by omega
   have HL:=hid hi;obtain⟨y1,y2,y3,y4,y5,y6,y7⟩:=d;simp only at HC;clear hx hi hb hk d0 d1 d2 d3 d4 d5 d6;subst hA;have e0:=(bel.cell (p:=⟨b,off+k*7,none⟩) HC.out.1).trans HC.out.2.1;have e1:=(bel.cell (p:=⟨b,off+k*7+1,none⟩) HC.out.1).trans HC.out.2.2.1;have e2:=(bel.cell (p:=⟨b,off+k*7+2,none⟩) HC.out.1).trans HC.out.2.2.2.1;have e3:=(bel.cell (p:=⟨b,off+k*7+3,none⟩) HC.out.1).trans HC.out.2.2.2.2.1;have e4:=(bel.cell (p:=⟨b,off+k*7+4,none⟩) HC.out.1).trans HC.out.2.2.2.2.2.1;have e5:=(bel.cell (p:=⟨b,off+k*7+5,none⟩) HC.out.1).trans HC.out.2.2.2.2.2.2.1;have e6:=(bel.cell (p:=⟨b,off+k*7+6,none⟩) HC.out.1).trans HC.out.2.2.2.2.2.2.2;obtain⟨gx,hgx⟩:∃gx,wr.heap.size=gx:=⟨_,rfl⟩;obtain⟨Z,hZ⟩:∃Z,wr.alloc (.cells #[.string ⟨#[]⟩,.int .i64 0,.int .i64 0,.string ⟨#[]⟩,.string ⟨#[]⟩,.int .i64 0,.int .i64 0] 61)=Z:=⟨_,rfl⟩;have bZ:Below wr.heap.size wr Z:=by rw[←hZ];exact(Below.refl _ wr).al _
   have BZ:Blk Z gx #[.string ⟨#[]⟩,.int .i64 0,.int .i64 0,.string ⟨#[]⟩,.string ⟨#[]⟩,.int .i64 0,.int .i64 0] 61:=by rw[←hZ,←hgx];exact Blk.new wr _ _
   have hMl:=hM.lt;rw[hgx]at hMl;have hYl:mb≤gx:=by omega
   have bel:=bel.trans (bZ.mono (by omega));have hM:=hM.st bZ;go_upto_region 8 with(first|(refine wpList_boxStore rfl (ty:=61) (x:=.tmp 9) (y:=.tmp 28) rfl BZ rfl rfl (by kernel_rfl) rfl (by kernel_rfl) ?_;intro wz BX hoz hbz;have bel:=hbz _ _ hYl bel;have hM:=hM.keepB (hoz mb (by omega));have hsz:=BX.lt;clear hoz hbz BZ bZ hZ hgx e0 e1 e2 e3 e4 e5 e6))
   simp only[srcOf]at HS hcle;have hlk0:=CntMap.look (w:=wz.drew) hM HS.out;obtain⟨j,w1,hme,hCA,hg1⟩:=CntMap.entry (w:=wz.drew) hM HS.out;have hlk1:=hCA.map.look HS.out;obtain⟨w2,hes,hM2,hg2⟩:=hCA.store (cntS (all.take k) (y1,y2)+1) (g':=cntS (all.take (k+1))) (cntS_same HX.out) (fun s' hs'=>cntS_other HX.out s' hs');simp only[srcV]at hlk0 hme hlk1;have s0:=BX.cell 0 (v:=.string y1) rfl;have s1:=BX.cell 1 (v:=.int .i64 y2) rfl;have HM1:=hid hCA;have HM2:=hid hM2;have HM0:=hid hM;have hgm:gx≠mb:=by omega
   have t0:World.cell? w1 ⟨gx,0,none⟩=some (.string y1):=by
    have:=hg1.block gx hsz (fun e=>hgm (Option.some.inj e))
    exact(World.cell?_of_block (w:=wz.drew) this).trans s0
   have t1:World.cell? w1 ⟨gx,1,none⟩=some (.int .i64 y2):=by
    have:=hg1.block gx hsz (fun e=>hgm (Option.some.inj e))
    exact(World.cell?_of_block (w:=wz.drew) this).trans s1
   have hsz1:gx<w1.heap.size:=Nat.lt_of_lt_of_le hsz hg1.size;have v0:World.cell? w2 ⟨gx,0,none⟩=some (.string y1):=by
    have:=hg2.block gx hsz1 (fun e=>hgm (Option.some.inj e))
    exact(World.cell?_of_block (w:=w1) this).trans t0
   have v1:World.cell? w2 ⟨gx,1,none⟩=some (.int .i64 y2):=by
    have:=hg2.block gx hsz1 (fun e=>hgm (Option.some.inj e))
    exact(World.cell?_of_block (w:=w1) this).trans t1
   have b1:Below mb w3 w1:=below_store bel.drew hg1 (by have:gx<wz.drew.heap.size:=hsz;omega) (Nat.le_refl _);have b2:Below mb w3 w2:=below_store b1 hg2 (by omega) (Nat.le_refl _);have HB2:=hid b2;have hadd:IntKind.i64.wrap (cntS (all.take k) (y1,y2)+1)=cntS (all.take k) (y1,y2)+1:=IntWalk.i64_in _ (by omega);clear hCA hM hM2 hg1 hg2 b1 b2 bel BX HX HS hsz hsz1 hMl hYl hgm;generalize cntS (all.take k) (y1,y2)=v at*;refine wp_region_held_drew (S:=(fun w':World=>w'.cell? ⟨gx,0,none⟩=some (.string y1)∧w'.cell? ⟨gx,1,none⟩=some (.int .i64 y2))) (by kernel_rfl) ?_ (fun hHeld=> ?_);focus exact⟨s0,s1⟩
   change wpAnyH _ _ _ _ _ 11 _ _ _;refine tk 0 (h:= ?_);refine tk 1 (h:= ?_);refine tk 2 (h:= ?_);refine tk 3 (h:= ?_);refine tk 4 (h:= ?_);refine tk 5 (h:= ?_);refine rd2 6 8 (h:=fun K hK=> ?_) (h2:=fun K hK=> ?_)
   ·rw[if_pos (by rfl)];go_wp2_with fail;refine hK.out _ _ ?_ (fun hHeld=> ?_);(focus exact⟨s0,s1⟩);clear hK K;refine td (h:= ?_)
    refine tk 7 (h:= ?_);refine rd1 8 (h:=fun K hK=> ?_);rw[if_pos (by rfl)];go_wp2_with fail;refine hK.out _ _ ?_ (fun hHeld=> ?_);(focus exact⟨t0,t1⟩);clear hK K;refine td (h:= ?_)
    refine tk 9 (h:= ?_);refine rd1 10 (h:=fun K hK=> ?_);rw[if_pos (by rfl)];go_wp2_with fail;refine hK.out _ _ ?_ (fun hHeld=> ?_);(focus exact⟨v0,v1⟩);clear hK K;refine td (h:= ?_)
    refine wpAnyH_done (by kernel_rfl) ?_ _;clear hlk0 hme hlk1 hes s0 s1 t0 t1 v0 v1 hHeld;go_wp2_with fail
    go_roundw
    case rel=>exact⟨k+1,HL.out,by go_num,HM2.out,HB2.out⟩
    case measure=>have:=HL.out;simp[RowKit.intOf];omega
   ·rw[if_pos (by rfl)];go_wp2_with fail;refine hK.out _ _ ?_ (fun hHeld=> ?_);(focus exact⟨t0,t1⟩);clear hK K;refine td (h:= ?_)
    refine tk 9 (h:= ?_);refine rd1 6 (h:=fun K hK=> ?_);rw[if_pos (by rfl)];go_wp2_with fail;refine hK.out _ _ ?_ (fun hHeld=> ?_);(focus exact⟨t0,t1⟩);clear hK K;refine td (h:= ?_)
    refine tk 7 (h:= ?_);refine rd1 10 (h:=fun K hK=> ?_);rw[if_pos (by rfl)];go_wp2_with fail;refine hK.out _ _ ?_ (fun hHeld=> ?_);(focus exact⟨v0,v1⟩);clear hK K;refine td (h:= ?_)
    refine wpAnyH_done (by kernel_rfl) ?_ _;clear hlk0 hme hlk1 hes s0 s1 t0 t1 v0 v1 hHeld;go_wp2_with fail
    go_roundw
    case rel=>exact⟨k+1,HL.out,by go_num,HM2.out,HB2.out⟩
    case measure=>have:=HL.out;simp[RowKit.intOf];omega
  ·obtain rfl:k=all.length:=by omega
   rw[List.take_length]at hM;have HLN:=hid (fun k=>seenN_len l ds all k);have HCF:=hid (fun(d:Dt) (q:d∈all)=>cntS_conf HM.out HA.out q);have HBL:=hid bel;have hml:=hM.lt;obtain⟨wo,hwo⟩:∃wo,wo=wr:=⟨_,rfl⟩;rw[←hwo]at hM hml bel HBL ⊢;clear hwo;have hi9:¬(all.length:Int)<(all.length:Int):=by omega
   go_wp2_with fail
   clear hi9 hi hk;go_loopw [10,11,42] (fun v10 v11 i wx=>∃(k:Nat) (As Ar:Option Addr) (cs cr:Nat),k≤all.length∧i=.int .i64 k∧v10=.slice As (seenN l ds all k).length cs∧v11=.slice Ar (rejN l ds all k).length cr∧Own 84 encSn 11 wx wo.heap.size As cs (seenN l ds all k)∧Own 88 encRj 8 wx wo.heap.size Ar cr (rejN l ds all k)∧Below wo.heap.size wo wx) (fun _ _ i _=>all.length-(RowKit.intOf i).toNat)
   case atStart=>exact⟨0,none,none,0,0,Nat.zero_le _,rfl,rfl,rfl,Own.nil _ _,Own.nil _ _,Below.refl _ _⟩
   case round=>
    have HM0:=hid hM;have HML:=hid hml;clear hM hml bel;obtain⟨k,As,Ar,cs,cr,hk,rfl,rfl,rfl,hoS,hoR,belB⟩:=hrel;have hlen:=HLN.out k;by_cases hi:k<all.length
    ·obtain⟨b,off,d,hA,hb,hx,d0,d1,d2,d3,d4,d5,d6⟩:=HRD.out.dt hi;have hdm:=List.mem_of_getElem? hx;have hds:=(HM.out d).1 hdm;have HCR:=hid (CR.out d (HSZ.out d hds));have HS:=hid (HOK.out d hds);have HC1:=hid (HCF.out d hdm);have HYE:=hid (fun q=>seenN_yes (l:=l) (ds:=ds) hx q);have HNO:=hid (fun q=>seenN_no (l:=l) (ds:=ds) hx q);have HW:Hid (whyF l ds d=if conB ds d=true then 4 else corW l d):=hid rfl;have bel:=HBL.out.trans (belB.mono (Nat.le_of_lt HML.out));have HC:=hid (And.intro hb (And.intro d0 (And.intro d1 (And.intro d2 (And.intro d3 (And.intro d4 (And.intro d5 d6)))))));have hi1:(0:Int)≤(k:Int):=by omega
     have hi2:(k:Int)<(all.length:Int):=by omega
     have HL:=hid hi;rw[←HC1.out]at HW;generalize hq1:corS l d=s at*;generalize hq2:corW l d=cw at*;generalize hq3:whyF l ds d=wy at*;clear hq1 hq2 hq3 HC1;obtain⟨y1,y2,y3,y4,y5,y6,y7⟩:=d;simp only[DtV,SnV,srcOf]at HCR HC HW HS;clear hx hi hb hk hdm hds d0 d1 d2 d3 d4 d5 d6;subst hA;have e0:=(bel.cell (p:=⟨b,off+k*7,none⟩) HC.out.1).trans HC.out.2.1;have e1:=(bel.cell (p:=⟨b,off+k*7+1,none⟩) HC.out.1).trans HC.out.2.2.1;have e2:=(bel.cell (p:=⟨b,off+k*7+2,none⟩) HC.out.1).trans HC.out.2.2.2.1;have e3:=(bel.cell (p:=⟨b,off+k*7+3,none⟩) HC.out.1).trans HC.out.2.2.2.2.1;have e4:=(bel.cell (p:=⟨b,off+k*7+4,none⟩) HC.out.1).trans HC.out.2.2.2.2.2.1;have e5:=(bel.cell (p:=⟨b,off+k*7+5,none⟩) HC.out.1).trans HC.out.2.2.2.2.2.2.1;have e6:=(bel.cell (p:=⟨b,off+k*7+6,none⟩) HC.out.1).trans HC.out.2.2.2.2.2.2.2;have hM:=HM0.out.st belB;obtain⟨Z,hZ⟩:∃Z,wr.alloc (.cells #[.string ⟨#[]⟩,.int .i64 0,.int .i64 0,.string ⟨#[]⟩,.string ⟨#[]⟩,.int .i64 0,.int .i64 0] 61)=Z:=⟨_,rfl⟩;have bZ:Below wr.heap.size wr Z:=by rw[←hZ];exact(Below.refl _ wr).al _
     have BZ:Blk Z wr.heap.size #[.string ⟨#[]⟩,.int .i64 0,.int .i64 0,.string ⟨#[]⟩,.string ⟨#[]⟩,.int .i64 0,.int .i64 0] 61:=by rw[←hZ];exact Blk.new wr _ _
     have hw1:=HBW.out.size;have hw2:=bel.size;have hwB:=HBW.out.st (bel.mono (Nat.le_of_eq HMB.out));have HB0:=hid (And.intro hoS (And.intro hoR (And.intro belB (And.intro bel (And.intro hM hwB)))));clear hoS hoR belB hM bel hw1 hw2 hwB;go_wp2_with(first|(refine wpList_boxStore rfl (ty:=61) (x:=.tmp 13) (y:=.tmp 45) rfl BZ rfl rfl (by kernel_rfl) rfl (by kernel_rfl) ?_;intro wz BX hoz hbz;have b4:=hbz _ _ (Nat.le_refl _) bZ;clear hoz hbz BZ bZ hZ e0 e1 e2 e3 e4 e5 e6)|(refine wpList_boxLoad rfl (ty:=61) (x:=.tmp 13) (cs:=#[.string y1,.int .i64 y2,.int .i64 y3,.string y4,.string y5,.int .i64 y6,.int .i64 y7]) rfl BX rfl ⟨_,Tryz.underlying61,by kernel_rfl⟩ ?_))
     refine(HCR.out _ (HB0.out.2.2.2.2.2.st b4)).mono ?_;rintro e w4 ⟨rfl,hbn⟩;have b4:=b4.st hbn;have BX:=BX.below hbn BX.lt;obtain⟨Z2,hZ2⟩:∃Z,w4.alloc (.cells #[.string ⟨#[]⟩,.int .i64 0,.int .i64 0,.string ⟨#[]⟩,.string ⟨#[]⟩,.int .i64 0,.int .i64 0,.int .i64 0,.string ⟨#[]⟩,.int .i64 0,.int .i64 0] 84)=Z:=⟨_,rfl⟩;have bZ2:Below w4.heap.size w4 Z2:=by rw[←hZ2];exact(Below.refl _ w4).al _
     have BZ2:Blk Z2 w4.heap.size #[.string ⟨#[]⟩,.int .i64 0,.int .i64 0,.string ⟨#[]⟩,.string ⟨#[]⟩,.int .i64 0,.int .i64 0,.int .i64 0,.string ⟨#[]⟩,.int .i64 0,.int .i64 0] 84:=by rw[←hZ2];exact Blk.new w4 _ _
     clear hbn HCR;obtain⟨nn,hnn⟩:∃nn,cntS all (y1,y2)=nn:=⟨_,rfl⟩;have HWn:=hid (show wy=if decide (1<nn)=true then 4 else cw by rw[←hnn];exact HW.out);clear HW;by_cases h1:1<nn
     ·have HWv:wy=4:=by rw[HWn.out,if_pos (decide_eq_true h1)]
      have HN2:=HNO.out (by rw[HWv];decide);have HST:=hid (And.intro HN2.1 (show rejN l ds all (k+1)=rejN l ds all k++[⟨⟨y1,y2,y3,y4,y5,y6,y7⟩,4⟩]from by rw[HN2.2,HWv]));clear HN2 HYE HNO HWn;go_wp2_with(first|(refine wpList_boxStore rfl (ty:=84) (x:=.tmp 14) (y:=.tmp 50) rfl BZ2 rfl rfl (by kernel_rfl) rfl (by kernel_rfl) ?_;intro wv BY hoz hbz;have b5:=hbz _ _ (Nat.le_refl _) bZ2;have b6:=b4.st b5;have BX:=BX.below b5 BX.lt;have u0:=BX.cell 0 (v:=.string y1) rfl;have u1:=BX.cell 1 (v:=.int .i64 y2) rfl;have hlk:=(HB0.out.2.2.2.2.1.st b6).look HS.out;simp only[srcV]at hlk;rw[hnn]at hlk;have hoS:=HB0.out.1.st b6;have hoR:=HB0.out.2.1.st b6;have belB:=HB0.out.2.2.1.st b6;clear hoz hbz bZ2 BZ2 b5 b6)|(refine wpList_boxLoad rfl (ty:=61) (x:=.tmp 13) (cs:=#[.string y1,.int .i64 y2,.int .i64 y3,.string y4,.string y5,.int .i64 y6,.int .i64 y7]) rfl BX rfl ⟨_,Tryz.underlying61,by kernel_rfl⟩ ?_)|(((at_builtin;refine wpList_app1b rfl (.tmp 62) (.tmp 66) tyRj encRj_ok rfl (⟨⟨y1,y2,y3,y4,y5,y6,y7⟩,4⟩:Rj) rfl _ rfl (by simp) hoR rfl (by first|rfl|simp) (by first|omega|(simp;omega)) (by first|omega|(simp;omega)) (by first|exact belB.size|(have:=belB.size;omega)) ?_;intro A9 c9 w9 hown9 hb9 hs9 hf9;have hbel9:=belB.trans hb9));have hoS9:=hoS.keepB (w':=w9) (fun gq hgq hlq=>hf9 gq hlq fun gg hgg=>hoS.apart hoR (by decide) hgq hgg)))
      go_roundw
      case rel=>exact⟨k+1,As,A9,cs,c9,HL.out,by go_num,by rw[HST.out.1],by rw[HST.out.2];simp,by rw[HST.out.1];exact hoS9,by rw[HST.out.2];exact hown9,hbel9⟩
      case measure=>have:=HL.out;simp[RowKit.intOf];omega
     ·have HWc:wy=cw:=by rw[HWn.out,if_neg (by rw[decide_eq_false h1];simp)]
      by_cases h0:cw=0
      ·have HN2:=HYE.out (by rw[HWc];exact h0);have HST:=hid HN2;have t0:(cw !=0)=false:=by simp[h0]
       clear HN2 HYE HNO HWn HWc h0;go_wp2_with(first|(refine wpList_boxStore rfl (ty:=84) (x:=.tmp 14) (y:=.tmp 50) rfl BZ2 rfl rfl (by kernel_rfl) rfl (by kernel_rfl) ?_;intro wv BY hoz hbz;have b5:=hbz _ _ (Nat.le_refl _) bZ2;have b6:=b4.st b5;have BX:=BX.below b5 BX.lt;have u0:=BX.cell 0 (v:=.string y1) rfl;have u1:=BX.cell 1 (v:=.int .i64 y2) rfl;have hlk:=(HB0.out.2.2.2.2.1.st b6).look HS.out;simp only[srcV]at hlk;rw[hnn]at hlk;have hoS:=HB0.out.1.st b6;have hoR:=HB0.out.2.1.st b6;have belB:=HB0.out.2.2.1.st b6;clear hoz hbz bZ2 BZ2 b5 b6)|(refine wpList_boxLoad rfl (ty:=61) (x:=.tmp 13) (cs:=#[.string y1,.int .i64 y2,.int .i64 y3,.string y4,.string y5,.int .i64 y6,.int .i64 y7]) rfl BX rfl ⟨_,Tryz.underlying61,by kernel_rfl⟩ ?_)|(refine wpList_boxLoad rfl (ty:=84) (x:=.tmp 14) (cs:=#[.string s.d.dev,.int .i64 s.d.seq,.int .i64 s.d.time,.string s.d.tag,.string s.d.pl,.int .i64 s.d.ax,.int .i64 s.d.sc,.int .i64 s.t,.string s.pt,.int .i64 s.lane,.int .i64 s.kind]) rfl BY rfl ⟨_,Tryz.underlying84,by kernel_rfl⟩ ?_)|(((at_builtin;refine wpList_app1b rfl (.tmp 68) (.tmp 70) tySn encSn_ok rfl s rfl _ rfl (by simp) hoS rfl (by first|rfl|simp) (by first|omega|(simp;omega)) (by first|omega|(simp;omega)) (by first|exact belB.size|(have:=belB.size;omega)) ?_;intro A9 c9 w9 hown9 hb9 hs9 hf9;have hbel9:=belB.trans hb9));have hoR9:=hoR.keepB (w':=w9) (fun gq hgq hlq=>hf9 gq hlq fun gg hgg=>hoR.apart hoS (by decide) hgq hgg)))
       go_roundw
       case rel=>exact⟨k+1,A9,Ar,c9,cr,HL.out,by go_num,by rw[HST.out.1];simp,by rw[HST.out.2],by rw[HST.out.1];exact hown9,by rw[HST.out.2];exact hoR9,hbel9⟩
       case measure=>have:=HL.out;simp[RowKit.intOf];omega
      ·have HWv:wy=cw:=HWc;have HN2:=HNO.out (by rw[HWv];exact h0);have HST:=hid (And.intro HN2.1 (show rejN l ds all (k+1)=rejN l ds all k++[⟨⟨y1,y2,y3,y4,y5,y6,y7⟩,cw⟩]from by rw[HN2.2,HWv]));have t0:(cw !=0)=true:=by simp[h0]
       clear HN2 HYE HNO HWn HWc HWv h0;go_wp2_with(first|(refine wpList_boxStore rfl (ty:=84) (x:=.tmp 14) (y:=.tmp 50) rfl BZ2 rfl rfl (by kernel_rfl) rfl (by kernel_rfl) ?_;intro wv BY hoz hbz;have b5:=hbz _ _ (Nat.le_refl _) bZ2;have b6:=b4.st b5;have BX:=BX.below b5 BX.lt;have u0:=BX.cell 0 (v:=.string y1) rfl;have u1:=BX.cell 1 (v:=.int .i64 y2) rfl;have hlk:=(HB0.out.2.2.2.2.1.st b6).look HS.out;simp only[srcV]at hlk;rw[hnn]at hlk;have hoS:=HB0.out.1.st b6;have hoR:=HB0.out.2.1.st b6;have belB:=HB0.out.2.2.1.st b6;clear hoz hbz bZ2 BZ2 b5 b6)|(refine wpList_boxLoad rfl (ty:=61) (x:=.tmp 13) (cs:=#[.string y1,.int .i64 y2,.int .i64 y3,.string y4,.string y5,.int .i64 y6,.int .i64 y7]) rfl BX rfl ⟨_,Tryz.underlying61,by kernel_rfl⟩ ?_)|(((at_builtin;refine wpList_app1b rfl (.tmp 62) (.tmp 66) tyRj encRj_ok rfl (⟨⟨y1,y2,y3,y4,y5,y6,y7⟩,cw⟩:Rj) rfl _ rfl (by simp) hoR rfl (by first|rfl|simp) (by first|omega|(simp;omega)) (by first|omega|(simp;omega)) (by first|exact belB.size|(have:=belB.size;omega)) ?_;intro A9 c9 w9 hown9 hb9 hs9 hf9;have hbel9:=belB.trans hb9));have hoS9:=hoS.keepB (w':=w9) (fun gq hgq hlq=>hf9 gq hlq fun gg hgg=>hoS.apart hoR (by decide) hgq hgg)))
       go_roundw
       case rel=>exact⟨k+1,As,A9,cs,c9,HL.out,by go_num,by rw[HST.out.1],by rw[HST.out.2];simp,by rw[HST.out.1];exact hoS9,by rw[HST.out.2];exact hown9,hbel9⟩
       case measure=>have:=HL.out;simp[RowKit.intOf];omega
    ·obtain rfl:k=all.length:=by omega
     have hi9:¬(all.length:Int)<(all.length:Int):=by omega
     have HF:=hid (fun(S:List Sn) (hp:S.Perm (seenN l ds all all.length)) (hs:S.Pairwise (fun x y=>cmpSn x y≤0))=>sift_final (l:=l) HM.out HA.out hp hs);have HCS:=hid (sortSn_any cs hoS belB.size (by have:=HAL.out;have:=HDL.out;omega));have HRO:=hid (And.intro hoS hoR);have bel:=HBL.out.trans (belB.mono (Nat.le_of_lt HML.out));have hwB:=HBW.out.st (bel.mono (Nat.le_of_eq HMB.out));have HAL2:=hid (show(rejN l ds all all.length).length≤ds.length∧(seenN l ds all all.length).length≤ds.length by have:=HAL.out;omega);clear hoS hoR belB bel HBL;go_wp2_with fail
     refine HCS.out.mono ?_;rintro e w5 ⟨rfl,S,hp,hs,ho,hb5,hot⟩;have hoR:=HRO.out.2.keepB (w':=w5) (fun gq hgq hlq=>hot gq hlq fun gg hgg=>HRO.out.2.apart HRO.out.1 (by decide) hgq hgg);have hSL:=hp.length_eq;have HFN:=hid (HF.out S hp hs);have bW5:Below w.heap.size w w5:=hwB.trans (hb5.mono (by have h1:=HBW.out.size;have h2:=HMB.out;have h3:=HML.out;omega));clear hot HF HCS hp hs hb5;go_wp2_with fail
     go_ret2;exact⟨S,rejN l ds all all.length,As,Ar,cs,cr,HFN.out,by have:=HAL2.out;omega,HAL2.out.1,by rw[hSL];rfl,ho.rd encSn_ok,hoR.rd encRj_ok,bW5⟩
end
end Go.Proofs.YtimffppffbideaaGreatDoor
