import Derived.Test.YtimffppffbideaaGreatDoorJSnProb
import Derived.Test.YtimffppffbideaaGreatDoorJSnSortS
import Derived.Lib.SmallJoins
set_option linter.unusedSimpArgs false
set_option linter.unusedVariables false
set_option maxRecDepth 100000
set_option maxHeartbeats 8000000
namespace Go.Proofs.YtimffppffbideaaGreatDoor
section
open Go.RowKit Go.Lib Go.Sort
open Mat
theorem sbne:9≠3:=by decide
theorem fvote_any {A:Option Addr}(c:Nat){l:List Sn}(hl:l.length≤100)(hp:∀x∈l,x.d.pl.size≤32){w:World}(hR:Rd encSn 11 w w.heap.size A l):
  Calls Tryz.prog 131 #[.slice A l.length c] w fun e w'=>e=.returned (.string (voteV l))∧Below w.heap.size w w':=by
 have HR:=hid hR;have HPL:=hid hp;obtain⟨n,hn⟩:∃n,l.length=n:=⟨_,rfl⟩;have HN:=hid hn;rw[hn]at hl ⊢;obtain⟨r,hr⟩:∃r,voteV l=r:=⟨_,rfl⟩;have HRR:=hid hr;rw[hr];clear hR hp hn hr;go_enter Tryz.func131,Tryz.ntmps131;go_wp2_with fail
 go_loopw [3,4,11] (fun s3 s4 sj wx=>∃(j:Nat) (A1:Option Addr) (c1:Nat) (rs:List ByteArray) (A2:Option Addr) (c2:Nat) (zs:List Int),j≤n∧sj=.int .i64 j∧s3=.slice A1 rs.length c1∧s4=.slice A2 zs.length c2∧Hid (rs=(l.take j).map fun s=>s.d.pl)∧Hid (zs=(l.take j).map fun s=>s.d.sc)∧Hid (Own 9 encSb 1 wx w.heap.size A1 c1 rs)∧Hid (Own 3 encI 1 wx w.heap.size A2 c2 zs)∧Hid (Below w.heap.size w wx)) (fun _ _ sj _=>n-(RowKit.intOf sj).toNat)
 case atStart=>exact⟨0,none,0,[],none,0,[],Nat.zero_le _,rfl,rfl,rfl,rfl,rfl,Own.nil _ _,Own.nil _ _,Below.refl _ _⟩
 case round=>
  obtain⟨j,A1,c1,rs,A2,c2,zs,hj,rfl,rfl,rfl,HV,HZ,HO,HO2,HB⟩:=hrel;have j0:(0:Int)≤(j:Int):=by omega
  by_cases hi:j<n
  ·obtain⟨b,off,x,rfl,hbl,hx,hc⟩:=(HR.out.st HB.out).at_ (i:=j) (by rw[HN.out];exact hi);have HI:=hid hi;have HST:Hid ((l.take (j+1)).map (fun s=>s.d.pl)=(l.take j).map (fun s=>s.d.pl)++[x.d.pl]):=hid (by rw[take_succ' hx,List.map_append];rfl);have HSZ:Hid ((l.take (j+1)).map (fun s=>s.d.sc)=(l.take j).map (fun s=>s.d.sc)++[x.d.sc]):=hid (by rw[take_succ' hx,List.map_append];rfl);have hrl:rs.length≤1000:=by rw[HV.out,List.length_map,List.length_take];omega
   have hzl:zs.length≤1000:=by rw[HZ.out,List.length_map,List.length_take];omega
   have j1:(j:Int)<(n:Int):=by omega
   have j2:decide (j<n)=true:=decide_eq_true hi;obtain⟨⟨s1,s2,s3,s4,s5,s6,s7⟩,s8,s9,s10,s11⟩:=x;have e0:wr.cell? ⟨b,off+j*11,none⟩=some (.string s1):=by simpa using hc 0 _ rfl
   have e1:wr.cell? ⟨b,off+j*11+1,none⟩=some (.int .i64 s2):=hc 1 _ rfl;have e2:wr.cell? ⟨b,off+j*11+2,none⟩=some (.int .i64 s3):=hc 2 _ rfl;have e3:wr.cell? ⟨b,off+j*11+3,none⟩=some (.string s4):=hc 3 _ rfl;have e4:wr.cell? ⟨b,off+j*11+4,none⟩=some (.string s5):=hc 4 _ rfl;have e5:wr.cell? ⟨b,off+j*11+5,none⟩=some (.int .i64 s6):=hc 5 _ rfl;have e6:wr.cell? ⟨b,off+j*11+6,none⟩=some (.int .i64 s7):=hc 6 _ rfl;have e7:wr.cell? ⟨b,off+j*11+7,none⟩=some (.int .i64 s8):=hc 7 _ rfl;have e8:wr.cell? ⟨b,off+j*11+8,none⟩=some (.string s9):=hc 8 _ rfl;have e9:wr.cell? ⟨b,off+j*11+9,none⟩=some (.int .i64 s10):=hc 9 _ rfl;have e10:wr.cell? ⟨b,off+j*11+10,none⟩=some (.int .i64 s11):=hc 10 _ rfl;obtain⟨Y,hY⟩:∃Y,wr.alloc (.cells #[.string s1,.int .i64 s2,.int .i64 s3,.string s4,.string s5,.int .i64 s6,.int .i64 s7,.int .i64 s8,.string s9,.int .i64 s10,.int .i64 s11] 84)=Y:=⟨_,rfl⟩;have hB5:Blk Y wr.heap.size #[.string s1,.int .i64 s2,.int .i64 s3,.string s4,.string s5,.int .i64 s6,.int .i64 s7,.int .i64 s8,.string s9,.int .i64 s10,.int .i64 s11] 84:=by rw[←hY];exact Blk.new wr _ _
   have HBY:Hid (Below w.heap.size w Y):=hid (by rw[←hY];exact HB.out.al _);have HOY:Hid (Own 9 encSb 1 Y w.heap.size A1 c1 rs):=hid (by rw[←hY];exact HO.out.alloc _);have HO2Y:Hid (Own 3 encI 1 Y w.heap.size A2 c2 zs):=hid (by rw[←hY];exact HO2.out.alloc _);have f4:=hB5.cell 4 (v:=.string s5) rfl;have hbs:w.heap.size≤Y.heap.size:=HBY.out.size;have HB5:=hid hB5;clear hc hbl hx hi hj hB5;go_wp2_with(first|((at_builtin;refine wpList_app1b rfl (.tmp 15) (.tmp 19) tySb encSb_ok rfl s5 rfl _ rfl (by simp) HOY.out rfl (by first|rfl|assumption|simp) (by first|omega|(simp;omega)) (by first|omega|(simp;omega)) hbs ?_;intro A4 c4 w4 hown4 hb4 hs4 hf4;have hbel4:=(HBY.out).trans hb4);have HS4:=hid (HO2Y.out.keepB (w':=w4) (fun g hg hgl=>hf4 g hgl (fun g' hg' e=>HOY.out.apart HO2Y.out sbne hg' hg e.symm)));have HR4:=hid hown4;have HB4:=hid hbel4;have hbs4:w.heap.size≤w4.heap.size:=Nat.le_of_lt (Nat.lt_of_le_of_lt hbs hs4);have f6:=Blk.cell (show Blk w4 wr.heap.size #[.string s1,.int .i64 s2,.int .i64 s3,.string s4,.string s5,.int .i64 s6,.int .i64 s7,.int .i64 s8,.string s9,.int .i64 s10,.int .i64 s11] 84 from(hf4 wr.heap.size HB5.out.lt (fun g hg=>Nat.ne_of_gt (HO.out.lt2 hg).2)).trans HB5.out) 6 (v:=.int .i64 s7) rfl)|(at_builtin;refine wpList_app1b rfl (.tmp 21) (.tmp 25) tyI encI_ok rfl s7 rfl _ rfl (by simp) HS4.out rfl (by first|rfl|assumption|simp) (by first|omega|(simp;omega)) (by first|omega|(simp;omega)) hbs4 ?_;intro A5 c5 w5 hown5 hb5 hs5 hf5;have hbel5:=(HB4.out).trans hb5))
   have HR5:=hid (HR4.out.keepB (w':=w5) (fun g hg hgl=>hf5 g hgl (fun g' hg' e=>HR4.out.apart HS4.out sbne hg hg' e)));have HS5:=hid hown5;have HB5':=hid hbel5;clear hown4 hbel4 hb4 hs4 hf4 hown5 hbel5 hb5 hs5 hf5;go_roundw
   case rel=>exact⟨j+1,A4,c4,_,A5,c5,_,HI.out,by go_num,by simp,by simp,by show _=_;rw[HST.out,←HV.out],by show _=_;rw[HSZ.out,←HZ.out],HR5,HS5,HB5'⟩
   case measure=>have:=HI.out;simp[RowKit.intOf];omega
  ·obtain rfl:j=n:=by omega
   have h1:rs=(rdsV l).map Prod.fst:=by rw[HV.out,List.take_of_length_le (Nat.le_of_eq HN.out)];unfold rdsV;rw[List.map_map];rfl
   have h2:zs=(rdsV l).map Prod.snd:=by rw[HZ.out,List.take_of_length_le (Nat.le_of_eq HN.out)];unfold rdsV;rw[List.map_map];rfl
   have hlr:(rdsV l).length=j:=by unfold rdsV;rw[List.length_map,HN.out]
   have CV:=vote_any (l:=rdsV l) c1 c2 (h1▸HO.out.rd encSb_ok) (h2▸HO2.out.rd encI_ok) (by omega) (fun x hx=>by
    unfold rdsV at hx;obtain⟨y,hy,rfl⟩:=List.mem_map.1 hx;exact HPL.out y hy)
   have hl1:rs.length=(rdsV l).length:=by rw[h1,List.length_map]
   have hl2:zs.length=(rdsV l).length:=by rw[h2,List.length_map]
   rw[hl1,hl2];have CV:=hid CV;clear h1 h2 hlr hl1 hl2 hi hj;go_wp2_with fail
   with_reducible refine CV.out.mono ?_
   rintro e w7 ⟨⟨q,rfl⟩,hb⟩;have HB7:=hid (HB.out.st hb);have HRV:=hid (show vList (rdsV l)=r from HRR.out);clear hb CV;go_wp2_with fail
   go_ret;exact⟨by rw[←HRV.out];rfl,HB7.out⟩
end
section
open Go.RowKit Go.Lib Go.Sort Go.Shelf
open Mat
def encSr (s:Src):List Value:=[.string s.1,.int .i64 s.2]
theorem encSr_ok:Enc encSr 2:=⟨fun _=>rfl,fun x u hu=>by simp[encSr]at hu;rcases hu with rfl|rfl<;>rfl⟩
theorem tySr:TyS Tryz.prog 74 82 2 24:=TyS.mk' (z:=.agg #[.string ⟨#[]⟩,.int .i64 0]) Tryz.underlying74 (by kernel_rfl) rfl (by omega)
theorem forder_any (a b:Src)(w:World):Calls Tryz.prog 102 #[.agg (encSr a).toArray,.agg (encSr b).toArray] w fun e w'=>e=.returned (.int .i64 (cmpSr a b))∧Gr w w':=by
 obtain⟨a1,a2⟩:=a;obtain⟨b1,b2⟩:=b;show Calls Tryz.prog 102 #[.agg #[.string a1,.int .i64 a2],.agg #[.string b1,.int .i64 b2]] w _
 simp only[cmpSr];obtain⟨Y1,hY1⟩:∃Y,w.alloc (.cells #[.string a1,.int .i64 a2] 82)=Y:=⟨_,rfl⟩;obtain⟨Y2,hY2⟩:∃Y,Y1.alloc (.cells #[.string b1,.int .i64 b2] 82)=Y:=⟨_,rfl⟩;have gY:Gr w Y2:=(by rw[←hY2,←hY1];exact(Gr.alloc _ _).trans (Gr.alloc _ _));have BA:Blk Y2 w.heap.size #[.string a1,.int .i64 a2] 82:=(by rw[←hY2,←hY1];exact(Blk.new w _ _).alloc _);have BB:Blk Y2 Y1.heap.size #[.string b1,.int .i64 b2] 82:=(by rw[←hY2];exact Blk.new Y1 _ _);have HSS:Hid ((fun w':World=>w'.cell? ⟨w.heap.size,0,none⟩=some (.string a1)∧w'.cell? ⟨w.heap.size,1,none⟩=some (.int .i64 a2)∧w'.cell? ⟨Y1.heap.size,0,none⟩=some (.string b1)∧w'.cell? ⟨Y1.heap.size,1,none⟩=some (.int .i64 b2)) Y2):=hid ⟨BA.cell 0 rfl,BA.cell 1 rfl,BB.cell 0 rfl,BB.cell 1 rfl⟩;have HBA:=hid BA;have HBB:=hid BB;clear BA BB;go_enter Tryz.func102,Tryz.ntmps102;go_wp2_with fail;refine wp_region_held_drew (S:=(fun w':World=>w'.cell? ⟨w.heap.size,0,none⟩=some (.string a1)∧w'.cell? ⟨w.heap.size,1,none⟩=some (.int .i64 a2)∧w'.cell? ⟨Y1.heap.size,0,none⟩=some (.string b1)∧w'.cell? ⟨Y1.heap.size,1,none⟩=some (.int .i64 b2))) (by kernel_rfl) ?_ (fun hHeld=> ?_);(focus exact HSS.out);have hSS:(fun w':World=>w'.cell? ⟨w.heap.size,0,none⟩=some (.string a1)∧w'.cell? ⟨w.heap.size,1,none⟩=some (.int .i64 a2)∧w'.cell? ⟨Y1.heap.size,0,none⟩=some (.string b1)∧w'.cell? ⟨Y1.heap.size,1,none⟩=some (.int .i64 b2)) Y2.drew:=HSS.out;have gW:Gr w Y2.drew:=gY.drew;have HBA:=hid HBA.out.drew;have HBB:=hid HBB.out.drew;clear HSS hY1 hY2 gY;generalize Y2.drew=W0 at hSS gW hHeld HBA HBB ⊢;change wpAnyH _ _ _ _ _ 13 _ _ _
 refine tk 0 (h:= ?_);refine tk 1 (h:= ?_);refine tk 2 (h:= ?_);refine tk 3 (h:= ?_);refine tk 5 (h:= ?_);refine tk 6 (h:= ?_);refine tk 7 (h:= ?_);refine tk 8 (h:= ?_);refine rd1 4 (h:=fun K hK=> ?_);rw[if_pos (by rfl)];go_wp2_with fail;refine(cmpStr_any _ _ _).mono ?_;rintro e wn ⟨rfl,rfl⟩;go_wp2_with fail;refine hK.out _ _ ?_ (fun hHeld=> ?_);(focus exact hSS);clear hK K;refine td (h:= ?_)
 refine rd1 9 (h:=fun K hK=> ?_);rw[if_pos (by rfl)];go_wp2_with fail;refine(cmpInt_any _ _ _).mono ?_;rintro e wn ⟨rfl,rfl⟩;go_wp2_with fail;refine hK.out _ _ ?_ (fun hHeld=> ?_);(focus exact hSS);clear hK K;refine td (h:= ?_)
 (obtain⟨Z,hZ⟩:∃x,World.alloc wn (.cells #[.int .i64 (cmpS a1 b1),.int .i64 (cmpI a2 b2)] 3)=x:=⟨_,rfl⟩);have gZ:Gr w Z:=(by rw[←hZ];exact gW.trans (Gr.alloc _ _));have hSS:(fun w':World=>w'.cell? ⟨w.heap.size,0,none⟩=some (.string a1)∧w'.cell? ⟨w.heap.size,1,none⟩=some (.int .i64 a2)∧w'.cell? ⟨Y1.heap.size,0,none⟩=some (.string b1)∧w'.cell? ⟨Y1.heap.size,1,none⟩=some (.int .i64 b2)) Z:=(by have BA:=HBA.out.alloc (.cells #[.int .i64 (cmpS a1 b1),.int .i64 (cmpI a2 b2)] 3);have BB:=HBB.out.alloc (.cells #[.int .i64 (cmpS a1 b1),.int .i64 (cmpI a2 b2)] 3);rw[hZ]at BA BB;exact⟨BA.cell 0 rfl,BA.cell 1 rfl,BB.cell 0 rfl,BB.cell 1 rfl⟩);have rdl:Rd encI 1 Z Z.heap.size (some ⟨wn.heap.size,0,none⟩) [cmpS a1 b1,cmpI a2 b2]:=(by rw[←hZ];exact Rd.lit wn _ encI_ok rfl (by simp));refine rd1 10 (h:=fun K hK=> ?_);rw[if_pos (by rfl)];go_wp2_with fail;refine hK.out _ _ ?_ (fun hHeld=> ?_);(focus exact hSS);clear hK K hZ HBA HBB gW;refine td (h:= ?_);refine rd1 11 (h:=fun K hK=> ?_);rw[if_pos (by rfl)];go_wp2_with fail;refine(or_any 2 rdl (by simp)).mono ?_;rintro e wn ⟨rfl,rfl⟩;go_wp2_with fail;refine hK.out _ _ ?_ (fun hHeld=> ?_);(focus exact hSS);clear hK K;refine td (h:= ?_);refine tk 12 (h:= ?_);refine wpAnyH_done (by kernel_rfl) ?_ _;go_wp2_with fail;go_ret;exact⟨rfl,gZ⟩
instance : Inhabited Src := ⟨(⟨#[]⟩, 0)⟩
theorem sortSr_any {A:Option Addr}(c:Nat){l:List Src}{w:World}{base:Nat}(h:Own 82 encSr 2 w base A c l)(hb:base≤w.heap.size)(hsz:l.length<4611686018427387904):
  Calls Tryz.prog 101 #[.slice A l.length c,.func (.func 102) #[] #[]] w fun e w'=>e=.returned (.tuple #[])∧Own 82 encSr 2 w' base A c (ordS (ltOf cmpSr) l)∧Below base w w'∧∀b,b<w.heap.size→(∀g,A=some ⟨g,0,none⟩→b≠g)→w'.heap[b]? =w.heap[b]? :=by
 have eg:∀args w,(callFunc 102 args).run Tryz.prog w=.ok (.enter 102 args) w:=enters_of Tryz.func102 (by kernel_rfl) rfl;refine(sort_own2 Tryz.lay_sort_f101 Tryz.isAgg82 Tryz.sizeOf82 encSr_ok cmpSr cmpSr_pre.swo 102 #[] eg (fun W x y=>forder_any x y W) h hb hsz).mono ?_;rintro e w' ⟨rfl,l',hp,hs,ho,hbl,hot⟩;have e:l'=ordS (ltOf cmpSr) l:=ord_uniq cmpSr_pre (fun _ _=>cmpSr_zero.1) hp (hs.imp fun{a b} hab=>by
  unfold ltOf at hab;have:=of_decide_eq_false hab
  have h2:=cmpSr_pre.s a b;omega)
 rw[←e];exact⟨rfl,ho,hbl,hot⟩
end
section
open Go.RowKit Go.Lib Go.Sort Go.Shelf
open Mat
def eqSr (x y:Src):Bool:=eqS x.1 y.1&&x.2==y.2
theorem eqSr_iff (x y:Src):eqSr x y=true↔x=y:=by
 unfold eqSr;simp only[Bool.and_eq_true,eqS_iff,beq_iff_eq];constructor
 ·rintro⟨h1,h2⟩;exact Prod.ext h1 h2
 ·rintro rfl;simp
theorem eqSr_run (x1 y1:ByteArray)(x2 y2:Int)(w:World):(binOp .eql 82 (.agg #[.string x1,.int .i64 x2]) (.agg #[.string y1,.int .i64 y2])).run Tryz.prog w=.ok (.bool (eqSr (x1,x2) (y1,y2))) w:=by
 unfold eqSr eqS;go_simp
 repeat' split
 all_goals simp_all
theorem compactSr_any {g:Nat}(c:Nat){l:List Src}(hl:l.length≤100000)(hd:l.Nodup){w:World}{base:Nat}(hO:Own 82 encSr 2 w base (some ⟨g,0,none⟩) c l):
  Calls Tryz.prog 103 #[.slice (some ⟨g,0,none⟩) l.length c] w fun e w'=>e=.returned (.slice (some ⟨g,0,none⟩) l.length c)∧Own 82 encSr 2 w' base (some ⟨g,0,none⟩) c l∧∃q,w'=w.drewN q:=by
 have HO:=hid hO;have HD:=hid hd;obtain⟨n,hn⟩:∃n,l.length=n:=⟨_,rfl⟩;have HN:=hid hn;rw[hn]at hl ⊢;clear hO hd hn;by_cases h2:n<2
 ·have h2b:(n:Int)<2:=by omega
  go_enter Tryz.func103,Tryz.ntmps103;go_wp2_with fail
  go_ret;exact⟨rfl,HO.out,0,rfl⟩
 ·have h2b:¬(n:Int)<2:=by omega
  go_enter Tryz.func103,Tryz.ntmps103;go_wp2_with fail
  go_loopw [3] (fun s3 wr=>∃(m q:Nat),m+1≤n∧s3=.int .i64 ((m:Int)+1)∧wr=w.drewN q) (fun i _=>n-(RowKit.intOf i).toNat)
  case atStart=>exact⟨0,0,by omega,rfl,rfl⟩
  case round=>
   obtain⟨m,q,hm,rfl,rfl⟩:=hrel;have HO1:=hid (HO.out.drewN q);have m0:(0:Int)≤(m:Int):=by omega
   have m1:(0:Int)≤(m:Int)+1:=by omega
   have wn:IntKind.i64.wrap ((m:Int)+1-1)=(m:Int):=(IntWalk.i64_in _ (by omega)).trans (by omega);have wn0:IntKind.i64.wrap (m:Int)=(m:Int):=IntWalk.i64_in _ (by omega);by_cases hi:m+1<n
   ·obtain⟨x,hx⟩:∃x,l[m+1]? =some x:=⟨_,List.getElem?_eq_getElem (by rw[HN.out];exact hi)⟩;obtain⟨y,hy⟩:∃y,l[m]? =some y:=⟨_,List.getElem?_eq_getElem (by rw[HN.out];omega)⟩;have hne:eqSr x y=false:=by
     rw[Bool.eq_false_iff];intro h;have:=(eqSr_iff x y).1 h
     subst this;have h3:=List.pairwise_iff_getElem.1 HD.out m (m+1) (by rw[HN.out];omega) (by rw[HN.out];exact hi) (Nat.lt_succ_self m);rw[(List.getElem?_eq_some_iff.1 hx).2,(List.getElem?_eq_some_iff.1 hy).2]at h3;exact h3 rfl
    obtain⟨x1,x2⟩:=x;obtain⟨y1,y2⟩:=y;have e0:=HO1.out.cells encSr_ok rfl hx (j:=0) (u:=.string x1) rfl;have e1:=HO1.out.cells encSr_ok rfl hx (j:=1) (u:=.int .i64 x2) rfl;have f0:=HO1.out.cells encSr_ok rfl hy (j:=0) (u:=.string y1) rfl;have f1:=HO1.out.cells encSr_ok rfl hy (j:=1) (u:=.int .i64 y2) rfl;rw[Nat.add_zero]at e0 f0;have qe:=fun w1=>eqSr_run x1 y1 x2 y2 w1;rw[hne]at qe;have QE:=hid qe;have i1:(m:Int)+1<(n:Int):=by omega
    have i2:(m:Int)<(n:Int):=by omega
    have i3:decide (m+1<n)=true:=decide_eq_true hi;have i4:decide (m<n)=true:=decide_eq_true (by omega);have w2:IntKind.i64.wrap ((m:Int)+1+1)=(m:Int)+1+1:=IntWalk.i64_in _ (by omega);have HI:=hid hi;have HME:Hid (n-(RowKit.intOf (.int .i64 ((m:Int)+1+1))).toNat<n-(RowKit.intOf (.int .i64 ((m:Int)+1))).toNat):=hid (by simp only[RowKit.intOf];omega);clear hx hy hne hi hm qe;go_upto_region 6 with fail
    refine wp_region_held_drew (S:=(fun X:World=>X.cell? ⟨g,(m+1)*2,none⟩=some (.string x1)∧X.cell? ⟨g,(m+1)*2+1,none⟩=some (.int .i64 x2)∧X.cell? ⟨g,m*2,none⟩=some (.string y1)∧X.cell? ⟨g,m*2+1,none⟩=some (.int .i64 y2))) (by kernel_rfl) ?_ (fun hHeld=> ?_);focus exact⟨e0,e1,f0,f1⟩
    have hSS:(fun X:World=>X.cell? ⟨g,(m+1)*2,none⟩=some (.string x1)∧X.cell? ⟨g,(m+1)*2+1,none⟩=some (.int .i64 x2)∧X.cell? ⟨g,m*2,none⟩=some (.string y1)∧X.cell? ⟨g,m*2+1,none⟩=some (.int .i64 y2)) (w.drewN q).drew:=⟨e0,e1,f0,f1⟩;clear e0 e1 f0 f1;have qe:=QE.out;change wpAnyH _ _ _ _ _ 10 _ _ _;refine tk 0 (h:= ?_);refine tk 1 (h:= ?_);refine tk 2 (h:= ?_);refine tk 3 (h:= ?_);refine tk 4 (h:= ?_);refine tk 5 (h:= ?_);refine tk 6 (h:= ?_);refine tk 7 (h:= ?_);refine tk 8 (h:= ?_);refine tk 9 (h:= ?_);refine wpAnyH_done (by kernel_rfl) ?_ _;clear qe hHeld hSS;go_wp2_with fail
    go_roundw
    case rel=>exact⟨m+1,q+1,HI.out,by simp only[Int.natCast_add,Int.natCast_one],rfl⟩
    case measure=>exact HME.out
   ·obtain rfl:n=m+1:=by omega
    simp only[Int.natCast_add,Int.natCast_one];go_wp2_with fail
    go_ret;exact⟨rfl,HO1.out,q,rfl⟩
end
section
open Go.RowKit Go.Lib Go.Sort
open Mat
theorem sources_any {A:Option Addr}(c:Nat){l:List Sn}(hl:l.length≤1000)(hne:l≠[])(hd:(l.map keyS).Nodup){w:World}(hR:Rd encSn 11 w w.heap.size A l):
  Calls Tryz.prog 54 #[.slice A l.length c] w fun e w'=>∃A' c',e=.returned (.slice A' l.length c')∧Own 82 encSr 2 w' w.heap.size A' c' (srcsV l)∧Below w.heap.size w w':=by
 have HR:=hid hR;obtain⟨n,hn⟩:∃n,l.length=n:=⟨_,rfl⟩;have HN:=hid hn;have HND:=hid hd;have HNE:=hid (List.length_pos_iff.2 hne);rw[hn]at hl ⊢;clear hR hn hd hne;go_enter Tryz.func54,Tryz.ntmps54;go_wp2_with fail
 go_loopw [3,8] (fun s3 sj wx=>∃(j:Nat) (A':Option Addr) (c':Nat) (rs:List Src),j≤n∧sj=.int .i64 j∧s3=.slice A' rs.length c'∧Hid (rs=(l.take j).map keyS)∧Hid (Own 82 encSr 2 wx w.heap.size A' c' rs)∧Hid (Below w.heap.size w wx)) (fun _ sj _=>n-(RowKit.intOf sj).toNat)
 case atStart=>exact⟨0,none,0,[],Nat.zero_le _,rfl,rfl,rfl,Own.nil _ _,Below.refl _ _⟩
 case round=>
  obtain⟨j,A9,c9,rs,hj,rfl,rfl,HV,HO,HB⟩:=hrel;have j0:(0:Int)≤(j:Int):=by omega
  by_cases hi:j<n
  ·obtain⟨b,off,x,rfl,hbl,hx,hc⟩:=(HR.out.st HB.out).at_ (i:=j) (by rw[HN.out];exact hi);have HI:=hid hi;have HST:Hid ((l.take (j+1)).map keyS=(l.take j).map keyS++[keyS x]):=hid (by rw[take_succ' hx,List.map_append];rfl);have hrl:rs.length≤1000:=by rw[HV.out,List.length_map,List.length_take];omega
   have j1:(j:Int)<(n:Int):=by omega
   have j2:decide (j<n)=true:=decide_eq_true hi;obtain⟨⟨s1,s2,s3,s4,s5,s6,s7⟩,s8,s9,s10,s11⟩:=x;have e0:wr.cell? ⟨b,off+j*11,none⟩=some (.string s1):=by simpa using hc 0 _ rfl
   have e1:wr.cell? ⟨b,off+j*11+1,none⟩=some (.int .i64 s2):=hc 1 _ rfl;have e2:wr.cell? ⟨b,off+j*11+2,none⟩=some (.int .i64 s3):=hc 2 _ rfl;have e3:wr.cell? ⟨b,off+j*11+3,none⟩=some (.string s4):=hc 3 _ rfl;have e4:wr.cell? ⟨b,off+j*11+4,none⟩=some (.string s5):=hc 4 _ rfl;have e5:wr.cell? ⟨b,off+j*11+5,none⟩=some (.int .i64 s6):=hc 5 _ rfl;have e6:wr.cell? ⟨b,off+j*11+6,none⟩=some (.int .i64 s7):=hc 6 _ rfl;have e7:wr.cell? ⟨b,off+j*11+7,none⟩=some (.int .i64 s8):=hc 7 _ rfl;have e8:wr.cell? ⟨b,off+j*11+8,none⟩=some (.string s9):=hc 8 _ rfl;have e9:wr.cell? ⟨b,off+j*11+9,none⟩=some (.int .i64 s10):=hc 9 _ rfl;have e10:wr.cell? ⟨b,off+j*11+10,none⟩=some (.int .i64 s11):=hc 10 _ rfl;obtain⟨Y,hY⟩:∃Y,wr.alloc (.cells #[.string s1,.int .i64 s2,.int .i64 s3,.string s4,.string s5,.int .i64 s6,.int .i64 s7,.int .i64 s8,.string s9,.int .i64 s10,.int .i64 s11] 84)=Y:=⟨_,rfl⟩;have hB5:Blk Y wr.heap.size #[.string s1,.int .i64 s2,.int .i64 s3,.string s4,.string s5,.int .i64 s6,.int .i64 s7,.int .i64 s8,.string s9,.int .i64 s10,.int .i64 s11] 84:=by rw[←hY];exact Blk.new wr _ _
   have HBY:Hid (Below w.heap.size w Y):=hid (by rw[←hY];exact HB.out.al _);have HOY:Hid (Own 82 encSr 2 Y w.heap.size A9 c9 rs):=hid (by rw[←hY];exact HO.out.alloc _);have f0:=hB5.cell 0 (v:=.string s1) rfl;have f1:=hB5.cell 1 (v:=.int .i64 s2) rfl;have f2:=hB5.cell 2 (v:=.int .i64 s3) rfl;have f3:=hB5.cell 3 (v:=.string s4) rfl;have f4:=hB5.cell 4 (v:=.string s5) rfl;have f5:=hB5.cell 5 (v:=.int .i64 s6) rfl;have f6:=hB5.cell 6 (v:=.int .i64 s7) rfl;have hbs:w.heap.size≤Y.heap.size:=HBY.out.size;clear hc hbl hx hi hj hB5;go_wp2_with((at_builtin;refine wpList_app1b rfl (.tmp 12) (.tmp 20) tySr encSr_ok rfl ((s1,s2):Src) rfl _ rfl (by simp) HOY.out rfl (by first|rfl|assumption|simp) (by first|omega|(simp;omega)) (by first|omega|(simp;omega)) hbs ?_;intro A7 c7 w7 hown7 hb7 hs7 hf7;have hbel7:=(HBY.out).trans hb7))
   have HO7:=hid hown7;have HB7:=hid hbel7;clear hown7 hbel7 hb7 hs7 hf7;go_roundw
   case rel=>exact⟨j+1,A7,c7,_,HI.out,by go_num,by simp,by show _=_;rw[HST.out,←HV.out];rfl,HO7,HB7⟩
   case measure=>have:=HI.out;simp[RowKit.intOf];omega
  ·obtain rfl:j=n:=by omega
   have HE:Hid (rs=l.map keyS):=hid (by rw[HV.out,List.take_of_length_le (Nat.le_of_eq HN.out)]);have hrl:rs.length=j:=by rw[HE.out,List.length_map,HN.out]
   have HRL:=hid hrl;have CS:=hid (sortSr_any c9 HO.out HB.out.size (by omega));clear hi hj hrl;go_wp2_with fail
   with_reducible refine CS.out.mono ?_
   rintro e w2 ⟨rfl,ho2,hb2,_⟩;have hse:ordS (ltOf cmpSr) rs=srcsV l:=by rw[HE.out];rfl
   have hsl:(srcsV l).length=rs.length:=by rw[←hse];exact ord_len cmpSr_pre rs
   rw[hse]at ho2;obtain⟨g9,rfl,_,_⟩:=ho2.exB (by intro e;rw[e]at hsl;have:=HRL.out;have:=HNE.out;have:=HN.out;simp at hsl;omega);have HP:Hid ((srcsV l).Nodup):=hid ((ordS_ok cmpSr_pre.swo (l.map keyS)).perm.nodup_iff.2 HND.out);have CC:=compactSr_any c9 (by have:=HRL.out;omega) HP.out ho2;rw[hsl]at CC;have CC:=hid CC;have HB2:=hid (HB.out.trans hb2);clear hse hsl ho2 hb2 CS;go_wp2_with fail
   with_reducible refine CC.out.mono ?_
   rintro e w3 ⟨rfl,ho3,q,rfl⟩;have HO3:=hid ho3;clear ho3 CC;go_wp2_with fail
   go_ret;exact⟨_,c9,by rw[HRL.out];rfl,HO3.out,below_drewN HB2.out q⟩
end
section
open Go.RowKit Go.Lib Go.Sort Go.Shelf
open Mat
def P10 (w:World):Prop:=Lib.TabIs Tryz.prog w "internal/strconv.uint64pow10" .u64 Lib.pow10Tab
theorem gr_grow {w w':World}(h:∃k os,w'=grow (w.drewN k) os):Below w.heap.size w w':=by
 obtain⟨k,os,e⟩:=h;exact Gr.below ⟨k,os,e⟩
theorem format_any (n:Int)(h0:0≤n)(h1:n≤1000000000000000000){w:World}(hT:P10 w):Calls Tryz.prog 104 #[.int .i64 n] w fun e w'=>e=.returned (.string (itoaB n))∧Below w.heap.size w w':=by
 have CI:=hid (Any.strconv_Itoa Tryz.lay_itoa_f140 n (by omega) (by omega) w hT);clear hT;go_enter Tryz.func104,Tryz.ntmps104;go_wp2_with fail
 refine CI.out.mono ?_;rintro e w2 ⟨rfl,hg⟩;have HB:=hid (gr_grow hg);clear hg CI;go_wp2_with fail
 go_ret;exact⟨rfl,HB.out⟩
end
section
open Go.RowKit Go.Lib Go.Sort Go.Shelf
open Mat
theorem p10_st {w w':World}(h:P10 w)(hb:Below w.heap.size w w'):P10 w':=Go.Joins.tab_stays (g:=(Tryz.prog.globalNamed "internal/strconv.uint64pow10").getD 0) (by kernel_rfl) h hb (Nat.le_refl _)
theorem ident2_any (p1 p2 p3 p4 p5 p6 p7:Value){sA:Option Addr}(c:Nat){l t:List Src}{d:ByteArray}{q:Int}(hl:l=(d,q)::t)(hn:l.length≤1000)(h0:0≤q)(h1:q≤1000000000000000000)(hd:d.size≤1000)(hi:(itoaB q).size≤1000){w:World}(hT:P10 w)(hR:Rd encSr 2 w w.heap.size sA l):
  Calls Tryz.prog 55 #[.agg #[p1,p2,p3,p4,p5,p6,p7,.slice sA l.length c]] w fun e w'=>e=.returned (.string (idV l))∧Below w.heap.size w w':=by
 have hpos:0<l.length:=by rw[hl];exact Nat.succ_pos _
 obtain⟨b,off,x,rfl,hb,hx,hc⟩:=hR.at_ hpos;have hxe:x=(d,q):=by rw[hl]at hx;injection hx with hx;exact hx.symm
 subst hxe;obtain⟨n,hn2⟩:∃n,l.length=n:=⟨_,rfl⟩;have HV:=hid (show idV l=d++dotB++itoaB q by rw[hl];rfl);rw[HV.out,hn2];rw[hn2]at hpos hn;obtain⟨Y,hY⟩:∃Y,w.alloc (.cells #[p1,p2,p3,p4,p5,p6,p7,.slice (some ⟨b,off,none⟩) n c] 76)=Y:=⟨_,rfl⟩;have hbY:Below w.heap.size w Y:=by rw[←hY];exact(Below.refl _ w).al _
 have hB:Blk Y w.heap.size #[p1,p2,p3,p4,p5,p6,p7,.slice (some ⟨b,off,none⟩) n c] 76:=by rw[←hY];exact Blk.new w _ _
 have c7:=hB.cell 7 (v:=.slice (some ⟨b,off,none⟩) n c) rfl;have e0:=hc 0 (.string d) rfl;have e1:=hc 1 (.int .i64 q) rfl;rw[Nat.zero_mul,Nat.add_zero]at e0 e1;have e0:=(hbY.cell (p:=⟨b,off,none⟩) hb).trans e0;have e1:=(hbY.cell (p:=⟨b,off+1,none⟩) hb).trans e1;have HBL:=hid hb;have HBY:=hid hbY;have HLT:=hid hB.lt;have CF:=hid (fun(X:World) (hX:Below w.heap.size w X)=>format_any q h0 h1 (p10_st hT hX));have n1:(0:Int)<(n:Int):=by omega
 have n2:decide (0<n)=true:=decide_eq_true hpos;have n3:((n:Int)==0)=false:=by simp;omega
 obtain⟨it,hit⟩:∃s,itoaB q=s:=⟨_,rfl⟩;rw[hit]at CF hi ⊢;have hs1:¬9223372036854775807<d.size+dotB.size:=by have:dotB.size=1:=rfl;omega
 have hs2:¬9223372036854775807<(d++dotB).size+it.size:=by
  have:(d++dotB).size=d.size+1:=by rw[ByteArray.size_append];rfl
  omega
 have hs3:¬9223372036854775807<d.size+1:=by omega
 have hs4:¬9223372036854775807<d.size+1+it.size:=by omega
 unfold dotB at hs1 hs2 ⊢;clear hc hb hx hl hB hbY hT hR h0 h1 hit hn2;go_enter Tryz.func55,Tryz.ntmps55;go_wp2_with fail
 refine wp_region_held_drew (S:=(fun X:World=>X.cell? ⟨w.heap.size,7,none⟩=some (.slice (some ⟨b,off,none⟩) n c)∧X.cell? ⟨b,off,none⟩=some (.string d)∧X.cell? ⟨b,off+1,none⟩=some (.int .i64 q))) (by kernel_rfl) ⟨c7,e0,e1⟩ (fun hHeld=> ?_);have hSS:(fun X:World=>X.cell? ⟨w.heap.size,7,none⟩=some (.slice (some ⟨b,off,none⟩) n c)∧X.cell? ⟨b,off,none⟩=some (.string d)∧X.cell? ⟨b,off+1,none⟩=some (.int .i64 q)) Y.drew:=⟨c7,e0,e1⟩;have bD:Below w.heap.size w Y.drew:=HBY.out.drew;have HBB:=hid (show∀X,Below Y.heap.size Y X→(fun X:World=>X.cell? ⟨w.heap.size,7,none⟩=some (.slice (some ⟨b,off,none⟩) n c)∧X.cell? ⟨b,off,none⟩=some (.string d)∧X.cell? ⟨b,off+1,none⟩=some (.int .i64 q)) X from fun X hX=>⟨(hX.cell (p:=⟨w.heap.size,7,none⟩) HLT.out).trans c7,(hX.cell (p:=⟨b,off,none⟩) (Nat.lt_trans HBL.out HLT.out)).trans e0,(hX.cell (p:=⟨b,off+1,none⟩) (Nat.lt_trans HBL.out HLT.out)).trans e1⟩);have bY:Below Y.heap.size Y Y.drew:=(Below.refl _ Y).drew;obtain⟨V0,hV0⟩:∃V,Y.drew=V:=⟨_,rfl⟩;rw[hV0]at hHeld hSS bD bY ⊢;clear hV0 hY c7 e0 e1;change wpAnyH _ _ _ _ _ 14 _ _ _;refine tk 0 (h:= ?_);refine tk 1 (h:= ?_);refine tk 2 (h:= ?_);refine tk 3 (h:= ?_);refine tk 4 (h:= ?_);refine tk 5 (h:= ?_);refine tk 6 (h:= ?_);refine tk 7 (h:= ?_);refine tk 8 (h:= ?_);refine tk 9 (h:= ?_);refine tk 10 (h:= ?_);refine rd1 11 (h:=fun K hK=> ?_);rw[if_pos (by rfl)];go_wp2_with fail
 with_reducible refine(CF.out V0 bD).mono ?_
 rintro e W6 ⟨rfl,hbn⟩;have bD:=bD.st hbn;have hS6:=HBB.out W6 (bY.st hbn);clear hbn;go_wp2_with fail
 refine hK.out _ _ hS6 (fun hHeld=> ?_);clear hK K hSS;have hSS:=hS6;refine td (h:= ?_);refine tk 12 (h:= ?_);refine tk 13 (h:= ?_);refine wpAnyH_done (by kernel_rfl) ?_ _;have HB:=hid bD;clear hHeld hSS hS6 bD bY;go_wp2_with fail
 go_ret;exact⟨rfl,HB.out⟩
end
end Go.Proofs.YtimffppffbideaaGreatDoor
