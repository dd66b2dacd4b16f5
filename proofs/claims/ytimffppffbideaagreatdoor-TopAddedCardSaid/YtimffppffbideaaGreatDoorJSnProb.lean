import Derived.Test.YtimffppffbideaaGreatDoorJBelX
set_option linter.unusedSimpArgs false
set_option linter.unusedVariables false
set_option maxRecDepth 100000
set_option maxHeartbeats 8000000
namespace Go.Proofs.YtimffppffbideaaGreatDoor
section
open Go.RowKit Go.Lib
open Mat
theorem tyII:TyS Tryz.prog 128 33 1 24:=TyS.mk' (z:=.slice none 0 0) Tryz.underlying128 (by kernel_rfl) rfl (by omega)
theorem ine:3≠33:=by decide
theorem rep_prt (v:Int)(n:Nat):prt (fun _=>v) n n=List.replicate n v:=by
 rw[prt_full];refine List.ext_getElem? fun t=> ?_;by_cases h:t<n
 ·rw[range_at _ h,List.getElem?_replicate,if_pos h]
 ·rw[List.getElem?_eq_none (by simp;omega),List.getElem?_eq_none (by simp;omega)]
theorem const_any (n:Nat)(v:Int)(hn:n≤1000)(w:World):Calls Tryz.prog 161 #[.int .i64 n,.int .i64 v] w fun e w'=>∃A c,e=.returned (.slice A n c)∧Own 3 encI 1 w' w.heap.size A c (List.replicate n v)∧Below w.heap.size w w':=by
 obtain⟨g0,hg0⟩:∃g,w.heap.size=g:=⟨_,rfl⟩;have HG0:=hid hg0;go_enter Tryz.func161,Tryz.ntmps161;go_wp2_with(refine wpList_makeZ rfl (.tmp 7) (.tmp 7) tyI encI_ok rfl w.heap.size 0 (.int .i64 0) (by kernel_rfl) rfl .i64 .i64 n rfl rfl (by omega) (by omega) (Nat.le_refl _) ?_;intro w7 hown hb7 hs7)
 rw[prt_zero (fun _=>v)]at hown;rw[hg0]at hown hb7 hs7;clear hs7;go_loopw [11] (fun sj wr=>∃j:Nat,j≤n∧sj=.int .i64 j∧Own 3 encI 1 wr g0 (some ⟨g0,0,none⟩) n (prt (fun _=>v) n j)∧Below g0 w wr) (fun sj _=>n-(RowKit.intOf sj).toNat)
 case atStart=>exact⟨0,Nat.zero_le _,rfl,hown,hb7⟩
 case round=>
  clear hown hb7;obtain⟨j,hj,rfl,hown,hb7⟩:=hrel;have i1:(0:Int)≤(j:Int):=by omega
  by_cases hi:j<n
  ·have c0:=hown.cells encI_ok rfl (i:=j) (prt_at (fun _=>v) hi) (j:=0) rfl;have fz:=hown.frozen rfl j;have HS:Hid (Own 3 encI 1 (wr.setCell ⟨g0,j,none⟩ (.int .i64 v)) g0 (some ⟨g0,0,none⟩) n (prt (fun _=>v) n (j+1))):=hid (by
    have:=hown.stored encI_ok rfl (prt_at (fun _=>v) hi) (j:=0) (u:=.int .i64 v) (y:=v) (by omega) rfl
    rw[prt_set (fun _=>v) hi]at this;simpa using this)
   have HBL:Hid (Below g0 w (wr.setCell ⟨g0,j,none⟩ (.int .i64 v))):=hid (hb7.setCell (p:=⟨g0,j,none⟩) (Nat.le_refl _) _);simp only[Nat.mul_one,Nat.add_zero]at c0;have i2:(j:Int)<(n:Int):=by omega
   have HI:=hid hi;clear hown hb7;go_wp2_with fail
   go_roundw
   case rel=>exact⟨j+1,HI.out,by go_num,HS.out,HBL.out⟩
   case measure=>have:=HI.out;simp[RowKit.intOf];omega
  ·obtain rfl:j=n:=by omega
   rw[rep_prt]at hown;have HO:Hid (Own 3 encI 1 wr w.heap.size (some ⟨g0,0,none⟩) j (List.replicate j v)):=hid (by rw[HG0.out];exact hown);have HB:Hid (Below w.heap.size w wr):=hid (by rw[HG0.out];exact hb7);rw[←HG0.out]at HO;clear hown hb7;go_wp2_with fail
   go_ret;exact⟨_,_,rfl,by rw[←HG0.out];exact HO.out,HB.out⟩
def costL (C:Nat→Nat→Int)(n k:Nat):List (List Int):=(List.range n).map fun i=>(List.range k).map (C i)
theorem costL_succ (C:Nat→Nat→Int)(i k:Nat):costL C (i+1) k=costL C i k++[(List.range k).map (C i)]:=by unfold costL;rw[List.range_succ,List.map_append];rfl
structure MRd (m:M)(w:World)(cA:Option Addr)(gs:List (Gp Int))(rA lA:Option Addr):Prop where
 cost:vals gs=m.cost
 rows:RdG encI 1 w w.heap.size cA gs
 row:Rd encI 1 w w.heap.size rA m.row
 col:Rd encI 1 w w.heap.size lA m.col
theorem MRd.st {m:M}{w w':World}{cA rA lA:Option Addr}{gs:List (Gp Int)}(h:MRd m w cA gs rA lA)(hb:Below w.heap.size w w'):MRd m w' cA gs rA lA:=⟨h.cost,h.rows.st hb,h.row.st hb,h.col.st hb⟩
structure MOwn (m:M)(w:World)(base:Nat)(cA:Option Addr)(cc:Nat)(gs:List (Gp Int))(rA:Option Addr)(rc:Nat)(lA:Option Addr)(lc:Nat):Prop where
 cost:vals gs=m.cost
 rows:OwnG 33 3 encI 1 w base cA cc gs
 row:Own 3 encI 1 w base rA rc m.row
 col:Own 3 encI 1 w base lA lc m.col
theorem MOwn.rd {m:M}{w:World}{base cc rc lc:Nat}{cA rA lA:Option Addr}{gs:List (Gp Int)}(h:MOwn m w base cA cc gs rA rc lA lc):MRd m w cA gs rA lA:=⟨h.cost,h.rows.rd encI_ok,h.row.rd encI_ok,h.col.rd encI_ok⟩
theorem MOwn.keepW {m:M}{w w':World}{base cc rc lc:Nat}{cA rA lA:Option Addr}{gs:List (Gp Int)}(h:MOwn m w base cA cc gs rA rc lA lc)(hk:∀b,base≤b→w'.heap[b]? =w.heap[b]?):MOwn m w' base cA cc gs rA rc lA lc:=
 ⟨h.cost,⟨h.rows.out.keepB fun g hg hgl=>hk g (h.rows.out.lt2 hg).1,fun g hg=>(h.rows.ins g hg).keepB fun b hb hbl=>hk b ((h.rows.ins g hg).lt2 hb).1,h.rows.ap⟩,h.row.keepB fun g hg hgl=>hk g (h.row.lt2 hg).1,h.col.keepB fun g hg hgl=>hk g (h.col.lt2 hg).1⟩
theorem MOwn.mono {m:M}{w:World}{base b cc rc lc:Nat}{cA rA lA:Option Addr}{gs:List (Gp Int)}(h:MOwn m w base cA cc gs rA rc lA lc)(hb:b≤base):MOwn m w b cA cc gs rA rc lA lc:=⟨h.cost,h.rows.mono hb,h.row.mono hb,h.col.mono hb⟩
def probM (C:Nat→Nat→Int)(n k:Nat)(v:Int):M:=⟨List.replicate n v,List.replicate k v,costL C n k⟩
theorem problem_any (n k:Nat)(v:Int)(C:Nat→Nat→Int)(g:Nat)(lb:Array Value)(eg:∀args w,(callFunc g args).run Tryz.prog w=.ok (.enter g args) w)(hn:n≤100)(hk:k≤100){w:World}
  (hp:∀W,Below w.heap.size w W→∀i j,i<n→j<k→Calls Tryz.prog g (#[.int .i64 (i:Nat),.int .i64 (j:Nat)]++lb) W fun e W'=>e=.returned (.int .i64 (C i j))∧Below W.heap.size W W'):
  Calls Tryz.prog 138 #[.int .i64 n,.int .i64 k,.int .i64 v,.func (.func g) #[] lb] w fun e w'=>∃cA cc gs rA rc lA lc,e=.returned (.agg #[.slice cA n cc,.slice rA n rc,.slice lA k lc])∧MOwn (probM C n k v) w' w.heap.size cA cc gs rA rc lA lc∧Below w.heap.size w w':=by
 have HP:=hid hp;have EG:=hid eg;have CN:=hid (fun(X:World)=>const_any n v (by omega) X);have CK:=hid (fun(X:World)=>const_any k v (by omega) X);obtain⟨Y,hY⟩:∃Y,w.alloc (.cells #[.slice none 0 0,.slice none 0 0,.slice none 0 0] 130)=Y:=⟨_,rfl⟩;have hbY:Below w.heap.size w Y:=by rw[←hY];exact(Below.refl _ w).al _
 have hsY:Y.heap.size=w.heap.size+1:=by rw[←hY];simp
 have HB8:Hid (Blk Y w.heap.size #[.slice none 0 0,.slice none 0 0,.slice none 0 0] 130):=hid (by rw[←hY];exact Blk.new w _ _);have HBY:=hid hbY;have HSY:=hid hsY;clear hp eg hbY;go_enter Tryz.func138,Tryz.ntmps138;go_wp2_with fail
 refine(CN.out _).mono ?_;rintro e w2 ⟨rA,rc,rfl,hro,hb2⟩;have HRO:=hid hro;have HB2:=hid hb2;clear hro hb2;go_wp2_with fail
 refine(CK.out _).mono ?_;rintro e w3 ⟨lA,lc,rfl,hlo,hb3⟩;have hlo':=hlo;have HLX:=hid hlo;have HLO:=hid hlo;have HB3:=hid (HBY.out.st (HB2.out.st hb3));have HRO3:=hid (HRO.out.keep hb3 (Nat.le_refl _));have H83:=hid ((HB8.out.below HB2.out HB8.out.lt).below hb3 (HB8.out.below HB2.out HB8.out.lt).lt);obtain⟨mb,hmb⟩:∃mb,w3.heap.size=mb:=⟨_,rfl⟩;have HMB:=hid hmb;obtain⟨V,hV⟩:∃V,w3.alloc (.cells #[.slice none 0 0,.slice rA n rc,.slice lA k lc] 130)=V:=⟨_,rfl⟩;have HVB:Hid (Blk V mb #[.slice none 0 0,.slice rA n rc,.slice lA k lc] 130):=hid (by rw[←hV,←hmb];exact Blk.new w3 _ _);have HVW:Hid (Below mb w3 V):=hid (by rw[←hV,←hmb];exact(Below.refl _ w3).al _);have HVS:Hid (V.heap.size=mb+1):=hid (by rw[←hV,←hmb];simp);clear hlo hb3 HLO;have HLO:Hid (Rd encI 1 w3 mb lA (List.replicate k v)):=hid (by rw[←hmb];exact hlo'.rd encI_ok);go_wp2_with fail
 go_loopw [21] (fun si wx=>∃(i:Nat) (A:Option Addr) (c:Nat) (gs:List (Gp Int)),i≤n∧si=.int .i64 i∧gs.length=i∧Hid (Blk wx mb #[.slice A gs.length c,.slice rA n rc,.slice lA k lc] 130)∧Hid (vals gs=costL C i k)∧Hid (OwnG 33 3 encI 1 wx (mb+1) A c gs)∧Hid (Below mb w3 wx)) (fun si _=>n-(RowKit.intOf si).toNat)
 case atStart=>exact⟨0,none,0,[],Nat.zero_le _,rfl,rfl,HVB,rfl,OwnG.nil _ _,HVW.out⟩
 case round=>
  obtain⟨wo,hwo⟩:∃wo,wo=wr:=⟨_,rfl⟩;obtain⟨i,A,c,gs,hi,rfl,hgl,HX,HV,HO,HB⟩:=hrel;rw[←hwo]at HX HO HB ⊢;clear hwo;have HGL:=hid hgl;clear hgl;have i1:(0:Int)≤(i:Int):=by omega
  have HSW:Hid (mb+1≤wo.heap.size):=hid (by have:=HX.out.lt;omega);by_cases hin:i<n
  ·have HIN:=hid hin;have i2:(i:Int)<(n:Int):=by omega
   obtain⟨g1,hg1⟩:∃g,wo.heap.size=g:=⟨_,rfl⟩;have HG1:=hid hg1;have CC:=hid (fun(W:World) (hW:Below w3.heap.size w3 W) (j:Nat) (hj:j<k)=>HP.out W (HB3.out.st hW) i j hin hj);have eg:=EG.out;have HVS2:=HVS;clear hi hin;go_wp2_with(refine wpList_makeZ rfl (.tmp 24) (.tmp 24) tyI encI_ok rfl wo.heap.size 0 (.int .i64 0) (by kernel_rfl) rfl .i64 .i64 k rfl rfl (by omega) (by omega) (Nat.le_refl _) ?_;intro w8 hown hb8 hs8;rw[HG1.out]at hown hb8 hs8 ⊢;rw[prt_zero (C i)]at hown;have HS:=hid hown;have HBL:=hid hb8;clear hown hb8 hs8)
   go_loopw [28] (fun sj wx=>∃j:Nat,j≤k∧sj=.int .i64 j∧Hid (Own 3 encI 1 wx g1 (some ⟨g1,0,none⟩) k (prt (C i) k j))∧Hid (Below g1 wo wx)) (fun sj _=>k-(RowKit.intOf sj).toNat)
   case atStart=>exact⟨0,Nat.zero_le _,rfl,HS,HBL⟩
   case round=>
    clear HS HBL;obtain⟨j,hj,rfl,HS,HBL⟩:=hrel;have j1:(0:Int)≤(j:Int):=by omega
    by_cases hjk:j<k
    ·have HJK:=hid hjk;have j2:(j:Int)<(k:Int):=by omega
     have CJ:=hid (CC.out wr (by rw[HMB.out];exact HB.out.trans (HBL.out.mono (by have:=HG1.out;have:=HSW.out;omega))) j hjk);clear hj hjk;go_wp2_with fail
     refine CJ.out.mono ?_;rintro e w9 ⟨rfl,hb9⟩;have hown:=HS.out.keep hb9 (Nat.le_refl _);have hbl:=HBL.out.trans (hb9.mono (by have:=HBL.out.size;have:=HG1.out;omega));have c0:=hown.cells encI_ok rfl (i:=j) (prt_at (C i) HJK.out) (j:=0) rfl;have fz:=hown.frozen rfl j;have HS2:Hid (Own 3 encI 1 (w9.setCell ⟨g1,j,none⟩ (.int .i64 (C i j))) g1 (some ⟨g1,0,none⟩) k (prt (C i) k (j+1))):=hid (by
      have:=hown.stored encI_ok rfl (prt_at (C i) HJK.out) (j:=0) (u:=.int .i64 (C i j)) (y:=C i j) (by omega) rfl
      rw[prt_set (C i) HJK.out]at this;simpa using this)
     have HBL2:Hid (Below g1 wo (w9.setCell ⟨g1,j,none⟩ (.int .i64 (C i j)))):=hid (hbl.setCell (p:=⟨g1,j,none⟩) (Nat.le_refl _) _);simp only[Nat.mul_one,Nat.add_zero]at c0;clear hown hbl hb9 CJ HS HBL;go_wp2_with fail
     go_roundw
     case rel=>exact⟨j+1,HJK.out,by go_num,HS2,HBL2⟩
     case measure=>have:=HJK.out;simp[RowKit.intOf];omega
    ·obtain rfl:j=k:=by omega
     have hown:=HS.out;rw[prt_full]at hown;obtain⟨rw_,hrw⟩:∃r,(List.range j).map (C i)=r:=⟨_,rfl⟩;have HRL:=hid (show rw_.length=j by rw[←hrw];simp);rw[hrw]at hown;have HRW:=hid (show costL C (i+1) j=costL C i j++[rw_] by rw[costL_succ,hrw]);have hX2:Blk wr mb #[.slice A gs.length c,.slice rA n rc,.slice lA j lc] 130:=HX.out.below HBL.out (by have:=HG1.out;have:=HX.out.lt;omega);have HO2:=HO.out.keep HBL.out (by have:=HG1.out;omega);have HB2:=HB.out.trans (HBL.out.mono (by have:=HG1.out;have:=HSW.out;omega));have hbs:mb+1≤wr.heap.size:=by have:=hX2.lt;omega
     have HOW:=hid (hown.mono (show mb+1≤g1 by have:=HG1.out;have:=HSW.out;omega));have HAP:Hid (∀g'∈gs,Ap g'.A (some ⟨g1,0,none⟩)):=hid (fun g' hg' x hx e=>by
      have:=(HO.out.ins g' hg').lt2 hx
      have:=HG1.out
      injection e with e;injection e with e;omega)
     have x0:=hX2.cell 0 (v:=.slice A gs.length c) rfl;have hgl2:gs.length≤100:=by have:=HGL.out;have:=HIN.out;omega
     have HX2:=hid hX2;have HB2:=hid HB2;clear hown hX2 hrw hj hjk;have hcs:(#[Value.slice (some ⟨g1,0,none⟩) j j]:Array Value).toList=encG (⟨some ⟨g1,0,none⟩,j,rw_⟩:Gp Int):=by unfold encG;rw[HRL.out]
     have HCS:=hid hcs;clear hcs;go_wp2_with((at_builtin;refine wpList_app1b rfl (.tmp 40) (.tmp 42) tyII encG_ok rfl (⟨some ⟨g1,0,none⟩,j,rw_⟩:Gp Int) HCS.out _ rfl (by simp) HO2.out rfl (by first|rfl|assumption|simp) (by first|omega|(simp;omega)) (by first|omega|(simp;omega)) hbs ?_;intro A7 c7 w7 hown7 hb7 hs7 hf7);have y0:=(HX2.out.below hb7 (Nat.lt_succ_self mb)).cell 0 (v:=.slice A gs.length c) rfl;have z0:=(HX2.out.below hb7 (Nat.lt_succ_self mb)).frozen 0)
     have HP:=HO2.push ine (g:=⟨some ⟨g1,0,none⟩,j,rw_⟩) HOW.out HAP.out hown7 hf7;have hX7:=HX2.out.below hb7 (Nat.lt_succ_self mb);obtain⟨V2,hV2⟩:∃V2,w7.setCell ⟨mb,0,none⟩ (.slice A7 (gs.length+1) c7)=V2:=⟨_,rfl⟩;have HX8:Hid (Blk V2 mb #[.slice A7 (gs++[(⟨some ⟨g1,0,none⟩,j,rw_⟩:Gp Int)]).length c7,.slice rA n rc,.slice lA j lc] 130):=hid (by
      rw[←hV2];have:=hX7.set 0 (.slice A7 (gs.length+1) c7);simpa using this)
     have hV4:∀b,b≠mb→V2.heap[b]? =w7.heap[b]? :=fun b hb=>by rw[←hV2];exact setCell_other w7 ⟨mb,0,none⟩ _ hb
     have HO8:Hid (OwnG 33 3 encI 1 V2 (mb+1) A7 c7 (gs++[(⟨some ⟨g1,0,none⟩,j,rw_⟩:Gp Int)])):=hid ⟨HP.out.keepB fun g hg hgl=>hV4 g (by have:=(HP.out.lt2 hg).1;omega),fun g hg=>(HP.ins g hg).keepB fun b hb hbl=>hV4 b (by have:=((HP.ins g hg).lt2 hb).1;omega),HP.ap⟩;have HB8':Hid (Below mb w3 V2):=hid (by rw[←hV2];exact(HB2.out.trans (hb7.mono (Nat.le_succ mb))).setCell (p:=⟨mb,0,none⟩) (Nat.le_refl _) _);have HVN:Hid (vals (gs++[(⟨some ⟨g1,0,none⟩,j,rw_⟩:Gp Int)])=costL C (i+1) j):=hid (by rw[HRW.out,←HV.out];unfold vals;rw[List.map_append];rfl);rw[hV2];clear hX7 hV4 hown7 hb7 hs7 hf7 y0 z0 hV2 HP x0;go_roundw
     case rel=>exact⟨i+1,A7,c7,gs++[(⟨some ⟨g1,0,none⟩,j,rw_⟩:Gp Int)],HIN.out,by go_num,by rw[List.length_append,HGL.out];rfl,HX8,HVN,HO8,HB8'⟩
     case measure=>have:=HIN.out;simp[RowKit.intOf];omega
  ·obtain rfl:i=n:=by omega
   have hX:=HX.out;have hmbw:w.heap.size<mb:=by have:=H83.out.lt;have:=HMB.out;omega
   have h8:Blk wo w.heap.size #[.slice none 0 0,.slice none 0 0,.slice none 0 0] 130:=H83.out.below HB.out hmbw;have q0:=h8.cell 0 (v:=.slice none 0 0) rfl;have q1:=h8.cell 1 (v:=.slice none 0 0) rfl;have q2:=h8.cell 2 (v:=.slice none 0 0) rfl;have f0:=h8.frozen 0;have f1:=h8.frozen 1;have f2:=h8.frozen 2;have HMW:=hid hmbw;have H8:=hid h8;clear hmbw h8 hin hi hX;go_wp2_with(first|(refine wpList_boxLoad rfl (ty:=130) (x:=.tmp 9) (cs:=#[.slice A gs.length c,.slice rA i rc,.slice lA k lc]) rfl HX.out rfl ⟨_,Tryz.underlying130,by kernel_rfl⟩ ?_))
   have h9:Blk (((wo.setCell ⟨w.heap.size,0,none⟩ (.slice A gs.length c)).setCell ⟨w.heap.size,1,none⟩ (.slice rA i rc)).setCell ⟨w.heap.size,2,none⟩ (.slice lA k lc)) w.heap.size #[.slice A gs.length c,.slice rA i rc,.slice lA k lc] 130:=(((H8.out.set 0 _).set 1 _).set 2 _);obtain⟨V9,hV9⟩:∃V,((wo.setCell ⟨w.heap.size,0,none⟩ (.slice A gs.length c)).setCell ⟨w.heap.size,1,none⟩ (.slice rA i rc)).setCell ⟨w.heap.size,2,none⟩ (.slice lA k lc)=V:=⟨_,rfl⟩;have hoth:∀b,b≠w.heap.size→V9.heap[b]? =wo.heap[b]? :=fun b hb=>by
    rw[←hV9,setCell_other _ ⟨w.heap.size,2,none⟩ _ hb,setCell_other _ ⟨w.heap.size,1,none⟩ _ hb,setCell_other _ ⟨w.heap.size,0,none⟩ _ hb]
   have hsz9:V9.heap.size=wo.heap.size:=by rw[←hV9];simp
   have hb9:Below w.heap.size w V9:=by
    rw[←hV9];exact((((HB3.out.trans (HB.out.mono (Nat.le_of_lt HMW.out))).setCell (p:=⟨w.heap.size,0,none⟩) (Nat.le_refl _) _).setCell (p:=⟨w.heap.size,1,none⟩) (Nat.le_refl _) _).setCell (p:=⟨w.heap.size,2,none⟩) (Nat.le_refl _) _)
   rw[hV9]at h9 ⊢;have e0:=h9.cell 0 (v:=.slice A gs.length c) rfl;have e1:=h9.cell 1 (v:=.slice rA i rc) rfl;have e2:=h9.cell 2 (v:=.slice lA k lc) rfl;refine bodyPost_ret (v:=.agg #[.slice A gs.length c,.slice rA i rc,.slice lA k lc]) (by simp[results,Tryz.results138,go_sem,e0,e1,e2]) rfl ?_;have HBW0:w.heap.size≤wo.heap.size:=by have:=hb9.size;omega
   have hl3:=HLX.out.keep HB.out (by have:=HMB.out;omega);have hr3:=HRO3.out.keep HB.out (by have:=HMB.out;omega);refine⟨A,c,gs,rA,rc,lA,lc,by rw[HGL.out],⟨HV.out,⟨(HO.out.out.keepB fun g hg hgl=>hoth g (by have:=(HO.out.out.lt2 hg).1;have:=HMW.out;omega)).mono (by have:=HMW.out;omega),fun g hg=>((HO.out.ins g hg).keepB fun b hb hbl=>hoth b (by have:=((HO.out.ins g hg).lt2 hb).1;have:=HMW.out;omega)).mono (by have:=HMW.out;omega),HO.out.ap⟩,?_,?_⟩,hb9⟩
   ·exact(hr3.keepB (w':=V9) fun g hg hgl=>hoth g (by have:=(hr3.lt2 hg).1;have:=HSY.out;omega)).mono (by have:=HSY.out;omega)
   ·exact(hl3.keepB (w':=V9) fun g hg hgl=>hoth g (by have:=(hl3.lt2 hg).1;have:=HB2.out.size;have:=HSY.out;omega)).mono (by have:=HB2.out.size;have:=HSY.out;omega)
end
section
open Go.RowKit Go.Lib Go.Sort
open Mat
theorem tyRjS:TyS Tryz.prog 52 88 8 88:=TyS.mk' (z:=.agg #[.string ⟨#[]⟩,.int .i64 0,.int .i64 0,.string ⟨#[]⟩,.string ⟨#[]⟩,.int .i64 0,.int .i64 0,.int .i64 0]) Tryz.underlying52 (by kernel_rfl) rfl (by omega)
theorem rejsV_snoc (why:Int)(l:List Sn)(s:Sn):rejsV why (l++[s])=rejsV why l++[⟨s.d,why⟩]:=by unfold rejsV;rw[List.map_append];rfl
theorem rejsV_len (why:Int)(l:List Sn):(rejsV why l).length=l.length:=by unfold rejsV;rw[List.length_map]
theorem take_succ' {l:List Sn}{t:Nat}{x:Sn}(h:l[t]? =some x):l.take (t+1)=l.take t++[x]:=by rw[List.take_add_one,h];rfl
theorem rejAll_any {A:Option Addr}(c:Nat){l:List Sn}(why:Int)(hl:l.length≤1000){w:World}(hR:Rd encSn 11 w w.heap.size A l):
  Calls Tryz.prog 50 #[.slice A l.length c,.int .i64 why] w fun e w'=>∃A' c',e=.returned (.slice A' (rejsV why l).length c')∧Own 88 encRj 8 w' w.heap.size A' c' (rejsV why l)∧Below w.heap.size w w':=by
 have HR:=hid hR;obtain⟨n,hn⟩:∃n,l.length=n:=⟨_,rfl⟩;have HN:=hid hn;rw[hn]at hl ⊢;clear hR hn;go_enter Tryz.func50,Tryz.ntmps50;go_wp2_with fail
 go_loopw [5,10] (fun s5 sj wx=>∃(j:Nat) (A':Option Addr) (c':Nat) (rs:List Rj),j≤n∧sj=.int .i64 j∧s5=.slice A' rs.length c'∧Hid (rs=rejsV why (l.take j))∧Hid (Own 88 encRj 8 wx w.heap.size A' c' rs)∧Hid (Below w.heap.size w wx)) (fun _ sj _=>n-(RowKit.intOf sj).toNat)
 case atStart=>exact⟨0,none,0,[],Nat.zero_le _,rfl,rfl,rfl,Own.nil _ _,Below.refl _ _⟩
 case round=>
  obtain⟨j,A9,c9,rs,hj,rfl,rfl,HV,HO,HB⟩:=hrel;have j0:(0:Int)≤(j:Int):=by omega
  by_cases hi:j<n
  ·obtain⟨b,off,x,rfl,hbl,hx,hc⟩:=(HR.out.st HB.out).at_ (i:=j) (by rw[HN.out];exact hi);have HI:=hid hi;have HST:Hid (rejsV why (l.take (j+1))=rejsV why (l.take j)++[⟨x.d,why⟩]):=hid (by rw[take_succ' hx,rejsV_snoc]);have hrl:rs.length≤1000:=by rw[HV.out,rejsV_len,List.length_take];omega
   have j1:(j:Int)<(n:Int):=by omega
   have j2:decide (j<n)=true:=decide_eq_true hi;obtain⟨⟨s1,s2,s3,s4,s5,s6,s7⟩,s8,s9,s10,s11⟩:=x;have e0:wr.cell? ⟨b,off+j*11,none⟩=some (.string s1):=by simpa using hc 0 _ rfl
   have e1:wr.cell? ⟨b,off+j*11+1,none⟩=some (.int .i64 s2):=hc 1 _ rfl;have e2:wr.cell? ⟨b,off+j*11+2,none⟩=some (.int .i64 s3):=hc 2 _ rfl;have e3:wr.cell? ⟨b,off+j*11+3,none⟩=some (.string s4):=hc 3 _ rfl;have e4:wr.cell? ⟨b,off+j*11+4,none⟩=some (.string s5):=hc 4 _ rfl;have e5:wr.cell? ⟨b,off+j*11+5,none⟩=some (.int .i64 s6):=hc 5 _ rfl;have e6:wr.cell? ⟨b,off+j*11+6,none⟩=some (.int .i64 s7):=hc 6 _ rfl;have e7:wr.cell? ⟨b,off+j*11+7,none⟩=some (.int .i64 s8):=hc 7 _ rfl;have e8:wr.cell? ⟨b,off+j*11+8,none⟩=some (.string s9):=hc 8 _ rfl;have e9:wr.cell? ⟨b,off+j*11+9,none⟩=some (.int .i64 s10):=hc 9 _ rfl;have e10:wr.cell? ⟨b,off+j*11+10,none⟩=some (.int .i64 s11):=hc 10 _ rfl;obtain⟨Y,hY⟩:∃Y,wr.alloc (.cells #[.string s1,.int .i64 s2,.int .i64 s3,.string s4,.string s5,.int .i64 s6,.int .i64 s7,.int .i64 s8,.string s9,.int .i64 s10,.int .i64 s11] 84)=Y:=⟨_,rfl⟩;have hB5:Blk Y wr.heap.size #[.string s1,.int .i64 s2,.int .i64 s3,.string s4,.string s5,.int .i64 s6,.int .i64 s7,.int .i64 s8,.string s9,.int .i64 s10,.int .i64 s11] 84:=by rw[←hY];exact Blk.new wr _ _
   have HBY:Hid (Below w.heap.size w Y):=hid (by rw[←hY];exact HB.out.al _);have HOY:Hid (Own 88 encRj 8 Y w.heap.size A9 c9 rs):=hid (by rw[←hY];exact HO.out.alloc _);have f0:=hB5.cell 0 (v:=.string s1) rfl;have f1:=hB5.cell 1 (v:=.int .i64 s2) rfl;have f2:=hB5.cell 2 (v:=.int .i64 s3) rfl;have f3:=hB5.cell 3 (v:=.string s4) rfl;have f4:=hB5.cell 4 (v:=.string s5) rfl;have f5:=hB5.cell 5 (v:=.int .i64 s6) rfl;have f6:=hB5.cell 6 (v:=.int .i64 s7) rfl;have hbs:w.heap.size≤Y.heap.size:=HBY.out.size;clear hc hbl hx hi hj hB5;go_wp2_with((at_builtin;refine wpList_app1b rfl (.tmp 14) (.tmp 19) tyRjS encRj_ok rfl (⟨⟨s1,s2,s3,s4,s5,s6,s7⟩,why⟩:Rj) rfl _ rfl (by simp) HOY.out rfl (by first|rfl|assumption|simp) (by first|omega|(simp;omega)) (by first|omega|(simp;omega)) hbs ?_;intro A7 c7 w7 hown7 hb7 hs7 hf7;have hbel7:=(HBY.out).trans hb7))
   have HO7:=hid hown7;have HB7:=hid hbel7;clear hown7 hbel7 hb7 hs7 hf7;go_roundw
   case rel=>exact⟨j+1,A7,c7,_,HI.out,by go_num,by simp,by show _=_;rw[HST.out,←HV.out],HO7,HB7⟩
   case measure=>have:=HI.out;simp[RowKit.intOf];omega
  ·obtain rfl:j=n:=by omega
   have HE:Hid (rs=rejsV why l):=hid (by rw[HV.out,List.take_of_length_le (Nat.le_of_eq HN.out)]);clear hi hj;go_wp2_with fail
   go_ret;refine⟨A9,c9,by rw[←HE.out];rfl,by rw[←HE.out];exact HO.out,HB.out⟩
theorem ident_any (tag pl:ByteArray)(r0 i1 p2 t3 c6 s7 q8 l9:Value)(w:World):
  Calls Tryz.prog 53 #[.agg #[r0,i1,p2,t3,.string tag,.string pl,c6,s7,q8,l9]] w fun e w'=>e=.returned (.bool (!(emp tag)|| !(emp pl)))∧Below w.heap.size w w':=by
 cases g1:emp tag
 ·obtain⟨e1,e2,e3⟩:=toList_neE g1;go_enter Tryz.func53,Tryz.ntmps53;go_wp2_with fail
  go_ret;exact⟨rfl,(Below.refl _ w).al _⟩
 ·obtain⟨e1,e2,e3⟩:=toList_eE g1;cases g2:emp pl
  ·obtain⟨a1,a2,a3⟩:=toList_neE g2;go_enter Tryz.func53,Tryz.ntmps53;go_wp2_with fail
   go_ret;exact⟨rfl,(Below.refl _ w).al _⟩
  ·obtain⟨a1,a2,a3⟩:=toList_eE g2;go_enter Tryz.func53,Tryz.ntmps53;go_wp2_with fail
   go_ret;exact⟨rfl,(Below.refl _ w).al _⟩
end
end Go.Proofs.YtimffppffbideaaGreatDoor
