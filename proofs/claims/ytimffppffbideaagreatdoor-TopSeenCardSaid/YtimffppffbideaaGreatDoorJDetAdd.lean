import Derived.Test.YtimffppffbideaaGreatDoorJDetRCon
import Derived.Deep.DeepAppendWide
set_option linter.unusedSimpArgs false
set_option linter.unusedVariables false
set_option maxRecDepth 100000
set_option maxHeartbeats 16000000
namespace Go.Proofs.YtimffppffbideaaGreatDoor
section
open Go.RowKit Go.Lib
def addD (S:List Sn)(R:List Rj)(d:Dt):List Dt:=d::(S.map Sn.d++R.map Rj.d)
theorem addD_len (S:List Sn)(R:List Rj)(d:Dt):(addD S R d).length=S.length+R.length+1:=by simp[addD]
theorem SiftR.from {l:List Dv}{ds:List Dt}{w w1 w':World}{e:Ending}(hb:Below w.heap.size w w1)(h:SiftR l ds w1 e w'):SiftR l ds w e w':=by
 obtain⟨S,R,As,Ar,cs,cr,h1,h2,h3,h4,h5,h6,h7⟩:=h;exact⟨S,R,As,Ar,cs,cr,h1,h2,h3,h4,h5,h6,hb.st h7⟩
def add1 (S:List Sn)(d:Dt)(k:Nat):List Dt:=d::(S.take k).map Sn.d
def add2 (S:List Sn)(R:List Rj)(d:Dt)(k:Nat):List Dt:=d::(S.map Sn.d++(R.take k).map Rj.d)
theorem add1_len {S:List Sn}{d:Dt}{k:Nat}(h:k≤S.length):(add1 S d k).length=k+1:=by simp[add1];omega
theorem add2_len {S:List Sn}{R:List Rj}{d:Dt}{k:Nat}(h:k≤R.length):(add2 S R d k).length=S.length+k+1:=by simp[add2];omega
theorem add1_snoc {S:List Sn}{d:Dt}{k:Nat}{s:Sn}(h:S[k]? =some s):add1 S d (k+1)=add1 S d k++[s.d]:=by unfold add1;rw[take_snoc h];simp
theorem add2_snoc {S:List Sn}{R:List Rj}{d:Dt}{k:Nat}{s:Rj}(h:R[k]? =some s):add2 S R d (k+1)=add2 S R d k++[s.d]:=by unfold add2;rw[take_snoc h];simp
theorem add1_end (S:List Sn)(R:List Rj)(d:Dt):add1 S d S.length=add2 S R d 0:=by simp[add1,add2]
theorem add2_end (S:List Sn)(R:List Rj)(d:Dt):add2 S R d R.length=addD S R d:=by simp[add2,addD]
theorem add_any {A sA rA:Option Addr}(c sc_ rc:Nat){l:List Dv}{S:List Sn}{R:List Rj}(d:Dt){w:World}(h:Rd encD 6 w w.heap.size A l)(hz:DsOk w l)(hsm:∀y∈l,y.os.length≤100∧y.ds.length≤100)(hl:l.length≤1000)
  (hS:Rd encSn 11 w w.heap.size sA S) (hR:Rd encRj 8 w w.heap.size rA R) (hn:S.length+R.length≤999) (hsz:∀x∈addD S R d,SzD x) (hok:∀x∈addD S R d,SrcOk (srcOf x)):
  Calls Tryz.prog 12 #[.slice A l.length c,.slice sA S.length sc_,.slice rA R.length rc,DtV d] w fun e w'=>SiftR l (addD S R d) w e w':=by
 have CF:=hid (fun(X:World) (hX:Below w.heap.size w X) (B:Option Addr) (cb:Nat) (hd:Rd encDt 7 X X.heap.size B (addD S R d))=>sift_any c cb (h.st hX) (hz.st hX) hsm hl hd (by rw[addD_len];omega) hsz hok);have HS:=hid hS;have HR:=hid hR;clear h hz hsm hl hS hR hsz hok;have H1:=hid (fun(k:Nat) (s:Sn) (q:S[k]? =some s)=>add1_snoc (d:=d) q);have H2:=hid (fun(k:Nat) (s:Rj) (q:R[k]? =some s)=>add2_snoc (S:=S) (d:=d) q);have H3:=hid (add1_end S R d);have H4:=hid (add2_end S R d);have L1:=hid (fun(k:Nat) (q:k≤S.length)=>add1_len (d:=d) q);have L2:=hid (fun(k:Nat) (q:k≤R.length)=>add2_len (S:=S) (d:=d) q);have HAL:=hid (addD_len S R d);have hA0:add1 S d 0=[d]:=by simp[add1]
 generalize hqa:addD S R d=all at*;generalize hq1:add1 S d=f1 at*;generalize hq2:add2 S R d=f2 at*;clear hqa hq1 hq2;obtain⟨dev,seq,tm,tg,pl,ax,sc⟩:=d;simp only[DtV];obtain⟨Y1,hY1⟩:∃Y,w.alloc (.cells #[.string dev,.int .i64 seq,.int .i64 tm,.string tg,.string pl,.int .i64 ax,.int .i64 sc] 61)=Y:=⟨_,rfl⟩;have bW:Below w.heap.size w Y1:=by rw[←hY1];exact(Below.refl _ w).al _
 have BA:Blk Y1 w.heap.size #[.string dev,.int .i64 seq,.int .i64 tm,.string tg,.string pl,.int .i64 ax,.int .i64 sc] 61:=by rw[←hY1];exact Blk.new w _ _
 obtain⟨Y2,hY2⟩:∃Y,Y1.alloc (.cells #[.string dev,.int .i64 seq,.int .i64 tm,.string tg,.string pl,.int .i64 ax,.int .i64 sc] 61)=Y:=⟨_,rfl⟩;have bel:Below Y1.heap.size Y1 Y2:=by rw[←hY2];exact(Below.refl _ Y1).al _
 have hown:Own 61 encDt 7 Y2 Y1.heap.size (some ⟨Y1.heap.size,0,none⟩) 1 (f1 0):=by rw[hA0,←hY2];exact Own.lit Y1 Y1.heap.size _ encDt_ok rfl rfl (Nat.le_refl _) (by simp)
 have HO:=hid (And.intro hown (And.intro bel bW));have h01:(f1 0).length=1:=by rw[hA0];rfl
 have HH:=hid h01;clear hown bel bW hA0 h01;go_enter Tryz.func12,Tryz.ntmps12;go_wp2_with(refine wpList_boxLoad rfl (ty:=61) (x:=.tmp 7) (cs:=#[.string dev,.int .i64 seq,.int .i64 tm,.string tg,.string pl,.int .i64 ax,.int .i64 sc]) rfl BA rfl ⟨_,Tryz.underlying61,by kernel_rfl⟩ ?_)
 clear hY1 hY2 BA;go_loopw [10,19] (fun v i wr=>∃(k:Nat) (Ao:Option Addr) (co:Nat),k≤S.length∧i=.int .i64 k∧v=.slice Ao (f1 k).length co∧Own 61 encDt 7 wr Y1.heap.size Ao co (f1 k)∧Below Y1.heap.size Y1 wr) (fun _ i _=>S.length-(RowKit.intOf i).toNat)
 case atStart=>exact⟨0,_,_,Nat.zero_le _,rfl,by rw[HH.out],HO.out.1,HO.out.2.1⟩
 case round=>
  obtain⟨k,Ao,co,hk,rfl,rfl,hown,bel⟩:=hrel;by_cases hi:k<S.length
  ·obtain⟨b,off,s,hA,hb,hx,d0,d1,d2,d3,d4,d5,d6,d7,d8,d9,d10⟩:=(HS.out.st (HO.out.2.2.trans (bel.mono HO.out.2.2.size))).sn hi;have HN:=hid (H1.out k s hx);have HLk:=hid (show(f1 k).length≤1000 by have:=L1.out k hk;omega);have hi1:(0:Int)≤(k:Int):=by omega
   have hi2:(k:Int)<(S.length:Int):=by omega
   have HL:=hid hi;obtain⟨⟨y1,y2,y3,y4,y5,y6,y7⟩,yt,yp,yl,yk⟩:=s;simp only at d0 d1 d2 d3 d4 d5 d6 d7 d8 d9 d10 HN;subst hA;have hlk:=HLk.out;have hsz:=bel.size;obtain⟨Z,hZ⟩:∃Z,wr.alloc (.cells #[.string ⟨#[]⟩,.int .i64 0,.int .i64 0,.string ⟨#[]⟩,.string ⟨#[]⟩,.int .i64 0,.int .i64 0,.int .i64 0,.string ⟨#[]⟩,.int .i64 0,.int .i64 0] 84)=Z:=⟨_,rfl⟩;have bZ:Below wr.heap.size wr Z:=by rw[←hZ];exact(Below.refl _ wr).al _
   have BZ:Blk Z wr.heap.size #[.string ⟨#[]⟩,.int .i64 0,.int .i64 0,.string ⟨#[]⟩,.string ⟨#[]⟩,.int .i64 0,.int .i64 0,.int .i64 0,.string ⟨#[]⟩,.int .i64 0,.int .i64 0] 84:=by rw[←hZ];exact Blk.new wr _ _
   have HB0:=hid (And.intro hown bel);have HK:=hid hlk;clear hx hi hb hk hown bel hlk;go_wp2_with(first|(refine wpList_boxStore rfl (ty:=84) (x:=.tmp 12) (y:=.tmp 22) rfl BZ rfl rfl (by kernel_rfl) rfl (by kernel_rfl) ?_;intro wz BX hoz hbz;have b4:=hbz _ _ (Nat.le_refl _) bZ;have hown:=HB0.out.1.st b4;have bel:=HB0.out.2.st b4;have hlk:=HK.out;have u0:=BX.cell 0 (v:=.string y1) rfl;have u1:=BX.cell 1 (v:=.int .i64 y2) rfl;have u2:=BX.cell 2 (v:=.int .i64 y3) rfl;have u3:=BX.cell 3 (v:=.string y4) rfl;have u4:=BX.cell 4 (v:=.string y5) rfl;have u5:=BX.cell 5 (v:=.int .i64 y6) rfl;have u6:=BX.cell 6 (v:=.int .i64 y7) rfl;clear hoz hbz BZ bZ hZ d0 d1 d2 d3 d4 d5 d6 d7 d8 d9 d10 b4 BX)|((at_builtin;refine wpList_app1 rfl (.tmp 23) (.tmp 26) tyDt encDt_ok rfl (⟨y1,y2,y3,y4,y5,y6,y7⟩:Dt) rfl _ rfl (by simp) hown rfl (by first|rfl|simp) (by first|omega|(simp;omega)) (by first|omega|(simp;omega)) bel.size ?_;intro A9 c9 w9 hown9 hb9 hs9 hf9;have hbel9:=bel.trans hb9)))
   go_roundw
   case rel=>exact⟨k+1,A9,c9,HL.out,by go_num,by rw[HN.out];simp,by rw[HN.out];exact hown9,hbel9⟩
   case measure=>have:=HL.out;simp[RowKit.intOf];omega
  ·obtain rfl:k=S.length:=by omega
   obtain⟨wo,hwo⟩:∃wo,wo=wr:=⟨_,rfl⟩;rw[←hwo]at hown bel ⊢;clear hwo;have HO2:=hid (And.intro hown bel);clear hown bel hk;rw[H3.out]at HO2 ⊢;go_wp2_with fail
   go_loopw [10,31] (fun v i wx=>∃(k:Nat) (Ao:Option Addr) (co:Nat),k≤R.length∧i=.int .i64 k∧v=.slice Ao (f2 k).length co∧Own 61 encDt 7 wx Y1.heap.size Ao co (f2 k)∧Below Y1.heap.size Y1 wx) (fun _ i _=>R.length-(RowKit.intOf i).toNat)
   case atStart=>exact⟨0,_,_,Nat.zero_le _,rfl,rfl,HO2.out.1,HO2.out.2⟩
   case round=>
    obtain⟨k,Ao,co,hk,rfl,rfl,hown,bel⟩:=hrel;by_cases hi:k<R.length
    ·obtain⟨b,off,s,hA,hb,hx,d0,d1,d2,d3,d4,d5,d6,d7⟩:=(HR.out.st (HO.out.2.2.trans (bel.mono HO.out.2.2.size))).rj hi;have HN:=hid (H2.out k s hx);have HLk:=hid (show(f2 k).length≤1000 by have:=L2.out k hk;omega);have hi1:(0:Int)≤(k:Int):=by omega
     have hi2:(k:Int)<(R.length:Int):=by omega
     have HL:=hid hi;obtain⟨⟨y1,y2,y3,y4,y5,y6,y7⟩,yw⟩:=s;simp only at d0 d1 d2 d3 d4 d5 d6 d7 HN;subst hA;have hlk:=HLk.out;have hsz:=bel.size;obtain⟨Z,hZ⟩:∃Z,wr.alloc (.cells #[.string ⟨#[]⟩,.int .i64 0,.int .i64 0,.string ⟨#[]⟩,.string ⟨#[]⟩,.int .i64 0,.int .i64 0,.int .i64 0] 88)=Z:=⟨_,rfl⟩;have bZ:Below wr.heap.size wr Z:=by rw[←hZ];exact(Below.refl _ wr).al _
     have BZ:Blk Z wr.heap.size #[.string ⟨#[]⟩,.int .i64 0,.int .i64 0,.string ⟨#[]⟩,.string ⟨#[]⟩,.int .i64 0,.int .i64 0,.int .i64 0] 88:=by rw[←hZ];exact Blk.new wr _ _
     have HB0:=hid (And.intro hown bel);have HK:=hid hlk;clear hx hi hb hk hown bel hlk;go_wp2_with(first|(refine wpList_boxStore rfl (ty:=88) (x:=.tmp 14) (y:=.tmp 34) rfl BZ rfl rfl (by kernel_rfl) rfl (by kernel_rfl) ?_;intro wz BX hoz hbz;have b4:=hbz _ _ (Nat.le_refl _) bZ;have hown:=HB0.out.1.st b4;have bel:=HB0.out.2.st b4;have hlk:=HK.out;have u0:=BX.cell 0 (v:=.string y1) rfl;have u1:=BX.cell 1 (v:=.int .i64 y2) rfl;have u2:=BX.cell 2 (v:=.int .i64 y3) rfl;have u3:=BX.cell 3 (v:=.string y4) rfl;have u4:=BX.cell 4 (v:=.string y5) rfl;have u5:=BX.cell 5 (v:=.int .i64 y6) rfl;have u6:=BX.cell 6 (v:=.int .i64 y7) rfl;clear hoz hbz BZ bZ hZ d0 d1 d2 d3 d4 d5 d6 d7 b4 BX)|((at_builtin;refine wpList_app1 rfl (.tmp 35) (.tmp 38) tyDt encDt_ok rfl (⟨y1,y2,y3,y4,y5,y6,y7⟩:Dt) rfl _ rfl (by simp) hown rfl (by first|rfl|simp) (by first|omega|(simp;omega)) (by first|omega|(simp;omega)) bel.size ?_;intro A9 c9 w9 hown9 hb9 hs9 hf9;have hbel9:=bel.trans hb9)))
     go_roundw
     case rel=>exact⟨k+1,A9,c9,HL.out,by go_num,by rw[HN.out];simp,by rw[HN.out];exact hown9,hbel9⟩
     case measure=>have:=HL.out;simp[RowKit.intOf];omega
    ·obtain rfl:k=R.length:=by omega
     rw[H4.out]at hown ⊢;have bW2:=HO.out.2.2.trans (bel.mono HO.out.2.2.size);have HBW:=hid bW2;have CF1:=hid (CF.out _ bW2 _ co (hown.rd encDt_ok));clear hown bel hk CF bW2;go_wp2_with fail
     refine CF1.out.mono ?_;rintro e w5 ⟨S',R',As,Ar,cs,cr,hof,hl1,hl2,rfl,rs,rr,hb⟩;have HF:=hid (And.intro hof (And.intro hl1 (And.intro hl2 (And.intro rs (And.intro rr (HBW.out.st hb))))));clear hof hl1 hl2 rs rr hb CF1;go_wp2_with fail
     go_ret2;exact⟨S',R',As,Ar,cs,cr,HF.out.1,HF.out.2.1,HF.out.2.2.1,rfl,HF.out.2.2.2.1,HF.out.2.2.2.2.1,HF.out.2.2.2.2.2⟩
end
section
open Go.RowKit Go.Lib
section
variable {α:Type}{enc:α→List Value}{k:Nat}{A:Option Addr}{c:Nat}{l:List α}{P:Program}{t e bytes:Nat}
end
end
section
open Go.RowKit Go.Lib
def rawL (S:List Sn)(R:List Rj):List Dt:=S.map Sn.d++R.map Rj.d
def raw1 (S:List Sn)(k:Nat):List Dt:=(S.take k).map Sn.d
def raw2 (S:List Sn)(R:List Rj)(k:Nat):List Dt:=S.map Sn.d++(R.take k).map Rj.d
end
section
open Go.RowKit Go.Lib
abbrev sCam:ByteArray:=⟨#[99,97,109]⟩
abbrev sP:ByteArray:=⟨#[112]⟩
abbrev sX:ByteArray:=⟨#[120]⟩
abbrev sAB1:ByteArray:=⟨#[65,66,49]⟩
abbrev sAB2:ByteArray:=⟨#[65,66,50]⟩
abbrev s0:ByteArray:=⟨#[]⟩
def exCam:Dv:=⟨sCam,sP,2,2,none,0,[],none,0,[]⟩
def exD:Dt:=⟨sCam,1,100,s0,sAB1,0,900⟩
def exE:Dt:=⟨sCam,1,100,s0,sAB2,0,900⟩
def exF:Dt:=⟨sX,-1,100,s0,sAB1,0,900⟩
def exS:Sn:=⟨exD,100,sP,2,2⟩
def exR1:List Rj:=[⟨exF,1⟩]
def exR3:List Rj:=[⟨exD,4⟩,⟨exE,4⟩,⟨exF,1⟩]
end
section
open Go.RowKit Go.Lib
def awDev:Dv:=⟨⟨#[99,49]⟩,⟨#[112]⟩,2,1,none,0,[],none,0,[]⟩
def awD:Dt:=⟨⟨#[99,49]⟩,5,100,⟨#[]⟩,⟨#[65,66,49,50]⟩,0,1000⟩
def awS:Sn:=⟨awD,100,⟨#[112]⟩,1,2⟩
theorem awSift:siftN [awDev] [awD,awD] 2=([corS [awDev] awD],[]):=by kernel_rfl
theorem awOf {S:List Sn}{R:List Rj}(h:SiftOf [awDev] [awD,awD] S R):S=[corS [awDev] awD]∧R=[]:=by
 have:=siftN_all [awDev] [awD,awD]
 rw[show([awD,awD]:List Dt).length=2 from rfl,awSift]at this;exact SiftOf.eq (fun _=>Iff.rfl) h this
def awCf:Cf:=⟨[],[],0,0⟩
theorem awPsS:(allPs awCf [corS [awDev] awD]).map Pv.id=[⟨#[99,49,46,53]⟩]:=by kernel_rfl
theorem awRs:allRs awCf [corS [awDev] awD]=[]:=by kernel_rfl
theorem awSz:SzD awD:=by refine⟨?_,?_,?_⟩<;>decide
theorem awSrc:SrcOk (srcOf awD):=by refine⟨?_,?_⟩<;>decide+kernel
theorem awSn:∀x∈[corS [awDev] awD],SnOk x:=fun x hx=>by
 simp only[List.mem_singleton]at hx;subst hx;constructor<;>decide+kernel
end
section
open Go.RowKit Go.Lib Go.Sort
open Mat
theorem lens_any (v0 v1 v2 v3 v8 v9 v10 v11 v12 v13 v14 v15 v16 v17 v18 v19 v20 v21 v22 v23 v24:Value){kA gA:Option Addr}(kc gc:Nat){ks:List Cl}{gs:List Tg}(gap weak:Int)(w:World):
  Calls Tryz.prog 10 #[.agg #[v0,v1,v2,v3,.slice kA ks.length kc,.slice gA gs.length gc,.int .i64 gap,.int .i64 weak,v8,v9,v10,v11,v12,v13,v14,v15,v16,v17,v18,v19,v20,v21,v22,v23,v24]] w fun e w'=>e=.returned (.agg #[.slice none 0 0,.slice none 0 0,.slice none 0 0,.slice none 0 0,.slice kA ks.length kc,.slice gA gs.length gc,.int .i64 gap,.int .i64 weak,.slice none 0 0,.int .i64 0,.slice none 0 0,.slice none 0 0,.slice none 0 0,.slice none 0 0,.slice none 0 0,.slice none 0 0,.slice none 0 0,.slice none 0 0,.slice none 0 0,.slice none 0 0,.slice none 0 0,.slice none 0 0,.int .i64 0,.slice none 0 0,.string ⟨#[]⟩])∧Below w.heap.size w w':=by
 obtain⟨Y1,hY1⟩:∃Y,w.alloc (.cells #[v0,v1,v2,v3,.slice kA ks.length kc,.slice gA gs.length gc,.int .i64 gap,.int .i64 weak,v8,v9,v10,v11,v12,v13,v14,v15,v16,v17,v18,v19,v20,v21,v22,v23,v24] 46)=Y:=⟨_,rfl⟩;obtain⟨Y2,hY2⟩:∃Y,Y1.alloc (.cells #[.slice none 0 0,.slice none 0 0,.slice none 0 0,.slice none 0 0,.slice none 0 0,.slice none 0 0,.int .i64 0,.int .i64 0,.slice none 0 0,.int .i64 0,.slice none 0 0,.slice none 0 0,.slice none 0 0,.slice none 0 0,.slice none 0 0,.slice none 0 0,.slice none 0 0,.slice none 0 0,.slice none 0 0,.slice none 0 0,.slice none 0 0,.slice none 0 0,.int .i64 0,.slice none 0 0,.string ⟨#[]⟩] 46)=Y:=⟨_,rfl⟩;have s1:Y1.heap.size=w.heap.size+1:=by rw[←hY1];simp
 have b2:Below w.heap.size w Y2:=by rw[←hY2,←hY1];exact((Below.refl _ w).al _).al _
 have B1:Blk Y2 w.heap.size #[v0,v1,v2,v3,.slice kA ks.length kc,.slice gA gs.length gc,.int .i64 gap,.int .i64 weak,v8,v9,v10,v11,v12,v13,v14,v15,v16,v17,v18,v19,v20,v21,v22,v23,v24] 46:=by rw[←hY2,←hY1];exact(Blk.new w _ _).alloc _
 have B2:Blk Y2 (w.heap.size+1) #[.slice none 0 0,.slice none 0 0,.slice none 0 0,.slice none 0 0,.slice none 0 0,.slice none 0 0,.int .i64 0,.int .i64 0,.slice none 0 0,.int .i64 0,.slice none 0 0,.slice none 0 0,.slice none 0 0,.slice none 0 0,.slice none 0 0,.slice none 0 0,.slice none 0 0,.slice none 0 0,.slice none 0 0,.slice none 0 0,.slice none 0 0,.slice none 0 0,.int .i64 0,.slice none 0 0,.string ⟨#[]⟩] 46:=by rw[←s1,←hY2];exact Blk.new Y1 _ _
 have c4:=B1.cell 4 (v:=.slice kA ks.length kc) rfl;have c5:=B1.cell 5 (v:=.slice gA gs.length gc) rfl;have c6:=B1.cell 6 (v:=.int .i64 gap) rfl;have c7:=B1.cell 7 (v:=.int .i64 weak) rfl;have HB:=hid b2;have HZ:=hid B2;clear b2 B1 B2;go_enter Tryz.func10,Tryz.ntmps10;go_wp2_with(refine wpList_boxStore rfl (ty:=46) (x:=.tmp 2) (y:=.tmp 11) (cells:=#[.slice none 0 0,.slice none 0 0,.slice none 0 0,.slice none 0 0,.slice kA ks.length kc,.slice gA gs.length gc,.int .i64 gap,.int .i64 weak,.slice none 0 0,.int .i64 0,.slice none 0 0,.slice none 0 0,.slice none 0 0,.slice none 0 0,.slice none 0 0,.slice none 0 0,.slice none 0 0,.slice none 0 0,.slice none 0 0,.slice none 0 0,.slice none 0 0,.slice none 0 0,.int .i64 0,.slice none 0 0,.string ⟨#[]⟩]) rfl HZ.out rfl rfl (by kernel_rfl) rfl (by kernel_rfl) ?_;intro wz BZ hoz hbz)
 (try simp only[Exit.inBlock,Exit.then])
 refine bodyPost_ret (v:=.agg #[.slice none 0 0,.slice none 0 0,.slice none 0 0,.slice none 0 0,.slice kA ks.length kc,.slice gA gs.length gc,.int .i64 gap,.int .i64 weak,.slice none 0 0,.int .i64 0,.slice none 0 0,.slice none 0 0,.slice none 0 0,.slice none 0 0,.slice none 0 0,.slice none 0 0,.slice none 0 0,.slice none 0 0,.slice none 0 0,.slice none 0 0,.slice none 0 0,.slice none 0 0,.int .i64 0,.slice none 0 0,.string ⟨#[]⟩]) ?_ rfl ⟨rfl,hbz _ _ (Nat.le_succ _) HB.out⟩;exact results_box Tryz.results10 _ rfl BZ ⟨_,Tryz.underlying46,by kernel_rfl⟩
def RepOk (ds:List Dt):Prop:=∀d∈ds,d.dev.size≤30∧d.tag.size≤30∧d.pl.size≤30
def RepR (ds:List Dt)(most:Int)(e:Ending):Prop:=∃b:Bool,e=.returned (.bool b)∧(b=true→RepOk ds∧(ds.length:Int)≤most)
theorem reports_any {A:Option Addr}(c:Nat){ds:List Dt}(most:Int){w:World}(h:Rd encDt 7 w w.heap.size A ds)(hl:ds.length≤9223372036854775807):
  Calls Tryz.prog 6 #[.slice A ds.length c,.int .i64 most] w fun e w'=>RepR ds most e∧Below w.heap.size w w':=by
 have HR:=hid h;obtain⟨n,hn⟩:∃n,ds.length=n:=⟨_,rfl⟩;have HN:=hid hn;rw[hn]at hl ⊢;clear h hn;go_enter Tryz.func6,Tryz.ntmps6;go_wp2_with fail
 go_loopw [5] (fun sj wx=>∃j:Nat,j≤n∧sj=.int .i64 j∧Hid (RepOk (ds.take j))∧wx=w) (fun sj _=>n-(RowKit.intOf sj).toNat)
 case atStart=>exact⟨0,Nat.zero_le _,rfl,(fun d h=>by simp at h),rfl⟩
 case round=>
  obtain⟨j,hj,rfl,HQ,rfl⟩:=hrel;have j0:(0:Int)≤(j:Int):=by omega
  by_cases hi:j<n
  ·obtain⟨b,off,x,rfl,hbl,hx,hc⟩:=HR.out.at_ (i:=j) (by rw[HN.out];exact hi);have HI:=hid hi;have HX:=hid (fun(g:x.dev.size≤30∧x.tag.size≤30∧x.pl.size≤30)=>show RepOk (ds.take (j+1))from fun y hy=>by
    rw[List.take_add_one,hx]at hy;rcases List.mem_append.1 hy with q|q
    ·exact HQ.out y q
    ·have:y=x:=by simpa using q
     rw[this];exact g)
   have j1:(j:Int)<(n:Int):=by omega
   have j2:decide (j<n)=true:=decide_eq_true hi;obtain⟨s1,s2,s3,s4,s5,s6,s7⟩:=x;simp only at HX;have e0:wr.cell? ⟨b,off+j*7,none⟩=some (.string s1):=by simpa using hc 0 _ rfl
   have e3:wr.cell? ⟨b,off+j*7+3,none⟩=some (.string s4):=hc 3 _ rfl;have e4:wr.cell? ⟨b,off+j*7+4,none⟩=some (.string s5):=hc 4 _ rfl;clear hc hbl hx hi hj;by_cases g1:30<s1.size
   ·go_wp2_with fail
    go_ret;exact⟨⟨false,rfl,fun h=>by cases h⟩,Below.refl _ _⟩
   ·by_cases g2:30<s4.size
    ·go_wp2_with fail
     go_ret;exact⟨⟨false,rfl,fun h=>by cases h⟩,Below.refl _ _⟩
    ·by_cases g3:30<s5.size
     ·go_wp2_with fail
      go_ret;exact⟨⟨false,rfl,fun h=>by cases h⟩,Below.refl _ _⟩
     ·have HX2:=hid (HX.out ⟨by omega,by omega,by omega⟩);clear HX;go_wp2_with fail
      go_roundw
      case rel=>exact⟨j+1,HI.out,by go_num,HX2,trivial⟩
      case measure=>have:=HI.out;simp[RowKit.intOf];omega
  ·obtain rfl:n=j:=by omega
   have HF:=hid (show RepOk ds by have:=HQ.out;rwa [List.take_of_length_le (Nat.le_of_eq HN.out)]at this);clear hi hj HQ;by_cases g:(n:Int)≤most
   ·have HG:=hid g;go_wp2_with fail
    go_ret;exact⟨⟨true,rfl,fun _=>⟨HF.out,by rw[HN.out];exact HG.out⟩⟩,Below.refl _ _⟩
   ·have HG:=hid g;go_wp2_with fail
    go_ret;exact⟨⟨false,rfl,fun h=>by cases h⟩,Below.refl _ _⟩
end
section
open Go.RowKit Go.Lib
theorem awake08_any (w:World)(h10:P10 w):Calls Tryz.prog 7 #[] w fun e w'=>e=.returned (.bool true)∧Below w.heap.size w w':=by
 obtain⟨Y1,hY1⟩:∃Y,w.alloc (.cells #[.string ⟨#[99,49]⟩,.string ⟨#[112]⟩,.int .i64 2,.int .i64 1,.slice none 0 0,.slice none 0 0] 69)=Y:=⟨_,rfl⟩;have b1:Below w.heap.size w Y1:=by rw[←hY1];exact(Below.refl _ w).al _
 have rl:Rd encD 6 Y1 Y1.heap.size (some ⟨w.heap.size,0,none⟩) [awDev]:=by rw[←hY1];exact Rd.lit w _ encD_ok rfl (by simp)
 obtain⟨Y2,hY2⟩:∃Y,Y1.alloc (.cells #[.string ⟨#[]⟩,.int .i64 0,.int .i64 0,.string ⟨#[]⟩,.string ⟨#[]⟩,.int .i64 0,.int .i64 0] 61)=Y:=⟨_,rfl⟩;have b2:Below Y1.heap.size Y1 Y2:=by rw[←hY2];exact(Below.refl _ _).al _
 have B2:Blk Y2 Y1.heap.size #[.string ⟨#[]⟩,.int .i64 0,.int .i64 0,.string ⟨#[]⟩,.string ⟨#[]⟩,.int .i64 0,.int .i64 0] 61:=by rw[←hY2];exact Blk.new _ _ _
 have HOK:=hid (fun(X:World)=>show DsOk X [awDev]from fun d hd=>by
  simp only[List.mem_singleton]at hd;subst hd;exact⟨Rd.nil,Rd.nil⟩)
 have HSM:=hid (show∀y∈[awDev],y.os.length≤100∧y.ds.length≤100 from fun d hd=>by
  simp only[List.mem_singleton]at hd;subst hd;simp[awDev])
 have H10:=hid h10;have HB1:=hid b1;have HRL:=hid rl;have HB2:=hid b2;have HC2:=hid B2;clear h10 b1 rl b2 B2;go_enter Tryz.func7,Tryz.ntmps7;go_upto_region 3 with(refine wpList_boxStore rfl (ty:=61) (x:=.tmp 2) (y:=.tmp 9) rfl HC2.out rfl rfl (by kernel_rfl) rfl (by kernel_rfl) ?_;intro W2 B2 hoz hbz)
 have HB3:=hid (hbz _ _ (Nat.le_refl _) HB2.out);have HW3:=hid (HB1.out.st HB3.out);have HC3:=hid B2;have HR3:=hid (HRL.out.st HB3.out);clear hY1 hY2 hoz hbz B2 HRL HB1 HB2 HC2;obtain⟨V,hV⟩:∃V,W2.alloc (.cells #[.string ⟨#[99,49]⟩,.int .i64 5,.int .i64 100,.string ⟨#[]⟩,.string ⟨#[65,66,49,50]⟩,.int .i64 0,.int .i64 1000,.string ⟨#[99,49]⟩,.int .i64 5,.int .i64 100,.string ⟨#[]⟩,.string ⟨#[65,66,49,50]⟩,.int .i64 0,.int .i64 1000] 61)=V:=⟨_,rfl⟩;have bV:Below W2.heap.size W2 V:=by rw[←hV];exact(Below.refl _ _).al _
 have rd:Rd encDt 7 V V.heap.size (some ⟨W2.heap.size,0,none⟩) [awD,awD]:=by rw[←hV];exact Rd.lit W2 _ encDt_ok rfl (by simp)
 have HCF:=hid (sift_any (l:=[awDev]) (ds:=[awD,awD]) 1 2 (HR3.out.st bV) (HOK.out V) HSM.out (by simp) rd (by simp) (fun x hx=>by simp only[List.mem_cons,List.not_mem_nil,or_false,or_self]at hx;subst hx;exact awSz) (fun x hx=>by simp only[List.mem_cons,List.not_mem_nil,or_false,or_self]at hx;subst hx;exact awSrc));have HBV:=hid bV;clear bV rd HOK HSM;go_wp2_with(refine wpList_boxLoad rfl (ty:=61) (x:=.tmp 2) (cs:=#[.string ⟨#[99,49]⟩,.int .i64 5,.int .i64 100,.string ⟨#[]⟩,.string ⟨#[65,66,49,50]⟩,.int .i64 0,.int .i64 1000]) rfl HC3.out rfl ⟨_,Tryz.underlying61,by kernel_rfl⟩ ?_)
 have CF:=HCF.out;refine CF.mono ?_;rintro e W4 ⟨S,R,As,Ar,cs,cr,hof,_,_,he,rs,rr,hb⟩;obtain⟨rfl,rfl⟩:=awOf hof;obtain rfl:=he.trans (show _=.returned (.tuple #[.slice As 1 cs,.slice Ar 0 cr])from rfl);have HB4:=hid ((HW3.out.st HBV.out).st hb);have CA:=all_any (S:=[corS [awDev] awD]) (.slice none 0 0) (.slice none 0 0) (.slice none 0 0) (.slice none 0 0) (.slice none 0 0) (.int .i64 0) (.slice none 0 0) (.slice none 0 0) (.slice none 0 0) (.slice none 0 0) (.slice none 0 0) (.slice none 0 0) (.slice none 0 0) (.slice none 0 0) (.slice none 0 0) (.slice none 0 0) (.slice none 0 0) (.slice none 0 0) (.int .i64 0) (.slice none 0 0) (.string ⟨#[]⟩) (kA:=none) (gA:=none) 0 0 cs (ks:=[]) (gs:=[]) 0 0 rs Rd.nil Rd.nil (by simp) (by simp) (by omega) awSn (by simp) (by simp) (p10_st H10.out HB4.out);clear he hof rs rr hb CF HCF hV HBV HB3 HC3 HR3 HW3;have CA:=hid CA;go_wp2_with fail
 have CB:=CA.out;refine CB.mono ?_;rintro e W5 ⟨⟨pA,pc,ps,rA,rc,rs,he,hrp,hps,hsx,hrr,hrs,_,_⟩,hb⟩;have HB5:=hid (HB4.out.st hb);have h1:ps.map Pg.v=allPs awCf [corS [awDev] awD]:=hps;have h2:rs=[]:=hrs.trans awRs;subst h2;have h3:(ps.map Pg.v).map Pv.id=[⟨#[99,49,46,53]⟩]:=by rw[h1];exact awPsS
 obtain⟨x,rfl⟩:∃x,ps=[x]:=by
  have h4:=congrArg List.length h3;simp only[List.length_map,List.length_cons,List.length_nil]at h4;exact List.length_eq_one_iff.1 h4
 have h5:x.v.id=⟨#[99,49,46,53]⟩:=by simpa using h3
 obtain rfl:=he.trans (show _=.returned (.tuple #[.slice pA 1 pc,.slice rA 0 rc])from rfl);obtain⟨b,off,x',rfl,hbl,hx',hc⟩:=hrp.at_ (i:=0) (by simp);obtain rfl:x=x':=by simpa using hx'
 have e0:W5.cell? ⟨b,off,none⟩=some (.string ⟨#[99,49,46,53]⟩):=by have:=hc 0 (.string x.v.id) rfl;rw[h5]at this;simpa using this
 clear he hrp hps hsx hrr hrs hb h1 h3 h5 hc hx' hbl CA CB;go_wp2_with fail
 go_ret;exact⟨rfl,HB5.out⟩
end
end Go.Proofs.YtimffppffbideaaGreatDoor
