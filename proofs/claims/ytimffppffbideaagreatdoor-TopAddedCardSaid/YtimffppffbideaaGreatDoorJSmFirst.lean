import Derived.Test.YtimffppffbideaaGreatDoorJSfSz
import Derived.Test.YtimffppffbideaaGreatDoorJStabOwn
set_option linter.unusedSimpArgs false
set_option linter.unusedVariables false
set_option maxRecDepth 100000
set_option maxHeartbeats 8000000
namespace Go.Proofs.YtimffppffbideaaGreatDoor
section
open Go.RowKit Go.Lib
open Mat
def fstL (m:Mat.M)(fixed:List Int):List Int:=if 0≤tab m fixed m.n 0 then firstFrom m fixed m.n 0 else[]
theorem first_hit {m:Mat.M}{fixed:List Int}{k mask:Nat}{l l2:List Int}{j:Int}(hl:choices m.col.length=l++j::l2)(h0:∀x∈l,good m fixed k mask x=false)(hg:good m fixed k mask j=true):
  firstFrom m fixed (k+1) mask=j::firstFrom m fixed k (stepM j mask):=by
 have hf:(choices m.col.length).find? (good m fixed k mask)=some j:=by
  rw[hl,List.find?_append,List.find?_eq_none.2 (by simpa using h0)];simp[hg]
 rw[firstFrom,hf]
theorem first_miss {m:Mat.M}{fixed:List Int}{k mask:Nat}(h0:∀x∈choices m.col.length,good m fixed k mask x=false):firstFrom m fixed (k+1) mask=firstFrom m fixed k mask:=by
 have hf:(choices m.col.length).find? (good m fixed k mask)=none:=List.find?_eq_none.2 (by simpa using h0);rw[firstFrom,hf]
theorem split_at {l:List Int}{t:Nat}{j:Int}(h:l[t]? =some j):l=l.take t++j::l.drop (t+1):=by
 obtain⟨h1,h2⟩:=List.getElem?_eq_some_iff.1 h;have h3:l[t]::l.drop (t+1)=l.drop t:=(List.drop_eq_getElem_cons h1).symm;rw[←h2,h3,List.take_append_drop]
theorem mem_take_succ {l:List Int}{t:Nat}{j x:Int}(h:l[t]? =some j)(hx:x∈l.take (t+1)):x∈l.take t∨x=j:=by
 rw[List.take_add_one,h]at hx;rcases List.mem_append.1 hx with q|q
 ·exact .inl q
 ·exact .inr (by simpa using q)
def Tabs (m:Mat.M)(fixed:List Int)(ls:List (Gp Int)):Prop:=∀r,r≤m.n→∀mk,mk<2^m.col.length→atV ls r mk=tab m fixed (m.n-r) mk
section
variable {m:Mat.M}{fixed:List Int}{w:World}{tb cc rc lc fc Lc Wc:Nat}{cA rA lA fA LA WA:Option Addr}{gs ls ws:List (Gp Int)}
theorem mfirst_any (hz:Sz m)(hf:Fx m fixed)(hS:TS m fixed w tb cA cc gs rA rc lA lc fA fc)(hD:TD w tb (m.n+1) (2^m.col.length) LA Lc ls WA Wc ws)(hL:Tabs m fixed ls):
  Calls Tryz.prog 135 #[.pointer (some ⟨tb,0,none⟩)] w fun e w'=>∃A c,e=.returned (.tuple #[.slice A (fstL m fixed).length c,.bool (decide (0≤tab m fixed m.n 0))])∧Own 3 encI 1 w' w.heap.size A c (fstL m fixed)∧Below w.heap.size w w':=by
 have hk8:=hz.k;have hn8:=hz.n;obtain⟨N,hN⟩:∃N,m.n+1=N:=⟨_,rfl⟩;obtain⟨n,hn⟩:∃N,m.n=N:=⟨_,rfl⟩;obtain⟨all,hall⟩:∃a,2^m.col.length=a:=⟨_,rfl⟩;obtain⟨k,hk⟩:∃a,m.col.length=a:=⟨_,rfl⟩;have ha0:0<all:=by rw[←hall];exact Nat.pos_of_ne_zero (by simp)
 have HL:=hid hL;unfold Tabs at HL;rw[hall,hn]at HL;have HN:=hid hn;have HK:=hid hk;have HALL:=hid hall;have HZ:=hid hz;rw[hall,hN]at hD;obtain⟨lo,b0,k0,rfl,r0,_,_,x9,_⟩:=hD.lAt (i:=0) (by omega) ha0;have x0:=x9 0 ha0;clear x9;rw[HL.out 0 (by omega) 0 ha0,Nat.sub_zero,←hn]at x0;have c4:=hD.c4;have c1:=hS.c1;rw[show m.row.length=n from hn]at c1;have HD:=hid hD;have HS:=hid hS;have CC:=hid (fun(X:World) (hX:Below w.heap.size w X)=>choices_any lc hk8 (hS.st hX).lt (hS.st hX).c2);rw[hk]at CC;have CAL:=hid (fun(X:World) (hX:Below w.heap.size w X) (i:Nat) (hi:i<n) (j:Int) (h1: -1≤j) (h2:j<k) (mask:Nat) (hm:mask<all)=>mallowed_any hz hf (hS.st hX) (by rw[hn];exact hi) h1 (by rw[hk];exact h2) (by rw[hall];exact hm));have CST:=hid (fun(X:World) (hX:Below w.heap.size w X) (i:Nat) (hi:i<n) (j:Int) (h1: -1≤j) (h2:j<k) (mask:Nat) (hm:mask<all)=>step_any hz (hS.st hX) (by rw[hn];exact hi) h1 (by rw[hk];exact h2) (by rw[hall];exact hm));have HF:=hid (show fstL m fixed=if 0≤tab m fixed m.n 0 then firstFrom m fixed m.n 0 else[]from rfl);obtain⟨v,hv⟩:∃v,tab m fixed m.n 0=v:=⟨_,rfl⟩;rw[hv]at x0 HF ⊢;have hn1:(0:Int)<(N:Int):=by omega
 have hn2:decide (0<N)=true:=decide_eq_true (by omega);have ha1:(0:Int)<(all:Int):=by omega
 have ha2:decide (0<all)=true:=decide_eq_true ha0;have HNN:Hid (N=n+1):=hid (by omega);have hk88:k≤8:=by omega
 have hn88:n≤8:=by omega
 clear hS hD hL hz hf hn hk hall hk8 hn8 hN;by_cases hv0:v<0
 ·have R:=hid (show fstL m fixed=[]from HF.out.trans (if_neg (by omega)));have hd:decide (0≤v)=false:=decide_eq_false (by omega);rw[R.out,hd];clear HF;go_enter Tryz.func135,Tryz.ntmps135;go_wp2_with fail
  go_step3
  go_wp2_with fail
  simp only[Exit.noGoto];go_ret2;exact⟨none,0,rfl,Own.nil _ _,Below.refl _ _⟩
 ·have R:=hid (show fstL m fixed=firstFrom m fixed n 0 from HF.out.trans (by rw[if_pos (by omega),HN.out]));have hd:decide (0≤v)=true:=decide_eq_true (by omega);rw[R.out,hd];have hv1:decide (v<0)=false:=decide_eq_false hv0;clear HF hv0;have HM0:=hid ha0;obtain⟨Y,hY⟩:∃Y,w.alloc (.cells #[] 3)=Y:=⟨_,rfl⟩;have HO0:Hid (Own 3 encI 1 Y w.heap.size (some ⟨w.heap.size,0,none⟩) 0 ([]:List Int)):=hid (by rw[←hY];exact Own.lit w w.heap.size [] encI_ok rfl rfl (Nat.le_refl _) (by simp));have hBY:Below w.heap.size w Y:=by rw[←hY];exact(Below.refl _ w).al _
  have hSY:w.heap.size≤Y.heap.size:=by rw[←hY];simp
  have c1:Y.cell? ⟨tb,1,none⟩=some (.slice rA n rc):=(hBY.cell (p:=⟨tb,1,none⟩) HS.out.lt).trans c1;have HBY:=hid hBY;have HSY:=hid hSY;clear hBY hSY;go_enter Tryz.func135,Tryz.ntmps135;go_wp2_with fail
  go_step3
  go_wp2_with fail
  go_step3
  go_wp2_with fail
  clear c1 c4 r0 x0 hY hv1 hd;go_loopg [28,4,5] n (fun G si sa sm wx=>∃(i:Nat) (A:Option Addr) (c:Nat) (l:List Int) (mask:Nat),i+G=n∧si=.int .i64 i∧sa=.slice A l.length c∧sm=.int .i64 mask∧Hid (mask<all)∧Hid (firstFrom m fixed n 0=l++firstFrom m fixed (n-i) mask)∧Hid (l.length≤i)∧Hid (Own 3 encI 1 wx w.heap.size A c l)∧Hid (Below w.heap.size w wx)∧Hid (w.heap.size≤wx.heap.size))
  case atStart=>exact⟨0,_,0,[],0,by omega,rfl,rfl,rfl,HM0,rfl,Nat.le_refl _,HO0,HBY,HSY⟩
  case round=>
   clear HO0 HBY HSY;obtain⟨i,A,c,l,mask,hi,rfl,rfl,rfl,HM,HFF,HLL,HO,HB,HWS⟩:=hrel;obtain⟨wo,hwo⟩:∃wo,wo=wr:=⟨_,rfl⟩;rw[←hwo]at HO HB HWS ⊢;clear hwo;have HG:=hid hi;by_cases hin:i<n
   ·have HI:=hid hin;have i0:(0:Int)≤(i:Int):=by omega
    have i1:(i:Int)<(n:Int):=by omega
    have i4:IntKind.i64.wrap ((i:Int)+1)=(i:Int)+1:=IntWalk.i64_in _ (by omega);have C1:=hid (CC.out wo HB.out);clear hin hi;go_wp2_with fail
    refine C1.out.mono ?_;rintro e w1 ⟨A9,c9,rfl,ho,hb⟩;obtain⟨cb,rfl,hcb,_⟩:=ho.exB (by intro e;have:=choices_len k;rw[e]at this;simp at this);have HB1:=hid (HB.out.trans (hb.mono HWS.out));have HO1:=hid (HO.out.keep hb (Nat.le_refl _));have HC1:=hid (ho.rd encI_ok);have HW1:=hid (Nat.le_trans HWS.out hb.size);clear ho hb hcb C1;go_wp2_with fail
    go_loopg [34,4,5] (k+1) (fun G2 sj s4 s5 wx=>∃t:Nat,t+G2=k+1∧sj=.int .i64 t∧s4=.slice A l.length c∧s5=.int .i64 mask∧Hid (Below w1.heap.size w1 wx)∧Hid (∀x∈(choices k).take t,good m fixed (n-(i+1)) mask x=false))
    case atStart=>exact⟨0,by omega,rfl,rfl,rfl,Below.refl _ _,fun x h=>by simp at h⟩
    case round=>
     obtain⟨t,ht,rfl,rfl,rfl,HBX,HNO⟩:=hrel;have HG2:=hid ht;by_cases htk:t<k+1
     ·have HT:=hid htk;obtain⟨j,hj⟩:∃j,(choices k)[t]? =some j:=⟨_,List.getElem?_eq_getElem (by rw[choices_len];exact htk)⟩;have hjm:=mem_choices.1 (List.mem_of_getElem? hj);have hj1: -1≤j:=by rcases hjm with q|q<;>omega
      have hj2:j<(k:Int):=by rcases hjm with q|q<;>omega
      obtain⟨b9,off9,x9,hA9,_,hx9,cj⟩:=(HC1.out.st HBX.out).i (i:=t) (by rw[choices_len];exact htk);injection hA9 with hA9;injection hA9 with q1 q2;subst q1 q2;rw[hj]at hx9;injection hx9 with hx9;subst hx9;rw[Nat.zero_add]at cj;have HBZ:=hid (HB1.out.trans (HBX.out.mono HW1.out));have CA:=hid (CAL.out wr HBZ.out i HI.out j hj1 hj2 mask HM.out);have CS:=hid (fun(X:World) (hX:Below w.heap.size w X)=>CST.out X hX i HI.out j hj1 hj2 mask HM.out);have HGD:=hid (show good m fixed (n-(i+1)) mask j=(allowed m fixed i j mask&&(decide (0≤tab m fixed (n-(i+1)) (stepM j mask))&&decide (stepC m i j+tab m fixed (n-(i+1)) (stepM j mask)=tab m fixed (n-i) mask))) by
       unfold good;rw[HN.out,show n-(n-(i+1)+1)=i by have:=HI.out;omega,show n-(i+1)+1=n-i by have:=HI.out;omega])
      have HAP:Hid (allowed m fixed i j mask=true→0≤stepC m i j∧stepC m i j≤450):=hid (stepC_le' HZ.out);have HNM:Hid (stepM j mask<all):=hid (by rw[←HALL.out];exact step_lt (by rw[HALL.out];exact HM.out) (by rw[HK.out];exact hj2));have HTR:Hid (∀mk,-1≤tab m fixed (n-(i+1)) mk∧tab m fixed (n-(i+1)) mk≤7200):=hid (fun mk=>tab_le HZ.out fixed _ mk (by omega));have HJ:=hid hj;obtain⟨al,hal⟩:∃a,allowed m fixed i j mask=a:=⟨_,rfl⟩;obtain⟨cs,hcs⟩:∃a,stepC m i j=a:=⟨_,rfl⟩;obtain⟨nm,hnm⟩:∃a,stepM j mask=a:=⟨_,rfl⟩;have HNE:=hid hnm;rw[hal,hcs,hnm]at HGD;rw[hal]at CA HAP;rw[hcs]at HAP;rw[hnm]at HNM;simp only[hcs,hnm]at CS;have t1:(0:Int)≤(t:Int):=by omega
      have t2:(t:Int)<(k:Int)+1:=by omega
      have t4:decide (t<k+1)=true:=decide_eq_true htk;have HSTEP:Hid (good m fixed (n-(i+1)) mask j=false→∀x∈(choices k).take (t+1),good m fixed (n-(i+1)) mask x=false):=hid (fun hg x hx=>by
       rcases mem_take_succ HJ.out hx with q|q
       ·exact HNO.out x q
       ·rw[q];exact hg)
      have HHIT:Hid (good m fixed (n-(i+1)) mask j=true→firstFrom m fixed n 0=(l++[j])++firstFrom m fixed (n-(i+1)) nm):=hid (fun hg=>by
       have e:n-i=n-(i+1)+1:=by have:=HI.out;omega
       have:=first_hit (split_at (l:=choices m.col.length) (t:=t) (j:=j) (by rw[HK.out];exact HJ.out)) (by rw[HK.out];exact HNO.out) hg
       rw[HFF.out,e,this,HNE.out,List.append_assoc];rfl)
      clear hjm hj hj1 hj2 htk ht hal hcs hnm;go_wp2_with fail
      with_reducible refine CA.out.mono ?_
      rintro e w2 ⟨rfl,hb2⟩;cases al
      ·have HF:=hid (HSTEP.out (by rw[HGD.out];rfl));have HBX2:=hid (HBX.out.st hb2);clear hb2 CA CS;go_wp2_with fail
       go_roundg (k+1-(t+1))
       case measure=>have:=HT.out;have:=HG2.out;omega
       case rel=>exact⟨t+1,by have:=HT.out;omega,by go_num,rfl,rfl,HBX2,HF⟩
      ·have hB2:Below w.heap.size w w2:=HBZ.out.st hb2;have C2:=CS.out w2 hB2;have HBX2:=hid (HBX.out.st hb2);obtain⟨hc0,hc1⟩:=HAP.out rfl;have HB2:=hid hB2;clear CA CS hb2 hB2;go_wp2_with fail
       with_reducible refine C2.mono ?_
       rintro e w3 ⟨rfl,hb3⟩;have HB3:=hid (HB2.out.st hb3);have HBX3:=hid (HBX2.out.st hb3);have hD3:=HD.out.keep HS.out.lt HB3.out;obtain⟨lo3,b03,b1,wo3,v03,v1,k03,k1,k2,k3,hF,_,_⟩:=hD3.fl (i:=i) (mask:=mask) (nx:=nm) (by have:=HI.out;have:=HNN.out;omega) HM.out HNM.out;have e1:atV ls i mask=tab m fixed (n-i) mask:=HL.out i (by have:=HI.out;omega) mask HM.out;have e2:atV ls (i+1) nm=tab m fixed (n-(i+1)) nm:=HL.out (i+1) HI.out nm HNM.out;rw[e1,e2]at hF;have hR:=HTR.out nm;obtain⟨r,hr⟩:∃r,tab m fixed (n-(i+1)) nm=r:=⟨_,rfl⟩;obtain⟨vm,hvm⟩:∃r,tab m fixed (n-i) mask=r:=⟨_,rfl⟩;rw[hr,hvm]at HGD hF;rw[hr]at hR;have c4:=hF.c4;have r0:=hF.r0;have r1:=hF.r1;have x0:=hF.x0;have x1:=hF.x1;have e3:IntKind.i64.wrap (cs+r)=cs+r:=IntWalk.i64_in _ (by omega);have n0:(0:Int)≤(nm:Int):=by omega
       have n1:(nm:Int)<(all:Int):=by have:=HNM.out;omega
       have n2:decide (nm<all)=true:=decide_eq_true HNM.out;have m0:(0:Int)≤(mask:Int):=by omega
       have m1:(mask:Int)<(all:Int):=by have:=HM.out;omega
       have m2:decide (mask<all)=true:=decide_eq_true HM.out;have i2:(0:Int)≤(i:Int)+1:=by omega
       have i3:(i:Int)+1<(N:Int):=by have:=HNN.out;omega
       have i5:(i:Int)<(N:Int):=by have:=HNN.out;omega
       have i6:decide (i<N)=true:=decide_eq_true (by omega);have i7:decide (i+1<N)=true:=decide_eq_true (by omega);clear hF hD3 hb3 e1 e2 hr hvm C2 cj;by_cases hr0:r<0
       ·have HF:=hid (HSTEP.out (by rw[HGD.out,decide_eq_false (by omega)];rfl));have hr1:decide (0≤r)=false:=decide_eq_false (by omega);clear hr0;go_wp2_with fail
        go_roundg (k+1-(t+1))
        case measure=>have:=HT.out;have:=HG2.out;omega
        case rel=>exact⟨t+1,by have:=HT.out;omega,by go_num,rfl,rfl,HBX3,HF⟩
       ·have hr1:decide (0≤r)=true:=decide_eq_true (by omega);by_cases heq:cs+r=vm
        ·have HF:=hid (HHIT.out (by rw[HGD.out,hr1,decide_eq_true heq];rfl));have hq:(cs+r==vm)=true:=by simpa using heq
         have HO3:=hid (HO1.out.keep HBX3.out (Nat.le_refl _));have hbs:w.heap.size≤w3.heap.size:=HB3.out.size;have hl8:l.length≤8:=by have:=HLL.out;omega
         clear heq hr0;go_wp2_with((at_builtin;refine wpList_app1b rfl (.tmp 81) (.tmp 83) tyI encI_ok rfl j rfl _ rfl (by simp) HO3.out rfl (by first|rfl|assumption|simp) (by first|omega|(simp;omega)) (by first|omega|(simp;omega)) hbs ?_;intro A7 c7 w7 hown7 hb7 hs7 hf7;have hbel7:=(HB3.out).trans hb7))
         have HO7:=hid hown7;have HB7:=hid hbel7;have HS7:=hid (Nat.le_of_lt (Nat.lt_of_le_of_lt hbs hs7));clear hown7 hbel7 hb7 hs7 hf7;go_roundg (n-(i+1))
         case measure=>have:=HI.out;have:=HG.out;omega
         case rel=>exact⟨i+1,A7,c7,l++[j],nm,by have:=HI.out;omega,by go_num,by simp,rfl,HNM,HF,hid (by have:=HLL.out;simp;omega),HO7,HB7,HS7⟩
        ·have HF:=hid (HSTEP.out (by rw[HGD.out,decide_eq_false heq,Bool.and_false,Bool.and_false]));have hq:(cs+r==vm)=false:=by simpa using heq
         clear heq hr0;go_wp2_with fail
         go_roundg (k+1-(t+1))
         case measure=>have:=HT.out;have:=HG2.out;omega
         case rel=>exact⟨t+1,by have:=HT.out;omega,by go_num,rfl,rfl,HBX3,HF⟩
     ·obtain rfl:t=k+1:=by omega
      have HF:Hid (firstFrom m fixed n 0=l++firstFrom m fixed (n-(i+1)) mask):=hid (by
       have e:n-i=n-(i+1)+1:=by have:=HI.out;omega
       rw[HFF.out,e,first_miss (fun x hx=>HNO.out x (by rw[HK.out]at hx;rw[List.take_of_length_le (by rw[choices_len];exact Nat.le_refl _)];exact hx))])
      have HO3:=hid (HO1.out.keep HBX.out (Nat.le_refl _));have HB3:=hid (HB1.out.trans (HBX.out.mono HW1.out));have HS3:=hid (HB3.out.size);simp only[Int.natCast_add,Int.natCast_one];go_wp2_with fail
      go_roundg (n-(i+1))
      case measure=>have:=HI.out;have:=HG.out;omega
      case rel=>exact⟨i+1,A,c,l,mask,by have:=HI.out;omega,by go_num,rfl,rfl,HM,HF,hid (Nat.le_succ_of_le HLL.out),HO3,HB3,HS3⟩
   ·obtain rfl:i=n:=by omega
    have HE:Hid (l=firstFrom m fixed i 0):=hid (by
     have:=HFF.out
     rw[Nat.sub_self]at this;rw[this];show l=l++[]
     rw[List.append_nil])
    go_wp2_with fail
    simp only[Exit.noGoto];go_ret2;rw[←HE.out];exact⟨A,c,rfl,HO.out,HB.out⟩
end
end
section
open Go.RowKit Go.Lib
open Mat
section
variable {α:Type}{enc:α→List Value}{k:Nat}{w:World}{P:Program}{t e bytes:Nat}
theorem wp_makeZ {o:Oper}{a:Act}{K:Act→World→Prop}{Q:Exit→Act→World→Prop}(x y:Operand)(T:TyS P t e k bytes)(hE:Enc enc k)
  (hop:o.op=Op.makeSlice t x y) (base:Nat) (z:α) (Z0:Value) (hz:(P.info? e).bind (·.zero)=some Z0) (hZ0:Z0.cells.toList=enc z)
  (kl kc:IntKind) (n:Nat) (hl:a.eval x=.int kl (n:Int)) (hc:a.eval y=.int kc (n:Int)) (b2:bytes*n≤281474976710656) (b3:n≤100000000000) (b4:base≤w.heap.size)
  (h:∀w',Own e enc k w' base (some ⟨w.heap.size,0,none⟩) n (List.replicate n z)→Below w.heap.size w w'→w.heap.size<w'.heap.size→K (a.put o.dst (.slice (some ⟨w.heap.size,0,none⟩) n n)) w'):o.wp P a w K Q:=by
 obtain⟨i,Z,hi,hz0,hsz,hby,hzs⟩:=T.info;rw[hi,Option.bind_some,hz0]at hz;injection hz with hz;obtain⟨w',hrun,h1,h2⟩:=run_make_full (P:=P) w base t e i Z k T.under hi hz0 hsz kl kc n (by rw[hby];exact b2) (by unfold maxLen;omega) b4;have hG:=h w' (own_made hE T.pos (by rw[hz];exact hZ0) h1) ((Below.refl _ w).grown h2 (Nat.le_refl _) fun g hg=>by cases hg) (World.ownsRow.lt h1 w.heap.size (by simp[Value.ownBlock])).2;unfold Oper.wp;simp[execOp,hop,hl,hc,hrun,Result.andThen];exact hG
end
structure TP (w:World)(tb:Nat)(c0 c1 c2 c3:Value)(LA:Option Addr)(Lc:Nat)(ls:List (Gp Int))(WA:Option Addr)(Wc:Nat)(ws:List (Gp Int)):Prop where
 b:Blk w tb #[c0,c1,c2,c3,.slice LA ls.length Lc,.slice WA ws.length Wc] 231
 l:OwnG 33 3 encI 1 w (tb+1) LA Lc ls
 w:OwnG 33 3 encI 1 w (tb+1) WA Wc ws
 oo:Ap LA WA
 ii:∀g∈ls,∀h∈ws,Ap g.A h.A
section
variable {W W8 w9:World}{tb Lc Wc:Nat}{c0 c1 c2 c3:Value}{LA WA:Option Addr}{ls ws:List (Gp Int)}
theorem TP.drewN (h:TP W tb c0 c1 c2 c3 LA Lc ls WA Wc ws)(k:Nat):TP (W.drewN k) tb c0 c1 c2 c3 LA Lc ls WA Wc ws:=⟨h.b,h.l.drewN k,h.w.drewN k,h.oo,h.ii⟩
theorem TP.pushL (h:TP W tb c0 c1 c2 c3 LA Lc ls WA Wc ws){g:Gp Int}(hg:g.A=some ⟨W.heap.size,0,none⟩)(hb8:Below W.heap.size W W8)(hrow:Own 3 encI 1 W8 (tb+1) g.A g.c g.l)
  {A':Option Addr} {c':Nat} (happ:Own 33 encG 1 w9 (tb+1) A' c' (ls++[g])) (hf:∀b,b<W8.heap.size→(∀x,LA=some ⟨x,0,none⟩→b≠x)→w9.heap[b]? =W8.heap[b]?)
  (hl:∀x,A'=some ⟨x,0,none⟩→LA=some ⟨x,0,none⟩∨W8.heap.size≤x):
  TP (w9.setCell ⟨tb,4,none⟩ (.slice A' (ls.length+1) c')) tb c0 c1 c2 c3 A' c' (ls++[g]) WA Wc ws:=by
 have ht:tb<W.heap.size:=h.b.lt;have hO8:=h.l.keep hb8 (Nat.le_refl _);have hW8:=h.w.keep hb8 (Nat.le_refl _);have hap:∀g'∈ls,Ap g'.A g.A:=fun g' hg' x hx e=>by
  have:=(h.l.ins g' hg').lt2 hx
  rw[hg]at e;injection e with e;injection e with e;omega
 have hP:=hO8.push ine hrow hap happ hf;have hsc:∀b,tb+1≤b→(w9.setCell ⟨tb,4,none⟩ (.slice A' (ls.length+1) c')).heap[b]? =w9.heap[b]? :=fun b hb=>setCell_other _ ⟨tb,4,none⟩ _ (by show b≠tb;omega);refine⟨?_,?_,?_,?_,?_⟩
 ·have hb9:Blk w9 tb #[c0,c1,c2,c3,.slice LA ls.length Lc,.slice WA ws.length Wc] 231:=by
   have h8:=h.b.below hb8 ht;exact(hf tb h8.lt (fun x hx=>by have:=(h.l.out.lt2 hx).1;omega)).trans h8
  have:=hb9.set 4 (.slice A' (ls.length+1) c')
  simpa using this
 ·exact⟨hP.out.keepB fun x hx _=>hsc x (hP.out.lt2 hx).1,fun y hy=>(hP.ins y hy).keepB fun x hx _=>hsc x ((hP.ins y hy).lt2 hx).1,hP.ap⟩
 ·have hW9:OwnG 33 3 encI 1 w9 (tb+1) WA Wc ws:=⟨hW8.out.keepB fun x hx hxl=>hf x hxl fun y hy e=>h.oo y hy (by rw[hx,e]),fun z hz=>(hW8.ins z hz).keepB fun x hx hxl=>hf x hxl fun y hy=>(hW8.ins z hz).apart hO8.out ine hx hy,hW8.ap⟩;exact⟨hW9.out.keepB fun x hx _=>hsc x (hW9.out.lt2 hx).1,fun y hy=>(hW9.ins y hy).keepB fun x hx _=>hsc x ((hW9.ins y hy).lt2 hx).1,hW9.ap⟩
 ·exact h.oo.moved hW8.out hl
 ·intro a ha b hb;rcases List.mem_append.1 ha with q|q
  ·exact h.ii a q b hb
  ·have:a=g:=by simpa using q
   subst this;intro x hx e;have:=(h.w.ins b hb).lt2 e
   rw[hg]at hx;injection hx with hx;injection hx with hx;omega
theorem TP.pushW (h:TP W tb c0 c1 c2 c3 LA Lc ls WA Wc ws){g:Gp Int}(hg:g.A=some ⟨W.heap.size,0,none⟩)(hb8:Below W.heap.size W W8)(hrow:Own 3 encI 1 W8 (tb+1) g.A g.c g.l)
  {A':Option Addr} {c':Nat} (happ:Own 33 encG 1 w9 (tb+1) A' c' (ws++[g])) (hf:∀b,b<W8.heap.size→(∀x,WA=some ⟨x,0,none⟩→b≠x)→w9.heap[b]? =W8.heap[b]?)
  (hl:∀x,A'=some ⟨x,0,none⟩→WA=some ⟨x,0,none⟩∨W8.heap.size≤x):
  TP (w9.setCell ⟨tb,5,none⟩ (.slice A' (ws.length+1) c')) tb c0 c1 c2 c3 LA Lc ls A' c' (ws++[g]):=by
 have ht:tb<W.heap.size:=h.b.lt;have hX8:=h.w.keep hb8 (Nat.le_refl _);have hY8:=h.l.keep hb8 (Nat.le_refl _);have hap:∀g'∈ws,Ap g'.A g.A:=fun g' hg' x hx e=>by
  have:=(h.w.ins g' hg').lt2 hx
  rw[hg]at e;injection e with e;injection e with e;omega
 have hP:=hX8.push ine hrow hap happ hf;have hsc:∀b,tb+1≤b→(w9.setCell ⟨tb,5,none⟩ (.slice A' (ws.length+1) c')).heap[b]? =w9.heap[b]? :=fun b hb=>setCell_other _ ⟨tb,5,none⟩ _ (by show b≠tb;omega);refine⟨?_,?_,?_,?_,?_⟩
 ·have hb9:Blk w9 tb #[c0,c1,c2,c3,.slice LA ls.length Lc,.slice WA ws.length Wc] 231:=by
   have h8:=h.b.below hb8 ht;exact(hf tb h8.lt (fun x hx=>by have:=(h.w.out.lt2 hx).1;omega)).trans h8
  have:=hb9.set 5 (.slice A' (ws.length+1) c')
  simpa using this
 ·have hW9:OwnG 33 3 encI 1 w9 (tb+1) LA Lc ls:=⟨hY8.out.keepB fun x hx hxl=>hf x hxl fun y hy e=>h.oo x hx (by rw[hy,e]),fun z hz=>(hY8.ins z hz).keepB fun x hx hxl=>hf x hxl fun y hy=>(hY8.ins z hz).apart hX8.out ine hx hy,hY8.ap⟩;exact⟨hW9.out.keepB fun x hx _=>hsc x (hW9.out.lt2 hx).1,fun y hy=>(hW9.ins y hy).keepB fun x hx _=>hsc x ((hW9.ins y hy).lt2 hx).1,hW9.ap⟩
 ·exact⟨hP.out.keepB fun x hx _=>hsc x (hP.out.lt2 hx).1,fun y hy=>(hP.ins y hy).keepB fun x hx _=>hsc x ((hP.ins y hy).lt2 hx).1,hP.ap⟩
 ·exact(h.oo.symm.moved hY8.out hl).symm
 ·intro a ha b hb;rcases List.mem_append.1 hb with q|q
  ·exact h.ii a ha b q
  ·have:b=g:=by simpa using q
   subst this;intro x hx e;have:=(h.l.ins a ha).lt2 hx
   rw[hg]at e;injection e with e;injection e with e;omega
theorem TP.td (h:TP W tb c0 c1 c2 c3 LA Lc ls WA Wc ws){n all:Nat}(h1:ShT ls n all)(h2:ShT ws n all):TD W tb n all LA Lc ls WA Wc ws:=
 ⟨by have:=h.b.cell 4 (v:=.slice LA ls.length Lc) rfl;rwa [h1.1]at this,by have:=h.b.cell 5 (v:=.slice WA ws.length Wc) rfl;rwa [h2.1]at this,h1,h2,h.l,h.w,h.oo,h.ii⟩
end
def pSum (m:Mat.M)(mask j:Nat):Int:=((List.range j).map fun j=>if mask.testBit j then 0 else m.col.getD j 0).sum
theorem pSum_succ (m:Mat.M)(mask j:Nat):pSum m mask (j+1)=pSum m mask j+(if mask.testBit j then 0 else m.col.getD j 0):=by
 unfold pSum;rw[List.range_succ,List.map_append,List.sum_append];simp
theorem pSum_last (m:Mat.M)(mask:Nat):pSum m mask m.col.length=last m mask:=rfl
theorem pSum_rng {m:Mat.M}(h:Bnd m 450)(mask:Nat):∀j,0≤pSum m mask j∧pSum m mask j≤450*j:=by
 intro j;induction j with
 |zero=>exact⟨by unfold pSum;simp,by unfold pSum;simp⟩
 |succ j ih=>
  rw[pSum_succ];have h1:=getD_pos h.ok.col j;have h2:=getD_le (by omega) h.col j;split<;>omega
end
end Go.Proofs.YtimffppffbideaaGreatDoor
