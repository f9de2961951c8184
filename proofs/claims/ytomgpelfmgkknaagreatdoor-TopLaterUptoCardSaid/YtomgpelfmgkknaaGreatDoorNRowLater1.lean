/- Lemmas for the law. No conditions. -/
import Derived.Test.YtomgpelfmgkknaaGreatDoorM25
namespace Go.Proofs.YtomgpelfmgkknaaGreatDoor
open Go.RowKit Go.Maps
open Go.Proofs.Tryz
set_option maxRecDepth 100000
set_option maxHeartbeats 40000000
set_option linter.unusedVariables false
set_option linter.unusedSimpArgs false
theorem Li{w:World}{ao:Option Addr}{n c:Nat}{l:List fN}(h:Sl cY w ao n c l){i:Nat}{e:fN}(hd:l[i]?=some e):∃b off,ao=some ⟨b,off,none⟩/\b<w.heap.size/\w.cell? ⟨b,off+i*30,none⟩=some (.int .i64 e.kind)/\w.cell? ⟨b,off+i*30+1,none⟩=some (.string e.name)/\w.cell? ⟨b,off+i*30+3,none⟩=some (.int .i64 e.n)/\w.cell? ⟨b,off+i*30+7,none⟩=some (.int .i64 e.rule.start):=by
 obtain⟨b,off,cs,rfl,hb,hR,hc⟩:=h.at hd;obtain⟨az,aA,aT,aU,aL,aM,dg,dh,bA,bC,rfl,t0,t1,t2,t3,t4,t5,t6,t7,t8,t9,t10,t11,t12,t13,t14,t15,t16,t17,uw,t19,t20⟩:=hR;refine⟨b,off,rfl,hb,?_,?_,?_,?_⟩
 ·exact hc 0 _ rfl
 ·rw[Nat.add_assoc];exact hc 1 _ rfl
 ·rw[Nat.add_assoc];exact hc 3 _ rfl
 ·rw[Nat.add_assoc];exact hc 7 _ rfl
theorem ad5(g n:Bool)(s:Int):g=false∨(g=true/\(n=false∨(n=true/\(s=0∨ ¬s=0)))):=by
 by_cases h:s=0<;>cases g<;>cases n<;>simp[h]
theorem aaL(t:mD)(d:rW)(l:List fN)(day ahead:Int)(ts ds:zv)(ao:Option Addr)(n c:Nat)(w:World)(hg:Gl w)(hsg:qA w)(h:(gg).R w ts t)(h2:(e6).R w ds d)(hl:Sl cY w ao n c l)(hd:I64 day)(ha:0<=ahead/\ahead<=255)(hold:∀x∈t.land,x.old.length<=1048576):Calls prog 3 #[.agg ts.toArray,.agg ds.toArray,.slice ao n c,.int .i64 day,.int .u8 ahead] w (cX (.bool true) w):=by
 have HG:=aa hg;have za:=aa hsg;have HT:=aa h;have HD:=aa h2;have HL:=aa hl;have HA:=aa ha;have HDY:=aa hd;have hn:=hl.nle;unfold maxLen at hn;obtain⟨aO,aP,ax,ay,aG,aH,aB,aC,aQ,aR,aI,aJ,bk,bm,cG,cH,bQ,bU,cI,cJ,bY,bZ,cL,cM,rfl,q0,q1,q2,q3,q4,q5,q6,q7,q8,q9,q10,q11,q12⟩:=h;obtain⟨cQ,cR,rfl,u0,u1⟩:=h2;have Yr:=aa q3;have HP:=aa (show(bq).R w [.slice aO t.plan.defs.length aP,.slice ax t.plan.tables.length ay,.slice aG t.plan.zones.length aH,.slice aB t.plan.rules.length aC,.slice aQ t.plan.caps.length aR,.slice aI t.plan.views.length aJ,.slice bk t.plan.eA.length bm,.int .i64 t.plan.hours] t.plan from⟨aO,aP,ax,ay,aG,aH,aB,aC,aQ,aR,aI,aJ,bk,bm,rfl,q0,q1,q2,q3,q4,q5,q6,q7⟩);have HT8:=aa q8;have HT9:=aa q9;have Pb:=aa q10;have Pc:=aa q11;have Pd:=aa q12;have hrn:=q3.nle;unfold maxLen at hrn;clear hg hsg hl ha hd q0 q1 q2 q3 q4 q5 q6 q7 q8 q9 q10 q11 q12 u0 u1;go_enter func3,ntmps3;go_wp2_with fail
 with_reducible refine ag (TT _ ?_ ?_) ?_
 ·exact HG.zo.exts ae
 ·exact za.zo.exts ae
 rintro e w' ⟨rfl,⟨x1,rfl⟩⟩;go_wp2_with fail
 with_reducible refine ag (ad3 t d _ _ _ ?_ ?_) ?_
 ·exact(gg).exts HT.zo ae
 ·exact(e6).exts HD.zo ae
 rintro e w' ⟨b6,rfl,hb6,⟨x2,rfl⟩⟩;cases b6 with
 |false=>
  go_wp2;go_ret;exact⟨rfl,ae⟩
 |true=>
  have HF:=aa (hb6 rfl);clear hb6;go_wp2_with fail
  with_reducible refine ag (aaH ao n c l _ ?_) ?_
  ·exact HL.zo.exts ae
  rintro e w' ⟨b7,rfl,hb7,⟨x3,rfl⟩⟩;cases b7 with
  |false=>
   go_wp2;go_ret;exact⟨rfl,ae⟩
  |true=>
   have HE:=aa (hb7 rfl);clear hb7;by_cases h0:day<0
   ·have q0:decide (day<0)=true:=zdt h0
    go_wp2;go_ret;exact⟨rfl,ae⟩
   ·have q0:decide (day<0)=false:=jE h0
    by_cases h1:1073741824<day
    ·have q1:decide (1073741824<day)=true:=zdt h1
     go_wp2;go_ret;exact⟨rfl,ae⟩
    ·have q1:decide (1073741824<day)=false:=jE h1
     go_wp2_with fail
     have HBT:=aa (show Bx ((w.alloc (.cells #[.slice aO t.plan.defs.length aP,.slice ax t.plan.tables.length ay,.slice aG t.plan.zones.length aH,.slice aB t.plan.rules.length aC,.slice aQ t.plan.caps.length aR,.slice aI t.plan.views.length aJ,.slice bk t.plan.eA.length bm,.int .i64 t.plan.hours,.slice cG t.land.length cH,.slice bQ t.dH.length bU,.slice cI t.wins.length cJ,.slice bY t.built.length bZ,.slice cL t.base.length cM] 37)).alloc (.cells #[.int .i64 d.lot,.slice cQ d.phases.length cR] 40)) w.heap.size [.slice aO t.plan.defs.length aP,.slice ax t.plan.tables.length ay,.slice aG t.plan.zones.length aH,.slice aB t.plan.rules.length aC,.slice aQ t.plan.caps.length aR,.slice aI t.plan.views.length aJ,.slice bk t.plan.eA.length bm,.int .i64 t.plan.hours,.slice cG t.land.length cH,.slice bQ t.dH.length bU,.slice cI t.wins.length cJ,.slice bY t.built.length bZ,.slice cL t.base.length cM] 37 from(Bx.new w [.slice aO t.plan.defs.length aP,.slice ax t.plan.tables.length ay,.slice aG t.plan.zones.length aH,.slice aB t.plan.rules.length aC,.slice aQ t.plan.caps.length aR,.slice aI t.plan.views.length aJ,.slice bk t.plan.eA.length bm,.int .i64 t.plan.hours,.slice cG t.land.length cH,.slice bQ t.dH.length bU,.slice cI t.wins.length cJ,.slice bY t.built.length bZ,.slice cL t.base.length cM] 37).up _);go_loopw [12] (fun i wr=> ∃(k:Nat),k<=n/\i=.int .i64 k/\af ((w.alloc (.cells #[.slice aO t.plan.defs.length aP,.slice ax t.plan.tables.length ay,.slice aG t.plan.zones.length aH,.slice aB t.plan.rules.length aC,.slice aQ t.plan.caps.length aR,.slice aI t.plan.views.length aJ,.slice bk t.plan.eA.length bm,.int .i64 t.plan.hours,.slice cG t.land.length cH,.slice bQ t.dH.length bU,.slice cI t.wins.length cJ,.slice bY t.built.length bZ,.slice cL t.base.length cM] 37)).alloc (.cells #[.int .i64 d.lot,.slice cQ d.phases.length cR] 40)) wr/\∀(j:Nat)(e:fN),j<k->l[j]?=some e->xU day t.plan.rules e) (fun i _=>n - (intOf i).toNat)
     case atStart=>exact⟨0,by omega,rfl,ae,fun j e hj=>by omega⟩
     case round=>
      obtain⟨k,hkn,rfl,⟨y,rfl⟩,hall⟩:=hrel;have ey:=aa hall;clear hall;by_cases hlt:k<n
      ·obtain⟨e,he⟩:=HL.zo.ex hlt
       obtain⟨b,off,rfl,lb,c0,c1,c3,c7⟩:=Li HL.zo he;have HEK:=aa he;clear he;have next:xU day t.plan.rules e->∀(j:Nat)(x:fN),j<k+1->l[j]?=some x->xU day t.plan.rules x:=fun hle j x hj hx=>by
        rcases Nat.lt_or_ge j k with h5|h5
        ·exact ey.zo j x h5 hx
        ·obtain rfl:j=k:=by omega
         have e5:=HEK.zo;rw[hx]at e5;cases e5;exact hle
       have NEXT:=aa next;clear next;by_cases k5:e.kind=5
       ·rw[k5]at c0
        go_wp2_with (first|(refine wp_loop_rounds 1 ?_;rw[rounds_succ])|(rw[rounds_succ]))
        all_goals exact⟨⟨k+1,by omega,by go_num,ae,NEXT.zo (.inl k5)⟩,by simp[intOf];omega⟩
       ·by_cases k0:e.kind=0
        ·rw[k0]at c0
         by_cases hs:day<e.rule.start
         ·have q2:decide (day<e.rule.start)=true:=zdt hs
          go_wp2_with (first|(refine wp_loop_rounds 1 ?_;rw[rounds_succ])|(rw[rounds_succ]))
          all_goals exact⟨⟨k+1,by omega,by go_num,ae,NEXT.zo (.inr (.inl ⟨k0,hs⟩))⟩,by simp[intOf];omega⟩
         ·have q2:decide (day<e.rule.start)=false:=jE hs
          go_wp2_with (first|(refine wp_loop_rounds 1 ?_;rw[rounds_succ])|(rw[rounds_succ]))
          all_goals(go_ret;exact⟨rfl,ae⟩)
        ·by_cases k1:e.kind=1
         ·rw[k1]at c0
          go_wp2_with fail
          go_loopw [13,14] (fun g j wr=> ∃(m:Nat)(gb:Bool),m<=t.plan.rules.length/\j=.int .i64 m/\g=.bool gb/\af ((w.alloc (.cells #[.slice aO t.plan.defs.length aP,.slice ax t.plan.tables.length ay,.slice aG t.plan.zones.length aH,.slice aB t.plan.rules.length aC,.slice aQ t.plan.caps.length aR,.slice aI t.plan.views.length aJ,.slice bk t.plan.eA.length bm,.int .i64 t.plan.hours,.slice cG t.land.length cH,.slice bQ t.dH.length bU,.slice cI t.wins.length cJ,.slice bY t.built.length bZ,.slice cL t.base.length cM] 37)).alloc (.cells #[.int .i64 d.lot,.slice cQ d.phases.length cR] 40)) wr/\(gb=true->day<e.n/\∀(i:Nat)(r:Rule),i<m->t.plan.rules[i]?=some r->iL e.name r=true->r.stop=0∨day<r.stop)) (fun _ j _=>t.plan.rules.length - (intOf j).toNat)
          case atStart=>exact⟨0,decide (day<e.n),by omega,rfl,rfl,ae,fun hg=>⟨of_decide_eq_true hg,fun i r hi=>by omega⟩⟩
          case round=>
           obtain⟨m,gb,hm,rfl,rfl,hx2,hgb⟩:=hrel;have ad6:af w wr:=af.trans ae hx2;have ct3:wr.cell? ⟨w.heap.size,3,none⟩=some (.slice aB t.plan.rules.length aC):=((HBT.zo.exts hx2).cell 3).trans rfl;have ltw:=bP ct3;have c0:=af.cell ad6 c0;have c1:=af.cell ad6 c1;have HGB:=aa hgb;clear hgb;by_cases hlt2:m<t.plan.rules.length
           ·obtain⟨r,hr⟩:=Yr.zo.ex hlt2
            obtain⟨rb,ro,rc,hro,lrb,hR,hld⟩:=Yr.zo.ld hr;subst hro;obtain⟨cN,cO,dY,dZ,ej,ek,rfl,y0,y1,y2,y3,y4,y5,y6,y7,y8,y9,y10,y11,y12,y13,y14⟩:=hR;have HRR:=aa hr;clear hr y0 y1 y2 y3 y4 y5 y6 y7 y8 y9 y10 y11 y12 y13 y14;have NX:=aa (show∀g:Bool,(g=true->gb=true/\(iL e.name r=true->r.stop=0∨day<r.stop))->g=true->day<e.n/\∀(i:Nat)(x:Rule),i<m+1->t.plan.rules[i]?=some x->iL e.name x=true->x.stop=0∨day<x.stop from fun g h hg=>by
             obtain⟨h1,h2⟩:=h hg;obtain⟨h3,h4⟩:=HGB.zo h1;refine⟨h3,fun i x hi hx hn=> ?_⟩;rcases Nat.lt_or_ge i m with h6|h6
             ·exact h4 i x h6 hx hn
             ·obtain rfl:i=m:=by omega
              have e5:=HRR.zo;rw[hx]at e5;cases e5;exact h2 hn)
            rcases ad5 gb (iL e.name r) r.stop with rfl|⟨rfl,hnm|⟨hnm,hs0|hs0⟩⟩;all_goals try have ah3:=(show(r.name.toList==e.name.toList)=iL e.name r from rfl).trans hnm
            all_goals try first|have qs0:=beq_iff_eq.2 hs0|have qs0:=beq_eq_false_iff_ne.2 hs0
            all_goals
             go_wp2_with fail
             refine bI ?_;intro U hU;have hxU:af wr U:=by rw[hU];exact ae
             have HBU:=aa (Bx.mv hU rfl);have cb:=fun(i:Nat) wz(he:af U wz)=>(HBU.zo.exts he).cell i
             have ce1:∀wz,af U wz->wz.cell? ⟨b,off+k*30+1,none⟩=some (.string e.name):=fun wz he=>af.cell (hxU.trans he) c1
             have CV:=aa (hx2.trans hxU);clear hU hxU;first|refine eK ?_|refine eJ ?_
             repeat (go_big_quiet_step (fail))
             refine eM fun xq=> ?_
             go_wp2;exact⟨⟨m+1,_,by omega,by go_num,rfl,CV.zo.trans ae,NX.zo _ (by first|exact fun h=>Bool.noConfusion h|exact fun h=>h.elim|exact fun _=>⟨trivial,fun _=> .inl hs0⟩|exact fun hg=>⟨trivial,fun _=> .inr (of_decide_eq_true hg)⟩|exact fun _=>⟨trivial,fun h5=>Bool.noConfusion (hnm.symm.trans h5)⟩)⟩,by simp[intOf];omega⟩
           ·obtain rfl:m=t.plan.rules.length:=by omega
            cases gb with
            |false=>
             go_wp2_with fail
             all_goals(go_ret;exact⟨rfl,af.trans ae hx2⟩)
            |true=>
             go_wp2_with fail
             all_goals exact⟨⟨k+1,by omega,by go_num,hx2,NEXT.zo (.inr (.inr ⟨k1,(HGB.zo rfl).1,fun r hr hn=>by
              obtain⟨i,hi⟩:=List.getElem?_of_mem hr;exact(HGB.zo rfl).2 i r (bw hi).1 hi hn⟩))⟩,by simp[intOf];omega⟩
         ·have q5:(e.kind==5)=false:=beq_eq_false_iff_ne.2 k5
          have q6:(e.kind==0)=false:=beq_eq_false_iff_ne.2 k0;have q7:(e.kind==1)=false:=beq_eq_false_iff_ne.2 k1;go_wp2_with (first|(refine wp_loop_rounds 1 ?_;rw[rounds_succ])|(rw[rounds_succ]))
          all_goals(go_ret;exact⟨rfl,ae⟩)
      ·obtain rfl:k=n:=by omega
       have hlen:l.length=k:=HL.zo.1;have hle:k<=5:=by have:=HE.zo.1;omega
       have HKK:=aa (show∀e∈l,zi e/\oN e.rule from fun e he=>by
        obtain⟨j,hj⟩:=List.getElem?_of_mem he;refine⟨?_,(HE.zo.2 j e hj).1⟩;rcases ey.zo j e (by have:=(bw hj).1;omega) hj with h5|h5|h5
        ·exact .inr (.inr h5)
        ·exact .inl h5.1
        ·exact .inr (.inl h5.1))
       have HLT:=aa (show∀e∈l,xU day t.plan.rules e from fun e he=>by
        obtain⟨j,hj⟩:=List.getElem?_of_mem he;exact ey.zo j e (by have:=(bw hj).1;omega) hj)
       have HPW:=aa HF.zo.plan.w;clear ey;go_wp2_with fail
       with_reducible refine ag (SY t.plan l _ _ _ _ 5 _ ?_ ?_ ?_ HKK.zo HPW.zo ?_) ?_
       ·exact HG.zo.exts ae
       ·exact(bq).exts HP.zo ae
       ·exact HL.zo.exts ae
       ·omega
       rintro e W3 ⟨c3,rfl,⟨x3,rfl⟩,⟨u1,v1,z1,u2,v2,z2,u3,v3,z3,u4,v4,z4,u5,v5,z5,u6,v6,z6,u7,v7,z7,h4,rfl⟩,hr3⟩;by_cases hce:oU t.plan l=0
       ·rw[hce]
        obtain⟨hrp,q,hq⟩:=Lh hce;have hr3:=hr3 q hrp hq;try simp only[bf,au,ai]at hr3
        have HR3:=aa hr3;have YL:=JB l t.plan q 5 HPW.zo (fun e he=>(HKK.zo e he).2) hq;have hta:=JC HF.zo hold hrp;have htb:=ui HF.zo hold YL.1 (by omega) YL.2 hrp;have hlat:kq day t.plan q:=wW l t.plan q (kq.refl day t.plan) HLT.zo hq;obtain⟨la,hla⟩:∃x,gG t d day=x:=⟨_,rfl⟩;obtain⟨lb,hlb⟩:∃x,gG t d (jF 0 (day - ahead))=x:=⟨_,rfl⟩;have hma:gG {t with plan:=q} d day=la:=(pR hlat t d).trans hla;have hmb:gG {t with plan:=q} d (jF 0 (day - ahead))=lb:=(pR (hlat.le (by unfold jF;have:=HA.zo;omega)) t d).trans hlb;have A1:=aa (show∀ts ds w,Gl w->(gg).R w ts t->(e6).R w ds d->Calls prog 9 #[.agg ts.toArray,.agg ds.toArray,.int .i64 day] w (xn la w)from fun ts ds w h1 h2 h3=>by rw[<-hla];exact mq t d day ts ds w h1 h2 h3 hta);have A2:=aa (show∀ts ds w,Gl w->(gg).R w ts {t with plan:=q}->(e6).R w ds d->Calls prog 9 #[.agg ts.toArray,.agg ds.toArray,.int .i64 day] w (xn la w)from fun ts ds w h1 h2 h3=>by rw[<-hma];exact mq _ d day ts ds w h1 h2 h3 htb);have B1:=aa (show∀ts ds w,Gl w->(gg).R w ts t->(e6).R w ds d->Calls prog 9 #[.agg ts.toArray,.agg ds.toArray,.int .i64 (jF 0 (day - ahead))] w (xn lb w)from fun ts ds w h1 h2 h3=>by rw[<-hlb];exact mq t d _ ts ds w h1 h2 h3 hta);have B2:=aa (show∀ts ds w,Gl w->(gg).R w ts {t with plan:=q}->(e6).R w ds d->Calls prog 9 #[.agg ts.toArray,.agg ds.toArray,.int .i64 (jF 0 (day - ahead))] w (xn lb w)from fun ts ds w h1 h2 h3=>by rw[<-hmb];exact mq _ d _ ts ds w h1 h2 h3 htb);obtain⟨la,ca⟩:=la;obtain⟨lb,cb⟩:=lb;clear hr3 hla hlb hma hmb hlat YL hta htb hq hrp hce HLT HKK HPW;have haa:=HA.zo;have e1:IntKind.i64.wrap ahead=ahead:=ji (by omega) (by omega);have e2:IntKind.i64.wrap (day - ahead)=day - ahead:=ji (by omega) (by omega);go_wp2_with fail
        with_reducible refine ag (A1.zo _ _ _ ?_ ?_ ?_) ?_
        ·exact HG.zo.exts ae
        ·exact(gg).exts HT.zo ae
        ·exact(e6).exts HD.zo ae
        rintro e W4 ⟨o4,k4,rfl,⟨x4,rfl⟩,hs4⟩;try simp only[bf,au,ai]at hs4
        have X7:=aa hs4;clear hs4;go_wp2_with fail
        with_reducible refine ag (A2.zo _ _ _ ?_ ?_ ?_) ?_
        ·exact HG.zo.exts ae
        ·exact xr ((bq).exts HR3.zo ae) (HT8.zo.exts ae) (HT9.zo.exts ae) (Pb.zo.exts ae) (Pc.zo.exts ae) (Pd.zo.exts ae)
        ·exact(e6).exts HD.zo ae
        rintro e W5 ⟨o5,k5,rfl,⟨x5,rfl⟩,hs5⟩;try simp only[bf,au,ai]at hs5
        have HS5:=aa hs5;clear hs5;go_wp2_with fail
        with_reducible refine ag (Aj _ _ _ _ _ la _ ?_ ?_) ?_
        ·exact X7.zo.exts ae
        ·exact HS5.zo.exts ae
        rintro e W6 ⟨rfl,⟨x6,rfl⟩⟩;go_wp2_with fail
        with_reducible refine ag (B1.zo _ _ _ ?_ ?_ ?_) ?_
        ·exact HG.zo.exts ae
        ·exact(gg).exts HT.zo ae
        ·exact(e6).exts HD.zo ae
        rintro e W7 ⟨o7,k7,rfl,⟨x7,rfl⟩,hs7⟩;try simp only[bf,au,ai]at hs7
        have HS7:=aa hs7;clear hs7;go_wp2_with fail
        with_reducible refine ag (B2.zo _ _ _ ?_ ?_ ?_) ?_
        ·exact HG.zo.exts ae
        ·exact xr ((bq).exts HR3.zo ae) (HT8.zo.exts ae) (HT9.zo.exts ae) (Pb.zo.exts ae) (Pc.zo.exts ae) (Pd.zo.exts ae)
        ·exact(e6).exts HD.zo ae
        rintro e W8 ⟨o8,k8,rfl,⟨x8,rfl⟩,hs8⟩;try simp only[bf,au,ai]at hs8
        have HS9:=aa hs8;clear hs8;go_wp2_with fail
        with_reducible refine ag (Aj _ _ _ _ _ lb _ ?_ ?_) ?_
        ·exact HS7.zo.exts ae
        ·exact HS9.zo.exts ae
        rintro e W9 ⟨rfl,⟨x9,rfl⟩⟩;go_wp2_with fail
        go_ret;exact⟨rfl,ae⟩
       ·have qce:(oU t.plan l==0)=false:=beq_eq_false_iff_ne.2 hce
        go_wp2_with fail
        go_ret;exact⟨rfl,ae⟩
end Go.Proofs.YtomgpelfmgkknaaGreatDoor
