/- Lemmas for the law. No conditions. -/
import Derived.Test.YtomgpelfmgkknaaGreatDoorM6
import Derived.Test.YtomgpelfmgkknaaGreatDoorM8
namespace Go.Proofs.YtomgpelfmgkknaaGreatDoor
open Go.RowKit Go.Maps
open Go.Proofs.Tryz
set_option maxRecDepth 100000
set_option maxHeartbeats 40000000
set_option linter.unusedVariables false
set_option linter.unusedSimpArgs false
theorem nL{l:List Pt}{k:Nat}(hk:k<l.length)(h:kO l k=false):jt l=false:=by
 have:(List.range l.length).all (kO l)=false:=by
  rw[List.all_eq_false];exact⟨k,List.mem_range.2 hk,by rw[h];simp⟩
 unfold jt;rw[this];simp
theorem Hv{l:List Pt}{i k:Nat}(hi:i<l.length)(hk:k<l.length)(hik:i+2<=k)(h:mh l i k=false):jt l=false:=by
 have:(List.range l.length).all (fun i=>(List.range l.length).all fun k=>decide (k<i+2)||mh l i k)=false:=by
  rw[List.all_eq_false];refine⟨i,List.mem_range.2 hi,?_⟩;have:(List.range l.length).all (fun k=>decide (k<i+2)||mh l i k)=false:=by
   rw[List.all_eq_false];refine⟨k,List.mem_range.2 hk,?_⟩;rw[h,jE (by omega)];simp
  rw[this];simp
 unfold jt;rw[this];simp
theorem NK{l:List Pt}(h1:4<=l.length)(h2:l.length<=60)(hc:∀j,j<l.length->kO l j=true)(ha:∀i k,i<l.length->k<l.length->i+2<=k->mh l i k=true):jt l= !(xN (fH l 0)):=by
 have e1:(List.range l.length).all (kO l)=true:=by
  rw[List.all_eq_true];exact fun x hx=>hc x (List.mem_range.1 hx)
 have e2:(List.range l.length).all (fun i=>(List.range l.length).all fun k=>decide (k<i+2)||mh l i k)=true:=by
  rw[List.all_eq_true];intro i hi;rw[List.all_eq_true];intro k hk;rcases Nat.lt_or_ge k (i+2)with h|h
  ·rw[zdt h];rfl
  ·rw[ha i k (List.mem_range.1 hi) (List.mem_range.1 hk) h];simp
 unfold jt;rw[e1,e2,zdt h1,zdt h2];rfl
theorem Hw(ao:Option Addr)(n c:Nat)(l:List Pt)(w:World)(h:Sl zV w ao n c l)(h1:4<=n)(h2:n<=60):Calls prog 147 #[.slice ao n c] w (cX (.bool (jt l)) w):=by
 obtain⟨res,hres⟩:∃r,jt l=r:=⟨_,rfl⟩;rw[hres];have aD:=aa hres;have H:=aa h;have HL:=aa h.1;have HN:Hid ((mI l).length=n):=aa ((NJ l).trans h.1);clear h hres;have q1:decide ((n:Int)<4)=false:=jE (by omega);have q2:decide ((60:Int)<(n:Int))=false:=jE (by omega);go_enter func147,ntmps147;go_wp2_with ((with_reducible refine(D5 ao n c l _ (by omega) (H.zo.exts ae)).mono ?_);rintro e W1 ⟨v,rfl,hv,hx⟩;obtain⟨so,sc,rfl,hs⟩:=hv;rw[HN.zo]at hs ⊢;(have HS:=aa hs);(have HX:=aa hx);(have H1:=aa (H.zo.exts (show af w W1 from hx)));clear hs hx)
 go_loopw [21] (fun i wr=> ∃(k:Nat),k<=n/\i=.int .i64 k/\af W1 wr/\∀j,j<k->kO l j=true) (fun i _=>n - (intOf i).toNat)
 case atStart=>exact⟨0,by omega,rfl,af.refl _,fun j hj=>by omega⟩
 case round=>
  obtain⟨k,hk,rfl,⟨z,rfl⟩,hall⟩:=hrel;have HA:=aa hall;clear hall;by_cases hlt:k<n
  ·have hd:=sJ (l:=l) (i:=k) (by rw[HL.zo];exact hlt)
   have hlt2:(k+1)%n<n:=Nat.mod_lt _ (by omega);have hd2:=sJ (l:=l) (i:=(k+1)%n) (by rw[HL.zo];exact hlt2);have HC:=aa (show kO l k=_ from rfl);have HCk:kO l k=(nJ (fH l k).a&& !(((fH l k).a.x==(fH l k).b.x)==((fH l k).a.y==(fH l k).b.y))&& !(xN (fH l k)==xN (fH l ((k+1)%l.length)))&& !(decide (0<k)&&decide (0<=DN (ES l 0) (ES l k)))):=rfl;rw[HL.zo]at HCk;obtain⟨s,hs⟩:∃s,fH l k=s:=⟨_,rfl⟩;obtain⟨t,ht⟩:∃t,fH l ((k+1)%n)=t:=⟨_,rfl⟩;rw[hs]at hd HCk;rw[ht]at hd2 HCk;obtain⟨b,off,cs,hso,lb,hR,cZ⟩:=HS.zo.ld hd;obtain⟨b2,off2,cs2,h2',Uz,hR2,L6⟩:=HS.zo.ld hd2;subst hso;simp only[Option.some.injEq,Addr.mk.injEq,and_true]at h2';obtain⟨rfl,rfl⟩:=h2';obtain⟨rfl,i0,i1,i2,i3⟩:=hR;obtain⟨rfl,j0,j1,j2,j3⟩:=hR2;obtain⟨m,hm⟩:∃m,(k+1)%n=m:=⟨_,rfl⟩;rw[hm]at L6 hlt2;have WM:((k:Int)+1)%(n:Int)=(m:Int):=by
    rw[<-hm];rfl
   have hld:∀w',af (av W1 z) w'->_:=fun w' he=>cZ w' ((show af W1 (av W1 z)from ae).trans he)
   have Ez:∀w',af (av W1 z) w'->_:=fun w' he=>L6 w' ((show af W1 (av W1 z)from ae).trans he)
   have PB:=aa HCk;clear hd hd2 hs ht HCk HC cZ L6 hm i0 i1 i2 i3 j0 j1 j2 j3;cases q3:nJ s.a with
   |false=>
    have HF:=aa (show res=false by rw[<-aD.zo];exact nL (by rw[HL.zo];exact hlt) (by rw[PB.zo,q3];rfl));go_wp2;first|refine eK ?_|refine eJ ?_
    repeat (go_big_quiet_step (((first|(go_at_call 225;exact Calls.dJ (nU _ _))|(go_at_call 226;exact Calls.dJ (j9 _ _))))))
    refine eM fun xq=> ?_
    go_wp2;go_ret;exact⟨by rw[HF.zo];rfl,HX.zo.trans ae⟩
   |true=>
   cases q4:((s.a.x==s.b.x)==(s.a.y==s.b.y))with
   |true=>
    have HF:=aa (show res=false by rw[<-aD.zo];exact nL (by rw[HL.zo];exact hlt) (by rw[PB.zo,q3,q4];rfl));go_wp2;first|refine eK ?_|refine eJ ?_
    repeat (go_big_quiet_step (((first|(go_at_call 225;exact Calls.dJ (nU _ _))|(go_at_call 226;exact Calls.dJ (j9 _ _))))))
    refine eM fun xq=> ?_
    go_wp2;go_ret;exact⟨by rw[HF.zo];rfl,HX.zo.trans ae⟩
   |false=>
   cases q5:(xN s==xN t)with
   |true=>
    have HF:=aa (show res=false by rw[<-aD.zo];exact nL (by rw[HL.zo];exact hlt) (by rw[PB.zo,q3,q4,q5];rfl));go_wp2;first|refine eK ?_|refine eJ ?_
    repeat (go_big_quiet_step (((first|(go_at_call 225;exact Calls.dJ (nU _ _))|(go_at_call 226;exact Calls.dJ (j9 _ _))))))
    refine eM fun xq=> ?_
    go_wp2;go_ret;exact⟨by rw[HF.zo];rfl,HX.zo.trans ae⟩
   |false=>
   cases q6:decide (0<k)with
   |false=>
    have HT:=aa (show kO l k=true by rw[PB.zo,q3,q4,q5,q6];rfl);have q7:decide ((0:Int)<(k:Int))=false:=by simpa using q6
    go_wp2;first|refine eK ?_|refine eJ ?_
    repeat (go_big_quiet_step (((first|(go_at_call 225;exact Calls.dJ (nU _ _))|(go_at_call 226;exact Calls.dJ (j9 _ _))))))
    refine eM fun xq=> ?_
    go_wp2;first|refine eK ?_|refine eJ ?_
    repeat (go_big_quiet_step (((go_at_call 227;exact Calls.dJ (uY _ _ _)))))
    refine eM fun xq=> ?_
    go_wp2;refine⟨⟨k+1,by omega,by go_num,ae,fun j hj=> ?_⟩,?_⟩
    ·rcases Nat.lt_or_ge j k with hjk|hjk
     ·exact HA.zo j hjk
     ·obtain rfl:j=k:=by omega
      exact HT.zo
    ·simp[intOf];omega
   |true=>
    have q7:decide ((0:Int)<(k:Int))=true:=by simpa using q6
    obtain⟨p0,hp0⟩:=H.zo.ex (i:=0) (by omega);obtain⟨p1,hp1⟩:=H.zo.ex (i:=k) (by omega);obtain⟨b3,acw,cs3,afa,lb3,VQ,Rp⟩:=H1.zo.ld hp0;obtain⟨b4,acy,cs4,h4',lb4,VB,ahs⟩:=H1.zo.ld hp1;subst afa;simp only[Option.some.injEq,Addr.mk.injEq,and_true]at h4';obtain⟨rfl,rfl⟩:=h4';obtain⟨rfl,i0,i1⟩:=VQ;obtain⟨rfl,j0,j1⟩:=VB;simp only[Nat.zero_mul,Nat.add_zero]at Rp;have e0:=tW hp0;have e1:=tW hp1;rw[e0,e1]at PB;clear e0 e1 hp0 hp1 i0 i1 j0 j1;cases q8:decide (0<=DN p0 p1)with
    |true=>
     have HF:=aa (show res=false by rw[<-aD.zo];exact nL (by rw[HL.zo];exact hlt) (by rw[PB.zo,q3,q4,q5,q6,q8];rfl));go_wp2;first|refine eK ?_|refine eJ ?_
     repeat (go_big_quiet_step (((first|(go_at_call 225;exact Calls.dJ (nU _ _))|(go_at_call 226;exact Calls.dJ (j9 _ _))))))
     refine eM fun xq=> ?_
     go_wp2;first|refine eK ?_|refine eJ ?_
     repeat (go_big_quiet_step (((go_at_call 227;exact Calls.dJ (uY p0 p1 _)))))
     refine eM fun xq=> ?_
     go_wp2;go_ret;exact⟨by rw[HF.zo];rfl,HX.zo.trans ae⟩
    |false=>
     have HT:=aa (show kO l k=true by rw[PB.zo,q3,q4,q5,q6,q8];rfl);go_wp2;first|refine eK ?_|refine eJ ?_
     repeat (go_big_quiet_step (((first|(go_at_call 225;exact Calls.dJ (nU _ _))|(go_at_call 226;exact Calls.dJ (j9 _ _))))))
     refine eM fun xq=> ?_
     go_wp2;first|refine eK ?_|refine eJ ?_
     repeat (go_big_quiet_step (((go_at_call 227;exact Calls.dJ (uY p0 p1 _)))))
     refine eM fun xq=> ?_
     go_wp2;refine⟨⟨k+1,by omega,by go_num,ae,fun j hj=> ?_⟩,?_⟩
     ·rcases Nat.lt_or_ge j k with hjk|hjk
      ·exact HA.zo j hjk
      ·obtain rfl:j=k:=by omega
       exact HT.zo
     ·simp[intOf];omega
  ·obtain rfl:k=n:=by omega
   have HC:=HA.zo;obtain⟨d0,hd0⟩:=HS.zo.ex (i:=0) (by omega);obtain⟨b,off,cs0,hso,JJ,hR0,cZ⟩:=HS.zo.ld hd0;subst hso;obtain⟨rfl,_,_,_,_⟩:=hR0;have e0:fH l 0=d0:=by
    have:=sJ (l:=l) (i:=0) (by rw[HL.zo];omega);rw[hd0]at this;exact(Option.some.inj this).symm
   have HE0:=aa e0;simp only[Nat.zero_mul,Nat.add_zero]at cZ;have HCC:=aa HC;clear e0 hd0 HA HC;go_wp2;go_loopw [78] (fun i wr=> ∃(i0:Nat),i0<=k/\i=.int .i64 i0/\af W1 wr/\∀j t,j<i0->t<k->j+2<=t->mh l j t=true) (fun i _=>k - (intOf i).toNat)
   case atStart=>exact⟨0,by omega,rfl,ae,fun j t hj=>by omega⟩
   case round=>
    obtain⟨i0,hi0,rfl,⟨z2,rfl⟩,hall⟩:=hrel;have HA:=aa hall;clear hall;by_cases hlt:i0<k
    ·go_wp2
     go_loopw [8] (fun i wr=> ∃(t:Nat),i0+2<=t/\t<=k+1/\i=.int .i64 t/\af W1 wr/\∀u,u<t->u<k->i0+2<=u->mh l i0 u=true) (fun i _=>k+1 - (intOf i).toNat)
     case atStart=>exact⟨i0+2,by omega,by omega,by go_num,ae,fun u h1 h2 h3=>by omega⟩
     case round=>
      obtain⟨t,ht1,ht2,rfl,⟨z3,rfl⟩,hin⟩:=hrel;have HI:=aa hin;clear hin;by_cases hlt2:t<k
      ·have Hx:mh l i0 t= !(decide (1<i0+l.length - t)&&xO (fH l i0) (fH l t)):=rfl
       rw[HL.zo]at Hx;have hd:=sJ (l:=l) (i:=i0) (by rw[HL.zo];exact hlt);have hd2:=sJ (l:=l) (i:=t) (by rw[HL.zo];exact hlt2);obtain⟨s1,hs1⟩:∃s,fH l i0=s:=⟨_,rfl⟩;obtain⟨s2,hs2⟩:∃s,fH l t=s:=⟨_,rfl⟩;rw[hs1]at hd Hx;rw[hs2]at hd2 Hx;obtain⟨b1,off1,cs1,acQ,lb1,hR1,aht⟩:=HS.zo.ld hd;obtain⟨b2,off2,cs2,acR,Uz,hR2,L6⟩:=HS.zo.ld hd2;simp only[Option.some.injEq,Addr.mk.injEq,and_true]at acQ acR;obtain⟨rfl,rfl⟩:=acQ;obtain⟨rfl,rfl⟩:=acR;obtain⟨rfl,_,_,_,_⟩:=hR1;obtain⟨rfl,_,_,_,_⟩:=hR2;have Zy:=aa Hx;clear Hx hd hd2 hs1 hs2;have ww:IntKind.i64.wrap ((i0:Int)+(k:Int) - (t:Int))=(i0:Int)+(k:Int) - (t:Int):=ji (by omega) (by omega);cases q3:decide (1<i0+k - t)with
       |false=>
        have q4:decide ((1:Int)<(i0:Int)+(k:Int) - (t:Int))=false:=by
         rw[decide_eq_false_iff_not]at q3 ⊢;omega
        have HT:=aa (show mh l i0 t=true by rw[Zy.zo,q3];rfl);go_wp2;first|refine eK ?_|refine eJ ?_
        repeat (go_big_quiet_step (((go_at_call 228;exact Calls.dJ (uX _ _ _)))))
        refine eM fun xq=> ?_
        go_wp2;refine⟨⟨t+1,by omega,by omega,by go_num,ae,fun u h1 h2 h3=> ?_⟩,?_⟩
        ·rcases Nat.lt_or_ge u t with hjk|hjk
         ·exact HI.zo u hjk h2 h3
         ·obtain rfl:u=t:=by omega
          exact HT.zo
        ·simp[intOf];omega
       |true=>
        have q4:decide ((1:Int)<(i0:Int)+(k:Int) - (t:Int))=true:=by
         rw[decide_eq_true_eq]at q3 ⊢;omega
        cases q5:xO s1 s2 with
        |true=>
         have HF:=aa (show res=false by rw[<-aD.zo];exact Hv (by rw[HL.zo];exact hlt) (by rw[HL.zo];exact hlt2) ht1 (by rw[Zy.zo,q3,q5];rfl));go_wp2;first|refine eK ?_|refine eJ ?_
         repeat (go_big_quiet_step (((go_at_call 228;exact Calls.dJ (uX s1 s2 _)))))
         refine eM fun xq=> ?_
         go_wp2;go_ret;exact⟨by rw[HF.zo];rfl,HX.zo.trans ae⟩
        |false=>
         have HT:=aa (show mh l i0 t=true by rw[Zy.zo,q3,q5];rfl);go_wp2;first|refine eK ?_|refine eJ ?_
         repeat (go_big_quiet_step (((go_at_call 228;exact Calls.dJ (uX s1 s2 _)))))
         refine eM fun xq=> ?_
         go_wp2;refine⟨⟨t+1,by omega,by omega,by go_num,ae,fun u h1 h2 h3=> ?_⟩,?_⟩
         ·rcases Nat.lt_or_ge u t with hjk|hjk
          ·exact HI.zo u hjk h2 h3
          ·obtain rfl:u=t:=by omega
           exact HT.zo
         ·simp[intOf];omega
      ·go_wp2
       refine⟨⟨i0+1,by omega,by go_num,ae,fun j u hj hu hju=> ?_⟩,?_⟩
       ·rcases Nat.lt_or_ge j i0 with h1|h1
        ·exact HA.zo j u h1 hu hju
        ·obtain rfl:j=i0:=by omega
         exact HI.zo u (by omega) hu hju
       ·simp[intOf];omega
    ·obtain rfl:i0=k:=by omega
     have HF:=aa (show res= !(xN d0)by rw[<-aD.zo,<-HE0.zo];exact NK (by rw[HL.zo];exact h1) (by rw[HL.zo];exact h2) (fun j hj=>HCC.zo j (by rw[HL.zo]at hj;exact hj)) (fun i u hi hu hiu=>HA.zo i u (by rw[HL.zo]at hi;exact hi) (by rw[HL.zo]at hu;exact hu) hiu));go_wp2_with ((with_reducible refine(j9 d0 _).mono ?_);rintro e w' ⟨rfl,x9,rfl⟩)
     go_ret;exact⟨by rw[HF.zo];rfl,HX.zo.trans ae⟩
theorem Hy(ao:Option Addr)(n c:Nat)(l:List Pt)(w:World)(h:Sl zV w ao n c l):Calls prog 147 #[.slice ao n c] w (cX (.bool (jt l)) w):=by
 by_cases hn:n<4∨60<n
 ·exact CW ao n c l w h hn
 ·exact Hw ao n c l w h (by omega) (by omega)
theorem Hz(ao:Option Addr)(n c:Nat)(l:List Pt)(w:World)(h:Sl zV w ao n c l):Calls prog 58 #[.slice ao n c] w (cX (.bool (jt l)) w):=by
 have H:=aa h;clear h;go_enter func58,ntmps58;go_wp2_with ((with_reducible refine(Hy _ _ _ l _ (H.zo.exts ae)).mono ?_);rintro e w' ⟨rfl,x9,rfl⟩)
 go_ret;exact⟨rfl,ae⟩
def Iw(a b:Def):Bool:=(a.name.toList==b.name.toList)&&(JI a.body b.body)
theorem NT(a b:Def)(cs cs2:zv)(w:World)(h:(mC).R w cs a)(h2:(mC).R w cs2 b):Calls prog 269 #[.agg cs.toArray,.agg cs2.toArray] w (cX (.bool (Iw a b)) w):=by
 obtain⟨RA,RB,rfl,p0,p1⟩:=h;obtain⟨RD,RF,rfl,r0,r1⟩:=h2;have H1:=aa p1;have G1:=aa r1;clear p0 p1 r0 r1;obtain⟨res,hres⟩:∃r,Iw a b=r:=⟨_,rfl⟩;rw[hres];have aD:=aa hres;clear hres;cases q0:(a.name.toList==b.name.toList)with
 |false=>
  go_enter func269,ntmps269;go_wp2;go_ret;exact⟨by rw[<-aD.zo];simp only[Iw, *];rfl,ae⟩
 |true=>
  cases q1:JI a.body b.body with
  |false=>
   have Q1:=aa q1;clear q1;go_enter func269,ntmps269;go_wp2_with ((with_reducible refine(fp a.body b.body _ _ _ (H1.zo.exts ae).shut (G1.zo.exts ae).shut).mono ?_);rintro e w' ⟨rfl,x9,rfl⟩;rw[Q1.zo])
   go_ret;exact⟨by rw[<-aD.zo];simp only[Iw,Q1.zo, *];rfl,ae⟩
  |true=>
   have Q1:=aa q1;clear q1;go_enter func269,ntmps269;go_wp2_with ((with_reducible refine(fp a.body b.body _ _ _ (H1.zo.exts ae).shut (G1.zo.exts ae).shut).mono ?_);rintro e w' ⟨rfl,x9,rfl⟩;rw[Q1.zo])
   go_ret;exact⟨by rw[<-aD.zo];simp only[Iw,Q1.zo, *];rfl,ae⟩
def Fc(a b:xz):Bool:=(a.name.toList==b.name.toList)&&((a.els==b.els)&&(lj Ao a.rows b.rows))
theorem NU(a b:xz)(cs cs2:zv)(w:World)(h:(nB).R w cs a)(h2:(nB).R w cs2 b):Calls prog 270 #[.agg cs.toArray,.agg cs2.toArray] w (cX (.bool (Fc a b)) w):=by
 obtain⟨acW,acX,rfl,p0,p1,p2⟩:=h;obtain⟨acY,acZ,rfl,r0,r1,r2⟩:=h2;have H2:=aa p1;have G2:=aa r1;clear p0 p1 p2 r0 r1 r2;obtain⟨res,hres⟩:∃r,Fc a b=r:=⟨_,rfl⟩;rw[hres];have aD:=aa hres;clear hres;cases q0:(a.name.toList==b.name.toList)with
 |false=>
  go_enter func270,ntmps270;go_wp2;go_ret;exact⟨by rw[<-aD.zo];simp only[Fc, *];rfl,ae⟩
 |true=>
  cases q1:(a.els==b.els)with
  |false=>
   go_enter func270,ntmps270;go_wp2;go_ret;exact⟨by rw[<-aD.zo];simp only[Fc, *];rfl,ae⟩
  |true=>
   cases q2:lj Ao a.rows b.rows with
   |false=>
    have Q2:=aa q2;clear q2;go_enter func270,ntmps270;go_wp2_with ((with_reducible refine(Hi _ _ _ _ _ _ a.rows b.rows _ (H2.zo.exts ae) (G2.zo.exts ae)).mono ?_);rintro e w' ⟨rfl,x9,rfl⟩;rw[Q2.zo])
    go_ret;exact⟨by rw[<-aD.zo];simp only[Fc,Q2.zo, *];rfl,ae⟩
   |true=>
    have Q2:=aa q2;clear q2;go_enter func270,ntmps270;go_wp2_with ((with_reducible refine(Hi _ _ _ _ _ _ a.rows b.rows _ (H2.zo.exts ae) (G2.zo.exts ae)).mono ?_);rintro e w' ⟨rfl,x9,rfl⟩;rw[Q2.zo])
    go_ret;exact⟨by rw[<-aD.zo];simp only[Fc,Q2.zo, *];rfl,ae⟩
def rR(a b:Zone):Bool:=(a.name.toList==b.name.toList)&&((a.over==b.over)&&(lj Vd a.corners b.corners))
theorem Ku(a b:Zone)(cs cs2:zv)(w:World)(h:(jV).R w cs a)(h2:(jV).R w cs2 b):Calls prog 272 #[.agg cs.toArray,.agg cs2.toArray] w (cX (.bool (rR a b)) w):=by
 obtain⟨yU,yV,rfl,p0,p1⟩:=h;obtain⟨yX,yY,rfl,r0,r1⟩:=h2;have H2:=aa p1;have G2:=aa r1;clear p0 p1 r0 r1;obtain⟨res,hres⟩:∃r,rR a b=r:=⟨_,rfl⟩;rw[hres];have aD:=aa hres;clear hres;cases q0:(a.name.toList==b.name.toList)with
 |false=>
  go_enter func272,ntmps272;go_wp2;go_ret;exact⟨by rw[<-aD.zo];simp only[rR, *];rfl,ae⟩
 |true=>
  cases q1:(a.over==b.over)with
  |false=>
   go_enter func272,ntmps272;go_wp2;go_ret;exact⟨by rw[<-aD.zo];simp only[rR, *];rfl,ae⟩
  |true=>
   cases q2:lj Vd a.corners b.corners with
   |false=>
    have Q2:=aa q2;clear q2;go_enter func272,ntmps272;go_wp2_with ((with_reducible refine(qi _ _ _ _ _ _ a.corners b.corners _ (H2.zo.exts ae) (G2.zo.exts ae)).mono ?_);rintro e w' ⟨rfl,x9,rfl⟩;rw[Q2.zo])
    go_ret;exact⟨by rw[<-aD.zo];simp only[rR,Q2.zo, *];rfl,ae⟩
   |true=>
    have Q2:=aa q2;clear q2;go_enter func272,ntmps272;go_wp2_with ((with_reducible refine(qi _ _ _ _ _ _ a.corners b.corners _ (H2.zo.exts ae) (G2.zo.exts ae)).mono ?_);rintro e w' ⟨rfl,x9,rfl⟩;rw[Q2.zo])
    go_ret;exact⟨by rw[<-aD.zo];simp only[rR,Q2.zo, *];rfl,ae⟩
def xV(a b:Cap):Bool:=(a.name.toList==b.name.toList)&&((a.load==b.load)&&((a.limit==b.limit)&&(lj Vd a.corners b.corners)))
theorem NV(a b:Cap)(cs cs2:zv)(w:World)(h:(iR).R w cs a)(h2:(iR).R w cs2 b):Calls prog 273 #[.agg cs.toArray,.agg cs2.toArray] w (cX (.bool (xV a b)) w):=by
 obtain⟨yU,yV,rfl,p0,p1,p2,p3⟩:=h;obtain⟨yX,yY,rfl,r0,r1,r2,r3⟩:=h2;have H3:=aa p3;have G3:=aa r3;clear p0 p1 p2 p3 r0 r1 r2 r3;obtain⟨res,hres⟩:∃r,xV a b=r:=⟨_,rfl⟩;rw[hres];have aD:=aa hres;clear hres;cases q0:(a.name.toList==b.name.toList)with
 |false=>
  go_enter func273,ntmps273;go_wp2;go_ret;exact⟨by rw[<-aD.zo];simp only[xV, *];rfl,ae⟩
 |true=>
  cases q1:(a.load==b.load)with
  |false=>
   go_enter func273,ntmps273;go_wp2;go_ret;exact⟨by rw[<-aD.zo];simp only[xV, *];rfl,ae⟩
  |true=>
   cases q2:(a.limit==b.limit)with
   |false=>
    go_enter func273,ntmps273;go_wp2;go_ret;exact⟨by rw[<-aD.zo];simp only[xV, *];rfl,ae⟩
   |true=>
    cases q3:lj Vd a.corners b.corners with
    |false=>
     have Q3:=aa q3;clear q3;go_enter func273,ntmps273;go_wp2_with ((with_reducible refine(qi _ _ _ _ _ _ a.corners b.corners _ (H3.zo.exts ae) (G3.zo.exts ae)).mono ?_);rintro e w' ⟨rfl,x9,rfl⟩;rw[Q3.zo])
     go_ret;exact⟨by rw[<-aD.zo];simp only[xV,Q3.zo, *];rfl,ae⟩
    |true=>
     have Q3:=aa q3;clear q3;go_enter func273,ntmps273;go_wp2_with ((with_reducible refine(qi _ _ _ _ _ _ a.corners b.corners _ (H3.zo.exts ae) (G3.zo.exts ae)).mono ?_);rintro e w' ⟨rfl,x9,rfl⟩;rw[Q3.zo])
     go_ret;exact⟨by rw[<-aD.zo];simp only[xV,Q3.zo, *];rfl,ae⟩
def qu(a b:View):Bool:=(a.name.toList==b.name.toList)&&(((a.eye.x==b.eye.x)&&((a.eye.y==b.eye.y)&&(a.eye.z==b.eye.z)))&&((a.least==b.least)&&(lj Y0 a.targets b.targets)))
theorem Kv(a b:View)(cs cs2:zv)(w:World)(h:(kM).R w cs a)(h2:(kM).R w cs2 b):Calls prog 274 #[.agg cs.toArray,.agg cs2.toArray] w (cX (.bool (qu a b)) w):=by
 obtain⟨Yb,Yc,rfl,p0,p1,p2,p3,p4,p5⟩:=h;obtain⟨Yd,Ye,rfl,r0,r1,r2,r3,r4,r5⟩:=h2;have H3:=aa p5;have G3:=aa r5;clear p0 p1 p2 p3 p4 p5 r0 r1 r2 r3 r4 r5;obtain⟨res,hres⟩:∃r,qu a b=r:=⟨_,rfl⟩;rw[hres];have aD:=aa hres;clear hres;cases q0:(a.name.toList==b.name.toList)with
 |false=>
  go_enter func274,ntmps274;go_wp2;go_ret;exact⟨by rw[<-aD.zo];simp only[qu, *];rfl,ae⟩
 |true=>
  cases q1:((a.eye.x==b.eye.x)&&((a.eye.y==b.eye.y)&&(a.eye.z==b.eye.z)))with
  |false=>
   go_enter func274,ntmps274;go_wp2;go_ret;exact⟨by rw[<-aD.zo];simp only[qu, *];rfl,ae⟩
  |true=>
   cases q2:(a.least==b.least)with
   |false=>
    go_enter func274,ntmps274;go_wp2;go_ret;exact⟨by rw[<-aD.zo];simp only[qu, *];rfl,ae⟩
   |true=>
    cases q3:lj Y0 a.targets b.targets with
    |false=>
     have Q3:=aa q3;clear q3;go_enter func274,ntmps274;go_wp2_with ((with_reducible refine(AU _ _ _ _ _ _ a.targets b.targets _ (H3.zo.exts ae) (G3.zo.exts ae)).mono ?_);rintro e w' ⟨rfl,x9,rfl⟩;rw[Q3.zo])
     go_ret;exact⟨by rw[<-aD.zo];simp only[qu,Q3.zo, *];rfl,ae⟩
    |true=>
     have Q3:=aa q3;clear q3;go_enter func274,ntmps274;go_wp2_with ((with_reducible refine(AU _ _ _ _ _ _ a.targets b.targets _ (H3.zo.exts ae) (G3.zo.exts ae)).mono ?_);rintro e w' ⟨rfl,x9,rfl⟩;rw[Q3.zo])
     go_ret;exact⟨by rw[<-aD.zo];simp only[qu,Q3.zo, *];rfl,ae⟩
def jI(a b:Rule):Bool:=lj pN a.zones b.zones&&(lj pN a.exc b.exc&&(JI a.test b.test&&((a.name.toList==b.name.toList)&&((a.start==b.start)&&((a.stop==b.stop)&&((a.bM==b.bM)&&((a.vary==b.vary)&&((a.kind==b.kind)&&(((a.ah.side==b.ah.side)&&((a.ah.base==b.ah.base)&&((a.ah.num==b.ah.num)&&(a.ah.den==b.ah.den))))&&((a.uses==b.uses)&&((a.other==b.other)&&((a.n==b.n)))))))))))))
theorem iy(a b:Rule)(cs cs2:zv)(w:World)(h:(aw).R w cs a)(h2:(aw).R w cs2 b):Calls prog 148 #[.agg cs.toArray,.agg cs2.toArray] w (cX (.bool (jI a b)) w):=by
 obtain⟨NW,NY,aew,aex,ac0,ac1,rfl,p0,p1,p2,p3,p4,p5,p6,p7,p8,p9,p10,p11,p12,p13,p14⟩:=h;obtain⟨NZ,N7,aey,aez,ac2,ac3,rfl,r0,r1,r2,r3,r4,r5,r6,r7,r8,r9,r10,r11,r12,r13,r14⟩:=h2;have H0:=aa p1;have G0:=aa r1;have H1:=aa p2;have G1:=aa r2;have H2:=aa p7;have G2:=aa r7;clear p0 p1 p2 p3 p4 p5 p6 p7 p8 p9 p10 p11 p12 p13 p14 r0 r1 r2 r3 r4 r5 r6 r7 r8 r9 r10 r11 r12 r13 r14;obtain⟨res,hres⟩:∃r,jI a b=r:=⟨_,rfl⟩;rw[hres];have aD:=aa hres;clear hres;cases q0:lj pN a.zones b.zones with
 |false=>
  have Q0:=aa q0;clear q0;go_enter func148,ntmps148;go_wp2_with ((with_reducible refine(dT _ _ _ _ _ _ a.zones b.zones _ (H0.zo.exts ae) (G0.zo.exts ae)).mono ?_);rintro e w' ⟨rfl,x9,rfl⟩;rw[Q0.zo])
  go_ret;exact⟨by rw[<-aD.zo];simp only[jI,Q0.zo, *];rfl,ae⟩
 |true=>
  have Q0:=aa q0;clear q0;cases q1:lj pN a.exc b.exc with
  |false=>
   have Q1:=aa q1;clear q1;go_enter func148,ntmps148;go_wp2_with (first|((with_reducible refine(dT _ _ _ _ _ _ a.zones b.zones _ (H0.zo.exts ae) (G0.zo.exts ae)).mono ?_);rintro e w' ⟨rfl,x9,rfl⟩;rw[Q0.zo])|((with_reducible refine(dT _ _ _ _ _ _ a.exc b.exc _ (H1.zo.exts ae) (G1.zo.exts ae)).mono ?_);rintro e w' ⟨rfl,x9,rfl⟩;rw[Q1.zo]))
   go_ret;exact⟨by rw[<-aD.zo];simp only[jI,Q0.zo,Q1.zo, *];rfl,ae⟩
  |true=>
   have Q1:=aa q1;clear q1;cases q2:JI a.test b.test with
   |false=>
    have Q2:=aa q2;clear q2;go_enter func148,ntmps148;go_wp2_with (first|((with_reducible refine(dT _ _ _ _ _ _ a.zones b.zones _ (H0.zo.exts ae) (G0.zo.exts ae)).mono ?_);rintro e w' ⟨rfl,x9,rfl⟩;rw[Q0.zo])|((with_reducible refine(dT _ _ _ _ _ _ a.exc b.exc _ (H1.zo.exts ae) (G1.zo.exts ae)).mono ?_);rintro e w' ⟨rfl,x9,rfl⟩;rw[Q1.zo])|((with_reducible refine(fp a.test b.test _ _ _ (H2.zo.exts ae).shut (G2.zo.exts ae).shut).mono ?_);rintro e w' ⟨rfl,x9,rfl⟩;rw[Q2.zo]))
    go_ret;exact⟨by rw[<-aD.zo];simp only[jI,Q0.zo,Q1.zo,Q2.zo, *];rfl,ae⟩
   |true=>
    have Q2:=aa q2;clear q2;cases q3:(a.name.toList==b.name.toList)with
    |false=>
     go_enter func148,ntmps148;go_wp2_with (first|((with_reducible refine(dT _ _ _ _ _ _ a.zones b.zones _ (H0.zo.exts ae) (G0.zo.exts ae)).mono ?_);rintro e w' ⟨rfl,x9,rfl⟩;rw[Q0.zo])|((with_reducible refine(dT _ _ _ _ _ _ a.exc b.exc _ (H1.zo.exts ae) (G1.zo.exts ae)).mono ?_);rintro e w' ⟨rfl,x9,rfl⟩;rw[Q1.zo])|((with_reducible refine(fp a.test b.test _ _ _ (H2.zo.exts ae).shut (G2.zo.exts ae).shut).mono ?_);rintro e w' ⟨rfl,x9,rfl⟩;rw[Q2.zo]))
     go_ret;exact⟨by rw[<-aD.zo];simp only[jI,Q0.zo,Q1.zo,Q2.zo, *];rfl,ae⟩
    |true=>
     cases q4:(a.start==b.start)with
     |false=>
      go_enter func148,ntmps148;go_wp2_with (first|((with_reducible refine(dT _ _ _ _ _ _ a.zones b.zones _ (H0.zo.exts ae) (G0.zo.exts ae)).mono ?_);rintro e w' ⟨rfl,x9,rfl⟩;rw[Q0.zo])|((with_reducible refine(dT _ _ _ _ _ _ a.exc b.exc _ (H1.zo.exts ae) (G1.zo.exts ae)).mono ?_);rintro e w' ⟨rfl,x9,rfl⟩;rw[Q1.zo])|((with_reducible refine(fp a.test b.test _ _ _ (H2.zo.exts ae).shut (G2.zo.exts ae).shut).mono ?_);rintro e w' ⟨rfl,x9,rfl⟩;rw[Q2.zo]))
      go_ret;exact⟨by rw[<-aD.zo];simp only[jI,Q0.zo,Q1.zo,Q2.zo, *];rfl,ae⟩
     |true=>
      cases q5:(a.stop==b.stop)with
      |false=>
       go_enter func148,ntmps148;go_wp2_with (first|((with_reducible refine(dT _ _ _ _ _ _ a.zones b.zones _ (H0.zo.exts ae) (G0.zo.exts ae)).mono ?_);rintro e w' ⟨rfl,x9,rfl⟩;rw[Q0.zo])|((with_reducible refine(dT _ _ _ _ _ _ a.exc b.exc _ (H1.zo.exts ae) (G1.zo.exts ae)).mono ?_);rintro e w' ⟨rfl,x9,rfl⟩;rw[Q1.zo])|((with_reducible refine(fp a.test b.test _ _ _ (H2.zo.exts ae).shut (G2.zo.exts ae).shut).mono ?_);rintro e w' ⟨rfl,x9,rfl⟩;rw[Q2.zo]))
       go_ret;exact⟨by rw[<-aD.zo];simp only[jI,Q0.zo,Q1.zo,Q2.zo, *];rfl,ae⟩
      |true=>
       cases q6:(a.bM==b.bM)with
       |false=>
        go_enter func148,ntmps148;go_wp2_with (first|((with_reducible refine(dT _ _ _ _ _ _ a.zones b.zones _ (H0.zo.exts ae) (G0.zo.exts ae)).mono ?_);rintro e w' ⟨rfl,x9,rfl⟩;rw[Q0.zo])|((with_reducible refine(dT _ _ _ _ _ _ a.exc b.exc _ (H1.zo.exts ae) (G1.zo.exts ae)).mono ?_);rintro e w' ⟨rfl,x9,rfl⟩;rw[Q1.zo])|((with_reducible refine(fp a.test b.test _ _ _ (H2.zo.exts ae).shut (G2.zo.exts ae).shut).mono ?_);rintro e w' ⟨rfl,x9,rfl⟩;rw[Q2.zo]))
        go_ret;exact⟨by rw[<-aD.zo];simp only[jI,Q0.zo,Q1.zo,Q2.zo, *];rfl,ae⟩
       |true=>
        cases q7:(a.vary==b.vary)with
        |false=>
         go_enter func148,ntmps148;go_wp2_with (first|((with_reducible refine(dT _ _ _ _ _ _ a.zones b.zones _ (H0.zo.exts ae) (G0.zo.exts ae)).mono ?_);rintro e w' ⟨rfl,x9,rfl⟩;rw[Q0.zo])|((with_reducible refine(dT _ _ _ _ _ _ a.exc b.exc _ (H1.zo.exts ae) (G1.zo.exts ae)).mono ?_);rintro e w' ⟨rfl,x9,rfl⟩;rw[Q1.zo])|((with_reducible refine(fp a.test b.test _ _ _ (H2.zo.exts ae).shut (G2.zo.exts ae).shut).mono ?_);rintro e w' ⟨rfl,x9,rfl⟩;rw[Q2.zo]))
         go_ret;exact⟨by rw[<-aD.zo];simp only[jI,Q0.zo,Q1.zo,Q2.zo, *];rfl,ae⟩
        |true=>
         cases q8:(a.kind==b.kind)with
         |false=>
          go_enter func148,ntmps148;go_wp2_with (first|((with_reducible refine(dT _ _ _ _ _ _ a.zones b.zones _ (H0.zo.exts ae) (G0.zo.exts ae)).mono ?_);rintro e w' ⟨rfl,x9,rfl⟩;rw[Q0.zo])|((with_reducible refine(dT _ _ _ _ _ _ a.exc b.exc _ (H1.zo.exts ae) (G1.zo.exts ae)).mono ?_);rintro e w' ⟨rfl,x9,rfl⟩;rw[Q1.zo])|((with_reducible refine(fp a.test b.test _ _ _ (H2.zo.exts ae).shut (G2.zo.exts ae).shut).mono ?_);rintro e w' ⟨rfl,x9,rfl⟩;rw[Q2.zo]))
          go_ret;exact⟨by rw[<-aD.zo];simp only[jI,Q0.zo,Q1.zo,Q2.zo, *];rfl,ae⟩
         |true=>
          cases q9:((a.ah.side==b.ah.side)&&((a.ah.base==b.ah.base)&&((a.ah.num==b.ah.num)&&(a.ah.den==b.ah.den))))with
          |false=>
           go_enter func148,ntmps148;go_wp2_with (first|((with_reducible refine(dT _ _ _ _ _ _ a.zones b.zones _ (H0.zo.exts ae) (G0.zo.exts ae)).mono ?_);rintro e w' ⟨rfl,x9,rfl⟩;rw[Q0.zo])|((with_reducible refine(dT _ _ _ _ _ _ a.exc b.exc _ (H1.zo.exts ae) (G1.zo.exts ae)).mono ?_);rintro e w' ⟨rfl,x9,rfl⟩;rw[Q1.zo])|((with_reducible refine(fp a.test b.test _ _ _ (H2.zo.exts ae).shut (G2.zo.exts ae).shut).mono ?_);rintro e w' ⟨rfl,x9,rfl⟩;rw[Q2.zo]))
           go_ret;exact⟨by rw[<-aD.zo];simp only[jI,Q0.zo,Q1.zo,Q2.zo, *];rfl,ae⟩
          |true=>
           cases q10:(a.uses==b.uses)with
           |false=>
            go_enter func148,ntmps148;go_wp2_with (first|((with_reducible refine(dT _ _ _ _ _ _ a.zones b.zones _ (H0.zo.exts ae) (G0.zo.exts ae)).mono ?_);rintro e w' ⟨rfl,x9,rfl⟩;rw[Q0.zo])|((with_reducible refine(dT _ _ _ _ _ _ a.exc b.exc _ (H1.zo.exts ae) (G1.zo.exts ae)).mono ?_);rintro e w' ⟨rfl,x9,rfl⟩;rw[Q1.zo])|((with_reducible refine(fp a.test b.test _ _ _ (H2.zo.exts ae).shut (G2.zo.exts ae).shut).mono ?_);rintro e w' ⟨rfl,x9,rfl⟩;rw[Q2.zo]))
            go_ret;exact⟨by rw[<-aD.zo];simp only[jI,Q0.zo,Q1.zo,Q2.zo, *];rfl,ae⟩
           |true=>
            cases q11:(a.other==b.other)with
            |false=>
             go_enter func148,ntmps148;go_wp2_with (first|((with_reducible refine(dT _ _ _ _ _ _ a.zones b.zones _ (H0.zo.exts ae) (G0.zo.exts ae)).mono ?_);rintro e w' ⟨rfl,x9,rfl⟩;rw[Q0.zo])|((with_reducible refine(dT _ _ _ _ _ _ a.exc b.exc _ (H1.zo.exts ae) (G1.zo.exts ae)).mono ?_);rintro e w' ⟨rfl,x9,rfl⟩;rw[Q1.zo])|((with_reducible refine(fp a.test b.test _ _ _ (H2.zo.exts ae).shut (G2.zo.exts ae).shut).mono ?_);rintro e w' ⟨rfl,x9,rfl⟩;rw[Q2.zo]))
             go_ret;exact⟨by rw[<-aD.zo];simp only[jI,Q0.zo,Q1.zo,Q2.zo, *];rfl,ae⟩
            |true=>
             cases q12:(a.n==b.n)with
             |false=>
              go_enter func148,ntmps148;go_wp2_with (first|((with_reducible refine(dT _ _ _ _ _ _ a.zones b.zones _ (H0.zo.exts ae) (G0.zo.exts ae)).mono ?_);rintro e w' ⟨rfl,x9,rfl⟩;rw[Q0.zo])|((with_reducible refine(dT _ _ _ _ _ _ a.exc b.exc _ (H1.zo.exts ae) (G1.zo.exts ae)).mono ?_);rintro e w' ⟨rfl,x9,rfl⟩;rw[Q1.zo])|((with_reducible refine(fp a.test b.test _ _ _ (H2.zo.exts ae).shut (G2.zo.exts ae).shut).mono ?_);rintro e w' ⟨rfl,x9,rfl⟩;rw[Q2.zo]))
              go_ret;exact⟨by rw[<-aD.zo];simp only[jI,Q0.zo,Q1.zo,Q2.zo, *];rfl,ae⟩
             |true=>
              go_enter func148,ntmps148;go_wp2_with (first|((with_reducible refine(dT _ _ _ _ _ _ a.zones b.zones _ (H0.zo.exts ae) (G0.zo.exts ae)).mono ?_);rintro e w' ⟨rfl,x9,rfl⟩;rw[Q0.zo])|((with_reducible refine(dT _ _ _ _ _ _ a.exc b.exc _ (H1.zo.exts ae) (G1.zo.exts ae)).mono ?_);rintro e w' ⟨rfl,x9,rfl⟩;rw[Q1.zo])|((with_reducible refine(fp a.test b.test _ _ _ (H2.zo.exts ae).shut (G2.zo.exts ae).shut).mono ?_);rintro e w' ⟨rfl,x9,rfl⟩;rw[Q2.zo]))
              go_ret;exact⟨by rw[<-aD.zo];simp only[jI,Q0.zo,Q1.zo,Q2.zo, *];rfl,ae⟩
theorem N8:Enters 269:=fun a w=>by rfl
theorem N9:Enters 270:=fun a w=>by rfl
theorem Oa:Enters 148:=fun a w=>by rfl
theorem Ob:Enters 272:=fun a w=>by rfl
theorem Oc:Enters 273:=fun a w=>by rfl
theorem Od:Enters 274:=fun a w=>by rfl
def Ix(a b:Plan):Bool:=(((lj Iw a.defs b.defs&&lj Fc a.tables b.tables)&&lj jI a.rules b.rules)&&((lj rR a.zones b.zones&&lj xV a.caps b.caps)&&lj qu a.views b.views))&&(lj Y0 a.eA b.eA&&(a.hours==b.hours))
theorem VY(a b:Plan)(cs cs2:zv)(w:World)(h:(bq).R w cs a)(h2:(bq).R w cs2 b):Calls prog 190 #[.agg cs.toArray,.agg cs2.toArray] w (cX (.bool (Ix a b)) w):=by
 obtain⟨ac4,ac5,ZF,ZG,NW,NY,abz,abA,ac6,ac7,abB,abC,aeA,aeB,rfl,p0,p1,p2,p3,p4,p5,p6,p7⟩:=h;obtain⟨ac8,ac9,ZH,ZI,NZ,N7,abD,abE,ada,adb,abG,abH,aeC,aeD,rfl,r0,r1,r2,r3,r4,r5,r6,r7⟩:=h2;have ZJ:=aa p0;have ZK:=aa r0;have RG:=aa p1;have RH:=aa r1;have VZ:=aa p2;have V0:=aa r2;have V1:=aa p3;have V3:=aa r3;have ZL:=aa p4;have ZM:=aa r4;have V4:=aa p5;have V5:=aa r5;have ade:=aa p6;have adf:=aa r6;clear p0 p1 p2 p3 p4 p5 p6 p7 r0 r1 r2 r3 r4 r5 r6 r7;obtain⟨res,hres⟩:∃x,Ix a b=x:=⟨_,rfl⟩;rw[hres];have aD:=aa hres;clear hres
 (cases Kw:lj Iw a.defs b.defs;all_goals first|(have:=(Kw:_=true);clear this;(cases BD:lj Fc a.tables b.tables;all_goals first|(have:=(BD:_=true);clear this;(cases Fe:lj jI a.rules b.rules;all_goals first|(have:=(Fe:_=true);clear this;(cases nN:lj rR a.zones b.zones;all_goals first|(have:=(nN:_=true);clear this;(cases qX:lj xV a.caps b.caps;all_goals first|(have:=(qX:_=true);clear this;(cases tZ:lj qu a.views b.views;all_goals first|(have:=(tZ:_=true);clear this;(cases RI:lj Y0 a.eA b.eA;all_goals first|(have:=(RI:_=true);clear this;(cases V6:(a.hours==b.hours)))|skip))|skip))|skip))|skip))|(cases nN:lj rR a.zones b.zones;all_goals first|(have:=(nN:_=true);clear this;(cases qX:lj xV a.caps b.caps;all_goals first|(have:=(qX:_=true);clear this;(cases tZ:lj qu a.views b.views))|skip))|skip)))|(cases nN:lj rR a.zones b.zones;all_goals first|(have:=(nN:_=true);clear this;(cases qX:lj xV a.caps b.caps;all_goals first|(have:=(qX:_=true);clear this;(cases tZ:lj qu a.views b.views))|skip))|skip)))|(cases nN:lj rR a.zones b.zones;all_goals first|(have:=(nN:_=true);clear this;(cases qX:lj xV a.caps b.caps;all_goals first|(have:=(qX:_=true);clear this;(cases tZ:lj qu a.views b.views))|skip))|skip))
 all_goals try have RJ:=aa Kw
 all_goals try have Iy:=aa BD
 all_goals try have Md:=aa Fe
 all_goals try have Me:=aa nN
 all_goals try have RL:=aa qX
 all_goals try have Mf:=aa tZ
 all_goals try have Yf:=aa RI
 all_goals try have V7:=aa V6
 all_goals try clear Kw
 all_goals try clear BD
 all_goals try clear Fe
 all_goals try clear nN
 all_goals try clear qX
 all_goals try clear tZ
 all_goals try clear RI
 all_goals
  go_enter func190,ntmps190;go_wp2_with (first|((with_reducible refine ag (MH 269 #[] Iw _ _ _ _ _ _ a.defs b.defs _ N8 ?_ ?_ ?_) ?_);exact ZJ.zo.exts ae;exact ZK.zo.exts ae;exact fun w' i d d2 cs cs2 _ _ _ h h2=>NT d d2 cs cs2 w' h h2;rintro e w' ⟨rfl,x9,rfl⟩;rw[RJ.zo])|((with_reducible refine ag (MI 270 #[] Fc _ _ _ _ _ _ a.tables b.tables _ N9 ?_ ?_ ?_) ?_);exact RG.zo.exts ae;exact RH.zo.exts ae;exact fun w' i d d2 cs cs2 _ _ _ h h2=>NU d d2 cs cs2 w' h h2;rintro e w' ⟨rfl,x9,rfl⟩;rw[Iy.zo])|((with_reducible refine ag (MJ 148 #[] jI _ _ _ _ _ _ a.rules b.rules _ Oa ?_ ?_ ?_) ?_);exact V1.zo.exts ae;exact V3.zo.exts ae;exact fun w' i d d2 cs cs2 _ _ _ h h2=>iy d d2 cs cs2 w' h h2;rintro e w' ⟨rfl,x9,rfl⟩;rw[Md.zo])|((with_reducible refine ag (MK 272 #[] rR _ _ _ _ _ _ a.zones b.zones _ Ob ?_ ?_ ?_) ?_);exact VZ.zo.exts ae;exact V0.zo.exts ae;exact fun w' i d d2 cs cs2 _ _ _ h h2=>Ku d d2 cs cs2 w' h h2;rintro e w' ⟨rfl,x9,rfl⟩;rw[Me.zo])|((with_reducible refine ag (ML 273 #[] xV _ _ _ _ _ _ a.caps b.caps _ Oc ?_ ?_ ?_) ?_);exact ZL.zo.exts ae;exact ZM.zo.exts ae;exact fun w' i d d2 cs cs2 _ _ _ h h2=>NV d d2 cs cs2 w' h h2;rintro e w' ⟨rfl,x9,rfl⟩;rw[RL.zo])|((with_reducible refine ag (MM 274 #[] qu _ _ _ _ _ _ a.views b.views _ Od ?_ ?_ ?_) ?_);exact V4.zo.exts ae;exact V5.zo.exts ae;exact fun w' i d d2 cs cs2 _ _ _ h h2=>Kv d d2 cs cs2 w' h h2;rintro e w' ⟨rfl,x9,rfl⟩;rw[Mf.zo])|((with_reducible refine ag (AU _ _ _ _ _ _ a.eA b.eA _ ?_ ?_) ?_);exact ade.zo.exts ae;exact adf.zo.exts ae;rintro e w' ⟨rfl,x9,rfl⟩;rw[Yf.zo]))
  go_ret;exact⟨by rw[<-aD.zo];unfold Ix;(try rw[RJ.zo];try rw[Iy.zo];try rw[Md.zo];try rw[Me.zo];try rw[RL.zo];try rw[Mf.zo];try rw[Yf.zo];try rw[V7.zo]);(try simp only[Bool.and_true,Bool.true_and,Bool.and_false,Bool.false_and]);rfl,ae⟩
def yZ(e:fN):Plan:=⟨[⟨⟨#[]⟩,e.body⟩],[],[],[e.rule],[],[],[],0⟩
def kL(a b:fN):Bool:=((a.kind==b.kind)&&((a.name.toList==b.name.toList)&&((a.key.toList==b.key.toList)&&((a.n==b.n)&&lj Vd a.corners b.corners))))&&Ix (yZ a) (yZ b)
theorem Bx.up{w:World}{b:Nat}{cs:zv}{t:TypeId}(h:Bx w b cs t)(o:Obj):Bx (w.alloc o) b cs t:=h.exts ((af.refl w).alloc o)
theorem RM{w:World}{e:fN}{rc:zv}{B0 B1 c:Nat}{o:Option Addr}(hR:(aw).R w rc e.rule)(hX:yv w o c e.body)(h0:Bx w B0 rc 52)(h1:Bx w B1 [.string ⟨#[]⟩,.int .i64 e.body.op,.int .i64 e.body.num,.string e.body.str,.string e.body.key,.slice o e.body.args.length c] 126):(bq).R w [.slice (some ⟨B1,0,none⟩) 1 1,.slice none 0 0,.slice none 0 0,.slice (some ⟨B0,0,none⟩) 1 1,.slice none 0 0,.slice none 0 0,.slice none 0 0,.int .i64 0] (yZ e):=
 ⟨_,_,_,_,_,_,_,_,_,_,_,_,_,_,rfl,sj h1.lt (show(mC).R w _ ⟨⟨#[]⟩,e.body⟩from⟨o,c,rfl,by simp[gS,ByteArray.size],hX⟩) (fun j u hu=>by rw[h1.cell];exact hu),Sl.nil _ _,Sl.nil _ _,sj h0.lt hR (fun j u hu=>by rw[h0.cell];exact hu),Sl.nil _ _,Sl.nil _ _,Sl.nil _ _,by constructor<;>simp[yZ]⟩
theorem mK(a b:fN)(cs ds:zv)(w:World)(h:(cY).R w cs a)(h2:(cY).R w ds b):Calls prog 92 #[.agg cs.toArray,.agg ds.toArray] w (cX (.bool (kL a b)) w):=by
 obtain⟨BF,BG,Ff,Fg,C6,C7,RA,RB,yU,yV,rfl,q0,q1,q2,q3,q4,q5,q6,q7,q8,q9,q10,q11,q12,q13,pV,JP,q16,ME,MF,LC,JQ⟩:=h;obtain⟨BH,BI,Fh,Fi,C8,Da,RD,RF,yX,yY,rfl,t0,t1,t2,t3,t4,t5,t6,t7,t8,t9,t10,t11,t12,t13,t14,t15,t16,t17,uw,t19,t20⟩:=h2;have Q0:=aa q0;have Q1:=aa q1;have Q2:=aa q2;have Q3:=aa q3;have Q4:=aa q4;have Q5:=aa q5;have Q6:=aa q6;have Q7:=aa q7;have Q8:=aa q8;have Q9:=aa q9;have Q10:=aa q10;have Q11:=aa q11;have Q12:=aa q12;have Q13:=aa q13;have Q14:=aa pV;have Q15:=aa JP;have Q16:=aa q16;have Q17:=aa ME;have Q18:=aa MF;have Q19:=aa LC;have Q20:=aa JQ;have T0:=aa t0;have T1:=aa t1;have T2:=aa t2;have T3:=aa t3;have T4:=aa t4;have T5:=aa t5;have T6:=aa t6;have T7:=aa t7;have T8:=aa t8;have T9:=aa t9;have T10:=aa t10;have T11:=aa t11;have T12:=aa t12;have T13:=aa t13;have RN:=aa t14;have T15:=aa t15;have RO:=aa t16;have RP:=aa t17;have RQ:=aa uw;have V9:=aa t19;have UG:=aa t20;clear q0 q1 q2 q3 q4 q5 q6 q7 q8 q9 q10 q11 q12 q13 pV JP q16 ME MF LC JQ t0 t1 t2 t3 t4 t5 t6 t7 t8 t9 t10 t11 t12 t13 t14 t15 t16 t17 uw t19 t20;obtain⟨res,hres⟩:∃r,kL a b=r:=⟨_,rfl⟩;rw[hres];have aD:=aa hres;clear hres;cases h0:(a.kind==b.kind)with
 |false=>
  have HF:=aa (show res=false by rw[<-aD.zo];unfold kL;rw[h0];rfl);rw[HF.zo];go_enter func92,ntmps92;go_wp2_with (first|fail)
  go_ret;exact⟨rfl,ae⟩
 |true=>
  cases h1:(a.name.toList==b.name.toList)with
  |false=>
   have HF:=aa (show res=false by rw[<-aD.zo];unfold kL;rw[h0,h1];rfl);rw[HF.zo];go_enter func92,ntmps92;go_wp2_with (first|fail)
   go_ret;exact⟨rfl,ae⟩
  |true=>
   cases h2:(a.key.toList==b.key.toList)with
   |false=>
    have HF:=aa (show res=false by rw[<-aD.zo];unfold kL;rw[h0,h1,h2];rfl);rw[HF.zo];go_enter func92,ntmps92;go_wp2_with (first|fail)
    go_ret;exact⟨rfl,ae⟩
   |true=>
    cases h3:(a.n==b.n)with
    |false=>
     have HF:=aa (show res=false by rw[<-aD.zo];unfold kL;rw[h0,h1,h2,h3];rfl);rw[HF.zo];go_enter func92,ntmps92;go_wp2_with (first|fail)
     go_ret;exact⟨rfl,ae⟩
    |true=>
     cases h4:lj Vd a.corners b.corners with
     |false=>
      have HF:=aa (show res=false by rw[<-aD.zo];unfold kL;rw[h0,h1,h2,h3,h4];rfl);rw[HF.zo];go_enter func92,ntmps92;go_wp2_with ((with_reducible refine ag (qi _ _ _ _ _ _ a.corners b.corners _ ?_ ?_) ?_);exact Q20.zo.exts ae;exact UG.zo.exts ae;rintro e w' ⟨rfl,x8,rfl⟩;rw[h4])
      go_ret;exact⟨rfl,ae⟩
     |true=>
      have HP:=aa (show Ix (yZ a) (yZ b)=res by rw[<-aD.zo];unfold kL;rw[h0,h1,h2,h3,h4];rfl);go_enter func92,ntmps92;go_wp2_with ((with_reducible refine ag (qi _ _ _ _ _ _ a.corners b.corners _ ?_ ?_) ?_);exact Q20.zo.exts ae;exact UG.zo.exts ae;rintro e w' ⟨rfl,x8,rfl⟩;rw[h4])
      with_reducible refine ag (VY (yZ a) (yZ b) [_,_,_,_,_,_,_,_] [_,_,_,_,_,_,_,_] _ ?_ ?_) ?_
      ·have HR:=show(aw).R w [.string a.rule.name,.slice BF a.rule.zones.length BG,.slice Ff a.rule.exc.length Fg,.int .i64 a.rule.start,.int .i64 a.rule.stop,.int .i64 a.rule.bM,.bool a.rule.vary,.int .i64 a.rule.kind,.int .i64 a.rule.test.op,.int .i64 a.rule.test.num,.string a.rule.test.str,.string a.rule.test.key,.slice C6 a.rule.test.args.length C7,.int .i64 a.rule.ah.side,.int .i64 a.rule.ah.base,.int .i64 a.rule.ah.num,.int .i64 a.rule.ah.den,.int .i64 a.rule.uses,.int .i64 a.rule.other,.int .i64 a.rule.n] a.rule from⟨_,_,_,_,_,_,rfl,Q4.zo,Q5.zo,Q6.zo,Q7.zo,Q8.zo,Q9.zo,Q10.zo,Q11.zo,Q12.zo,Q13.zo,Q14.zo,Q15.zo,Q16.zo,Q17.zo,Q18.zo⟩
       refine RM ((aw).exts HR ae) (Q19.zo.exts ae) ?_ ?_
       ·repeat (first|exact Bx.mv rfl (by simp<;>omega)|refine Bx.up ?_ _)
       ·repeat (first|exact Bx.mv rfl (by simp<;>omega)|refine Bx.up ?_ _)
      ·have HR:=show(aw).R w [.string b.rule.name,.slice BH b.rule.zones.length BI,.slice Fh b.rule.exc.length Fi,.int .i64 b.rule.start,.int .i64 b.rule.stop,.int .i64 b.rule.bM,.bool b.rule.vary,.int .i64 b.rule.kind,.int .i64 b.rule.test.op,.int .i64 b.rule.test.num,.string b.rule.test.str,.string b.rule.test.key,.slice C8 b.rule.test.args.length Da,.int .i64 b.rule.ah.side,.int .i64 b.rule.ah.base,.int .i64 b.rule.ah.num,.int .i64 b.rule.ah.den,.int .i64 b.rule.uses,.int .i64 b.rule.other,.int .i64 b.rule.n] b.rule from⟨_,_,_,_,_,_,rfl,T4.zo,T5.zo,T6.zo,T7.zo,T8.zo,T9.zo,T10.zo,T11.zo,T12.zo,T13.zo,RN.zo,T15.zo,RO.zo,RP.zo,RQ.zo⟩
       refine RM ((aw).exts HR ae) (V9.zo.exts ae) ?_ ?_
       ·repeat (first|exact Bx.mv rfl (by simp<;>omega)|refine Bx.up ?_ _)
       ·repeat (first|exact Bx.mv rfl (by simp<;>omega)|refine Bx.up ?_ _)
      rintro e w' ⟨rfl,x9,rfl⟩;rw[HP.zo];go_wp2;go_ret;exact⟨rfl,ae⟩
def ni(r:Rule):Plan:=⟨[],[],[],[r],[],[],[],0⟩
def aj(r:Rule):fN:=⟨0,⟨#[]⟩,⟨#[]⟩,0,r,.mk 0 0 ⟨#[]⟩ ⟨#[]⟩ [],[]⟩
theorem RS{w:World}{r:Rule}{rc:zv}{B0:Nat}(hR:(aw).R w rc r)(h0:Bx w B0 rc 52):(bq).R w [.slice none 0 0,.slice none 0 0,.slice none 0 0,.slice (some ⟨B0,0,none⟩) 1 1,.slice none 0 0,.slice none 0 0,.slice none 0 0,.int .i64 0] (ni r):=
 ⟨_,_,_,_,_,_,_,_,_,_,_,_,_,_,rfl,Sl.nil _ _,Sl.nil _ _,Sl.nil _ _,sj h0.lt hR (fun j u hu=>by rw[h0.cell];exact hu),Sl.nil _ _,Sl.nil _ _,Sl.nil _ _,by constructor<;>simp[ni]⟩
theorem Ea(e:fN)(ds:zv)(w:World)(h2:(cY).R w ds e)(hk:e.kind=0):Calls prog 91 #[.agg ds.toArray] w fun r w'=> ∃(b:Nat)(rc:zv),r=.returned (.tuple #[.agg #[.slice none 0 0,.slice none 0 0,.slice none 0 0,.slice (some ⟨b,0,none⟩) 1 1,.slice none 0 0,.slice none 0 0,.slice none 0 0,.int .i64 0],.bool true])/\af w w'/\(aw).R w' rc e.rule/\Bx w' b rc 52:=by
 obtain⟨az,aA,aT,aU,aL,aM,dg,dh,bA,bC,rfl,t0,t1,t2,t3,t4,t5,t6,t7,t8,t9,t10,t11,t12,t13,t14,t15,t16,t17,uw,t19,t20⟩:=h2;rw[hk];have T0:=aa t0;have T1:=aa t1;have T2:=aa t2;have T3:=aa t3;have T4:=aa t4;have T5:=aa t5;have T6:=aa t6;have T7:=aa t7;have T8:=aa t8;have T9:=aa t9;have T10:=aa t10;have T11:=aa t11;have T12:=aa t12;have T13:=aa t13;have RN:=aa t14;have T15:=aa t15;have RO:=aa t16;have RP:=aa t17;have RQ:=aa uw;have V9:=aa t19;have UG:=aa t20;clear hk t0 t1 t2 t3 t4 t5 t6 t7 t8 t9 t10 t11 t12 t13 t14 t15 t16 t17 uw t19 t20;go_enter func91,ntmps91;go_wp2;have HR:=show(aw).R w [.string e.rule.name,.slice az e.rule.zones.length aA,.slice aT e.rule.exc.length aU,.int .i64 e.rule.start,.int .i64 e.rule.stop,.int .i64 e.rule.bM,.bool e.rule.vary,.int .i64 e.rule.kind,.int .i64 e.rule.test.op,.int .i64 e.rule.test.num,.string e.rule.test.str,.string e.rule.test.key,.slice aL e.rule.test.args.length aM,.int .i64 e.rule.ah.side,.int .i64 e.rule.ah.base,.int .i64 e.rule.ah.num,.int .i64 e.rule.ah.den,.int .i64 e.rule.uses,.int .i64 e.rule.other,.int .i64 e.rule.n] e.rule from⟨_,_,_,_,_,_,rfl,T4.zo,T5.zo,T6.zo,T7.zo,T8.zo,T9.zo,T10.zo,T11.zo,T12.zo,T13.zo,RN.zo,T15.zo,RO.zo,RP.zo,RQ.zo⟩;refine bodyPost_ret (v:=.tuple #[.agg #[.slice none 0 0,.slice none 0 0,.slice none 0 0,.slice (some ⟨w.heap.size+1+1,0,none⟩) 1 1,.slice none 0 0,.slice none 0 0,.slice none 0 0,.int .i64 0],.bool true]) (by simp[results,go_sem]) rfl ⟨_,_,rfl,ae,(aw).exts HR ae,?_⟩;repeat (first|exact Bx.mv rfl (by simp<;>omega)|refine Bx.up ?_ _)
theorem nW(e:fN)(ds:zv)(w:World)(h2:(cY).R w ds e)(hk:e.kind=1):Calls prog 91 #[.agg ds.toArray] w (cX (.tuple #[.agg #[.slice none 0 0,.slice none 0 0,.slice none 0 0,.slice none 0 0,.slice none 0 0,.slice none 0 0,.slice none 0 0,.int .i64 0],.bool false]) w):=by
 obtain⟨az,aA,aT,aU,aL,aM,dg,dh,bA,bC,rfl,t0,t1,t2,t3,t4,t5,t6,t7,t8,t9,t10,t11,t12,t13,t14,t15,t16,t17,uw,t19,t20⟩:=h2;rw[hk];have T0:=aa t0;have T1:=aa t1;have T2:=aa t2;have T3:=aa t3;have T4:=aa t4;have T5:=aa t5;have T6:=aa t6;have T7:=aa t7;have T8:=aa t8;have T9:=aa t9;have T10:=aa t10;have T11:=aa t11;have T12:=aa t12;have T13:=aa t13;have RN:=aa t14;have T15:=aa t15;have RO:=aa t16;have RP:=aa t17;have RQ:=aa uw;have V9:=aa t19;have UG:=aa t20;clear hk t0 t1 t2 t3 t4 t5 t6 t7 t8 t9 t10 t11 t12 t13 t14 t15 t16 t17 uw t19 t20;go_enter func91,ntmps91;go_wp2;refine bodyPost_ret (v:=.tuple #[.agg #[.slice none 0 0,.slice none 0 0,.slice none 0 0,.slice none 0 0,.slice none 0 0,.slice none 0 0,.slice none 0 0,.int .i64 0],.bool false]) (by simp[results,go_sem]) rfl ⟨rfl,ae⟩
theorem nX(e:fN)(ds:zv)(w:World)(h2:(cY).R w ds e)(hk:e.kind=5):Calls prog 91 #[.agg ds.toArray] w (cX (.tuple #[.agg #[.slice none 0 0,.slice none 0 0,.slice none 0 0,.slice none 0 0,.slice none 0 0,.slice none 0 0,.slice none 0 0,.int .i64 0],.bool false]) w):=by
 obtain⟨az,aA,aT,aU,aL,aM,dg,dh,bA,bC,rfl,t0,t1,t2,t3,t4,t5,t6,t7,t8,t9,t10,t11,t12,t13,t14,t15,t16,t17,uw,t19,t20⟩:=h2;rw[hk];have T0:=aa t0;have T1:=aa t1;have T2:=aa t2;have T3:=aa t3;have T4:=aa t4;have T5:=aa t5;have T6:=aa t6;have T7:=aa t7;have T8:=aa t8;have T9:=aa t9;have T10:=aa t10;have T11:=aa t11;have T12:=aa t12;have T13:=aa t13;have RN:=aa t14;have T15:=aa t15;have RO:=aa t16;have RP:=aa t17;have RQ:=aa uw;have V9:=aa t19;have UG:=aa t20;clear hk t0 t1 t2 t3 t4 t5 t6 t7 t8 t9 t10 t11 t12 t13 t14 t15 t16 t17 uw t19 t20;go_enter func91,ntmps91;go_wp2;refine bodyPost_ret (v:=.tuple #[.agg #[.slice none 0 0,.slice none 0 0,.slice none 0 0,.slice none 0 0,.slice none 0 0,.slice none 0 0,.slice none 0 0,.int .i64 0],.bool false]) (by simp[results,go_sem]) rfl ⟨rfl,ae⟩
theorem uG{fn:Func}{p:Tmp}{ty:TypeId}(h:fn.results=#[.cell p ty])(tmps:Array Value)(P:Program)(w:World):
 (results fn tmps).run P w=(do let a <-asAddr (tmps.getD p undef);loadVar ty a:Sem Value).run P w:=by
 simp[results,h]
theorem RT(r:Rule)(b:Nat)(rc:zv)(w:World)(hR:(aw).R w rc r)(hB:Bx w b rc 52):Calls prog 40 #[.agg #[.slice none 0 0,.slice none 0 0,.slice none 0 0,.slice (some ⟨b,0,none⟩) 1 1,.slice none 0 0,.slice none 0 0,.slice none 0 0,.int .i64 0]] w fun e w'=> ∃cs:zv,e=.returned (.agg cs.toArray)/\af w w'/\(cY).R w' cs (aj r):=by
 have LD:∀w',af w w'->(jf 52 ⟨b,0,none⟩).run prog w'=.ok (.agg rc.toArray) w':=fun w' he=>yy ((aw).len hR) fun j u hu=>by rw[Nat.zero_add,(hB.exts he).cell];exact hu
 obtain⟨cN,cO,dY,dZ,ej,ek,rfl,q0,q1,q2,q3,q4,q5,q6,q7,q8,q9,q10,q11,q12,q13,pV⟩:=hR;have Q0:=aa q0;have Q1:=aa q1;have Q2:=aa q2;have Q3:=aa q3;have Q4:=aa q4;have Q5:=aa q5;have Q6:=aa q6;have Q7:=aa q7;have Q8:=aa q8;have Q9:=aa q9;have Q10:=aa q10;have Q11:=aa q11;have Q12:=aa q12;have Q13:=aa q13;have Q14:=aa pV;have lb:=hB.lt;clear hB q0 q1 q2 q3 q4 q5 q6 q7 q8 q9 q10 q11 q12 q13 pV;go_enter func40,ntmps40;go_wp2;refine bodyPost_ret (v:=.agg #[.int .i64 0,.string ⟨#[]⟩,.string ⟨#[]⟩,.int .i64 0,.string r.name,.slice cN r.zones.length cO,.slice dY r.exc.length dZ,.int .i64 r.start,.int .i64 r.stop,.int .i64 r.bM,.bool r.vary,.int .i64 r.kind,.int .i64 r.test.op,.int .i64 r.test.num,.string r.test.str,.string r.test.key,.slice ej r.test.args.length ek,.int .i64 r.ah.side,.int .i64 r.ah.base,.int .i64 r.ah.num,.int .i64 r.ah.den,.int .i64 r.uses,.int .i64 r.other,.int .i64 r.n,.int .i64 0,.int .i64 0,.string ⟨#[]⟩,.string ⟨#[]⟩,.slice none 0 0,.slice none 0 0]) (by rw[uG rfl];simp[go_sem]) rfl ⟨[.int .i64 0,.string ⟨#[]⟩,.string ⟨#[]⟩,.int .i64 0,.string r.name,.slice cN r.zones.length cO,.slice dY r.exc.length dZ,.int .i64 r.start,.int .i64 r.stop,.int .i64 r.bM,.bool r.vary,.int .i64 r.kind,.int .i64 r.test.op,.int .i64 r.test.num,.string r.test.str,.string r.test.key,.slice ej r.test.args.length ek,.int .i64 r.ah.side,.int .i64 r.ah.base,.int .i64 r.ah.num,.int .i64 r.ah.den,.int .i64 r.uses,.int .i64 r.other,.int .i64 r.n,.int .i64 0,.int .i64 0,.string ⟨#[]⟩,.string ⟨#[]⟩,.slice none 0 0,.slice none 0 0],rfl,ae,?_⟩;have i0:I64 0:=by constructor<;>omega
 have s0:gS ⟨#[]⟩:=by simp[gS,ByteArray.size]
 exact⟨_,_,_,_,_,_,_,_,_,_,rfl,i0,s0,s0,i0,Q0.zo,Q1.zo.exts ae,Q2.zo.exts ae,Q3.zo,Q4.zo,Q5.zo,Q6.zo,Q7.zo.exts ae,Q8.zo,Q9.zo,Q10.zo,Q11.zo,Q12.zo,Q13.zo,Q14.zo,⟨i0,i0,s0,s0,Sl.nil _ _⟩,Sl.nil _ _⟩
end Go.Proofs.YtomgpelfmgkknaaGreatDoor
