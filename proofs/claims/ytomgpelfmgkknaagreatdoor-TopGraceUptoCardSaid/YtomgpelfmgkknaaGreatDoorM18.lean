/- Lemmas for the law. No conditions. -/
import Derived.Test.YtomgpelfmgkknaaGreatDoorM9
import Derived.Test.YtomgpelfmgkknaaGreatDoorM13
namespace Go.Proofs.YtomgpelfmgkknaaGreatDoor
open Go.RowKit Go.Maps
open Go.Proofs.Tryz
set_option maxRecDepth 100000
set_option maxHeartbeats 40000000
set_option linter.unusedVariables false
set_option linter.unusedSimpArgs false
def X6(l:List Pt):List Int:=kG (fL (l.map (·.x)))
theorem Rq(l:List Pt):(X6 l).length<=l.length:=by
 unfold X6;have:=sq (fL (l.map (·.x)));rw[gO,List.length_map]at this;exact this
def Bl(x:Int)(s:Side):Bool:= !xN s&&(decide (ou s.a.x s.b.x<=x)&&decide (x<jF s.a.x s.b.x))
def jP(ss:List Side)(x:Int):List Int:=(ss.filter (Bl x)).map (·.a.y)
theorem Ia{ss:List Side}{x:Int}{k:Nat}{s:Side}(h:ss[k]?=some s):jP (ss.take (k+1)) x=jP (ss.take k) x++(if Bl x s then [s.a.y]else []):=by
 unfold jP;rw[List.take_add_one,h,Option.toList_some,List.filter_append,List.map_append];cases q:Bl x s<;>simp[List.filter_cons,q]
theorem xR(ss:List Side)(x:Int):(jP ss x).length<=ss.length:=by
 unfold jP;rw[List.length_map];exact List.length_filter_le _ _
def kJ(x0 x1:Int)(ys:List Int)(m:Nat):List Rc:=(List.range m).map fun j=>⟨x0,ys.getD (2*j) 0,x1,ys.getD (2*j+1) 0⟩
theorem Ib(x0 x1:Int)(ys:List Int)(m:Nat):kJ x0 x1 ys (m+1)=kJ x0 x1 ys m++ [⟨x0,ys.getD (2*m) 0,x1,ys.getD (2*m+1) 0⟩]:=by
 unfold kJ;rw[List.range_succ,List.map_append];rfl
theorem Bo(x0 x1:Int)(ys:List Int)(m:Nat):(kJ x0 x1 ys m).length=m:=by simp[kJ]
def rowsOf(ss:List Side)(xs:List Int)(i:Nat):List Rc:=kJ (xs.getD i 0) (xs.getD (i+1) 0) (fL (jP ss (xs.getD i 0))) ((fL (jP ss (xs.getD i 0))).length / 2)
def mi(ss:List Side)(xs:List Int)(k:Nat):List Rc:=((List.range k).map (rowsOf ss xs)).flatten
theorem yM(ss:List Side)(xs:List Int)(k:Nat):mi ss xs (k+1)=mi ss xs k++rowsOf ss xs k:=by
 unfold mi;rw[List.range_succ,List.map_append,List.flatten_append];simp
theorem D6(ss:List Side)(xs:List Int)(h:ss.length<=60):∀k,(mi ss xs k).length<=k*30
 |0=>by simp[mi]
 |k+1=>by
  have ih:=D6 ss xs h k;have h2:=xR ss (xs.getD k 0);rw[yM,dG];unfold rowsOf;rw[Bo,gO];omega
def Bp(l:List Pt):List Rc×Int:=if jt l=true then wC (mi (mI l) (X6 l) ((X6 l).length - 1))else([],10)
theorem Bq{l:List Pt}{q:Bool}(hq:jt l=q)(ao:Option Addr)(n c:Nat)(w:World)(h:Sl zV w ao n c l):Calls prog 147 #[.slice ao n c] w (cX (.bool q) w):=by
 rw[<-hq];exact Hy ao n c l w h
theorem tX{s:Side}{q:Bool}(hq:xN s=q)(w:World):Calls prog 226 #[.agg #[.int .i64 s.a.x,.int .i64 s.a.y,.int .i64 s.b.x,.int .i64 s.b.y]] w (cX (.bool q) w):=by
 rw[<-hq];exact j9 s w
theorem NL{l:List Pt}(h:jt l=true):4<=l.length/\l.length<=60:=by
 unfold jt at h;simp at h;omega
theorem D7(ao:Option Addr)(n c:Nat)(l:List Pt)(w:World)(h:Sl zV w ao n c l):Calls prog 300 #[.slice ao n c] w (QC (Bp l) w):=by
 obtain⟨i0,hi,hz0,hz1,hz2⟩:=info_parts na;obtain⟨j0,hjj,hy0,hy1,hy2⟩:=info_parts wk;have H:=aa h;have HL:=aa h.1;obtain⟨p,hp⟩:∃p,jt l=p:=⟨_,rfl⟩;have HP:=aa hp;obtain⟨res,hres⟩:∃r,Bp l=r:=⟨_,rfl⟩;have aD:=aa hres;rw[hres];clear h hp hres;cases p with
 |false=>
  have HF:=aa (show res=([],10)by rw[<-aD.zo];unfold Bp;rw[HP.zo];rfl);go_enter func300,ntmps300;go_wp2_with ((with_reducible refine ag (Bq HP.zo _ _ _ _ ?_) ?_);exact H.zo.exts ae;rintro e w' ⟨rfl,x7,rfl⟩)
  go_ret2;rw[HF.zo];exact⟨_,_,rfl,ae,Sl.nil _ _⟩
 |true=>
  have HF:=aa (show res=wC (mi (mI l) (X6 l) ((X6 l).length - 1))by rw[<-aD.zo];unfold Bp;rw[HP.zo];rfl);obtain⟨hn4,acS⟩:=NL HP.zo;rw[HL.zo]at hn4 acS;go_enter func300,ntmps300;go_wp2_with ((with_reducible refine ag (Bq HP.zo _ _ _ _ ?_) ?_);exact H.zo.exts ae;rintro e w' ⟨rfl,x7,rfl⟩)
  go_loopw [4,19] (fun o i wr=> ∃(k:Nat)(oo:Option Addr)(oc:Nat),k<=n/\i=.int .i64 k/\o=.slice oo k oc/\af w wr/\aq dv w.heap.size 3 wr (.slice oo k oc) ((l.take k).map (·.x))) (fun _ i _=>n - (intOf i).toNat)
  case atStart=>exact⟨0,none,0,by omega,rfl,rfl,ae,aq.made _ _ _ _⟩
  case round=>
   obtain⟨k,qo,qc,hk,rfl,rfl,hx,ho⟩:=hrel;have HX:=aa hx;have HO:=aa ho;by_cases hlt:k<n
   ·obtain⟨r,hr⟩:=H.zo.ex hlt
    obtain⟨b,off,cs,rfl,lb,hR,cZ⟩:=H.zo.ld hr;obtain⟨rfl,r0,r1⟩:=hR;have hld:∀w',af wr w'->_:=fun w' he=>cZ w' (HX.zo.trans he)
    have HS:=aa (show(l.take (k+1)).map (fun q:Pt=>q.x)=(l.take k).map (fun q:Pt=>q.x)++ [r.x]by rw[List.take_add_one,hr,Option.toList_some,List.map_append];rfl);have HE:=aa (show((l.take k).map (fun q:Pt=>q.x)).length=k by rw[List.length_map,List.length_take,HL.zo];omega);have HI:=aa r0;have hsz:w.heap.size<=wr.heap.size:=HX.zo.below.size;clear hr cZ r0 r1 hx ho;go_wp2_with (at_builtin;refine dz rfl (.tmp 23) (.tmp 26) 66 rfl dv w.heap.size 3 eZ.turn i0 _ 8 underlying66 hi hz0 hz1 hz2 rfl (by decide) _ r.x [.int .i64 r.x] _ _ _ rfl HE.zo HO.zo ae _ 1 rfl ⟨rfl,HI.zo⟩ (jw (by simp[go_sem])) (by omega) (by omega) (by simp<;>omega) ?_;intro ao' c' w1 hown hgrow;(have HN:=aa hown);(have HG:=aa hgrow);clear hown hgrow)
    refine⟨⟨k+1,ao',c',by omega,by go_num,rfl,HG.zo w (HX.zo.trans ae) (Nat.le_refl _),by rw[HS.zo];exact HN.zo⟩,?_⟩;simp[intOf];omega
   ·obtain rfl:n=k:=by omega
    have HLX:=aa (show(l.map (fun q:Pt=>q.x)).length=n by rw[List.length_map,HL.zo]);rw[show l.take n=l from dQ (by rw[HL.zo];exact Nat.le_refl _)]at HO;have afb:(kG (fL (l.map (fun q:Pt=>q.x)))).length<=60:=by have:=Rq l;rw[HL.zo]at this;exact Nat.le_trans this acS
    clear hx ho;go_wp2_with (first|((with_reducible refine ag (xH (w0:=w) (base:=w.heap.size) (l:=l.map (fun q:Pt=>q.x)) ?_ HLX.zo ?_ (Nat.le_refl _) (by omega)) ?_);exact HO.zo.exts ae;exact HX.zo.trans ae;rintro e W2 ⟨rfl,hx2,ho2⟩;(have gm:=aa hx2);(have jY:=aa ho2);clear hx2 ho2)|((with_reducible refine ag (tJ (w0:=w) (base:=w.heap.size) (l:=fL (l.map (fun q:Pt=>q.x))) ?_ ((gO _).trans HLX.zo) ?_ (Nat.le_refl _) (by omega)) ?_);exact jY.zo.exts ae;exact gm.zo.trans ae;rintro e W3 ⟨rfl,hx3,ho3⟩;(have iU:=aa hx3);(have my:=aa (ho3.sl rfl));clear hx3 ho3)|((with_reducible refine ag (D5 _ _ _ l _ (by omega) ?_) ?_);exact H.zo.exts (iU.zo.trans ae);rintro e W4 ⟨v,rfl,hs,hx4⟩;(have nv:=aa (af.trans ae hx4:af W3 W4));(have X7:=aa hs);clear hs hx4))
    obtain⟨so,sc,rfl,hs4⟩:=X7.zo;have HSS:=aa hs4;obtain⟨S,hS⟩:∃S,mI l=S:=⟨_,rfl⟩;have hSl:S.length=n:=by rw[<-hS];simp[mI,HL.zo]
    obtain⟨X,hX⟩:∃X,kG (fL (l.map (fun q:Pt=>q.x)))=X:=⟨_,rfl⟩;have hxl:=Rq l;rw[show X6 l=X from hX,HL.zo]at hxl;rw[hS,show X6 l=X from hX]at HF;rw[hX]at my afb ⊢;rw[hS]at HSS ⊢;rw[hSl]at HSS ⊢;have HSL:=aa hSl;have Pz:=aa (D6 S X (by omega));have Zz:=aa (iU.zo.trans nv.zo);clear X7 hs4 hS hX hSl;go_loopw [8,38] (fun o i wr=> ∃(k:Nat)(oo:Option Addr)(oc:Nat),(k:Int)<=(X.length:Int)/\(k=0∨k<=X.length - 1)/\i=.int .i64 k/\o=.slice oo (mi S X k).length oc/\af W4 wr/\aq je W4.heap.size 74 wr (.slice oo (mi S X k).length oc) (mi S X k)) (fun _ i _=>X.length - (intOf i).toNat)
    case atStart=>exact⟨0,none,0,by omega,.inl rfl,rfl,rfl,ae,aq.made _ _ _ _⟩
    case round=>
     obtain⟨k,oo,oc,hk0,hk,rfl,rfl,hx,ho⟩:=hrel;obtain⟨U,hU⟩:∃U:World,U=wr:=⟨_,rfl⟩;subst hU;have CV:=aa hx;have Rs:=aa ho;clear hx ho;by_cases hlt:k+1<X.length
     ·have t0:decide ((k:Int)<(X.length:Int) - 1)=true:=zdt (by omega)
      obtain⟨a,ha⟩:=my.zo.ex (show k<X.length by omega);obtain⟨b,hb'⟩:=my.zo.ex hlt;obtain⟨bx,ox,rfl,Kb,c00,ia⟩:=dV my.zo ha;obtain⟨bx2,ox2,e2,_,c10,ib⟩:=dV my.zo hb';simp only[Option.some.injEq,Addr.mk.injEq,and_true]at e2;obtain⟨rfl,rfl⟩:=e2;have HAB:=aa (show I64 a/\I64 b from⟨ia,ib⟩);have Qz:=aa (show mi S X (k+1)=mi S X k++kJ a b (fL (jP S a)) ((fL (jP S a)).length / 2)by
       rw[yM];unfold rowsOf;rw[List.getD_eq_getElem?_getD,List.getD_eq_getElem?_getD,ha,hb'];rfl)
      have hrl:=Pz.zo k;have C0:=aa c00;have C1:=aa c10;obtain⟨R,hR⟩:∃R,mi S X k=R:=⟨_,rfl⟩;rw[hR]at Rs Qz hrl ⊢;clear ha hb' c00 c10 ia ib Kb hR;go_wp2;go_loopw [10,43] (fun o i w3=> ∃(j:Nat)(yo:Option Addr)(yc:Nat),j<=n/\i=.int .i64 j/\o=.slice yo (jP (S.take j) a).length yc/\af U w3/\aq dv U.heap.size 3 w3 (.slice yo (jP (S.take j) a).length yc) (jP (S.take j) a)) (fun _ i _=>n - (intOf i).toNat)
      case atStart=>exact⟨0,none,0,by omega,rfl,rfl,ae,aq.made _ _ _ _⟩
      case round=>
       obtain⟨j,yo,yc,hj,rfl,rfl,hx,ho⟩:=hrel;have CG:=aa hx;have X8:=aa ho;have c0:=af.cell (nv.zo.trans (CV.zo.trans hx)) C0.zo;have lc0:=bP c0;clear hx ho;by_cases hlj:j<n
       ·obtain⟨s,hss⟩:=HSS.zo.ex hlj
        obtain⟨bs,os,cs,rfl,lbs,hRs,acT⟩:=HSS.zo.ld hss;obtain⟨rfl,s0,s1,s2,s3⟩:=hRs;have hld:∀w',af wr w'->_:=fun w' he=>acT w' (CV.zo.trans (CG.zo.trans he))
        have PC:=aa (Ia (x:=a) hss);have hcl:=xR (S.take j) a;rw[List.length_take]at hcl;have UB:=aa s1;have hsz5:U.heap.size<=wr.heap.size:=CG.zo.below.size;obtain⟨Y,hY⟩:∃Y,jP (S.take j) a=Y:=⟨_,rfl⟩;rw[hY]at X8 PC hcl ⊢;obtain⟨u,hu⟩:∃u,xN s=u:=⟨_,rfl⟩;have HU:=aa hu;have rG:=aa (show Bl a s=(!u&&(decide (ou s.a.x s.b.x<=a)&&decide (a<jF s.a.x s.b.x)))by unfold Bl;rw[hu]);clear hss acT s0 s1 s2 s3 hY hu;cases u with
        |true=>
         have HE:=aa (show jP (S.take (j+1)) a=Y by rw[PC.zo,rG.zo];simp);go_wp2;first|refine eK ?_|refine eJ ?_
         repeat (go_big_quiet_step (((go_at_call 226;exact Calls.dJ (tX HU.zo _)))))
         refine eM fun xq=> ?_
         go_wp2;refine⟨⟨j+1,yo,yc,by omega,by go_num,by rw[HE.zo],CG.zo.trans ae,by rw[HE.zo];exact X8.zo.exts ae⟩,?_⟩;simp[intOf];omega
        |false=>
        cases t1:decide (ou s.a.x s.b.x<=a)with
        |false=>
         have HE:=aa (show jP (S.take (j+1)) a=Y by rw[PC.zo,rG.zo,t1];simp);go_wp2;first|refine eK ?_|refine eJ ?_
         repeat (go_big_quiet_step (((go_at_call 226;exact Calls.dJ (tX HU.zo _)))))
         refine eM fun xq=> ?_
         go_wp2;refine⟨⟨j+1,yo,yc,by omega,by go_num,by rw[HE.zo],CG.zo.trans ae,by rw[HE.zo];exact X8.zo.exts ae⟩,?_⟩;simp[intOf];omega
        |true=>
        cases t2:decide (a<jF s.a.x s.b.x)with
        |false=>
         have HE:=aa (show jP (S.take (j+1)) a=Y by rw[PC.zo,rG.zo,t1,t2];simp);go_wp2;first|refine eK ?_|refine eJ ?_
         repeat (go_big_quiet_step (((go_at_call 226;exact Calls.dJ (tX HU.zo _)))))
         refine eM fun xq=> ?_
         go_wp2;refine⟨⟨j+1,yo,yc,by omega,by go_num,by rw[HE.zo],CG.zo.trans ae,by rw[HE.zo];exact X8.zo.exts ae⟩,?_⟩;simp[intOf];omega
        |true=>
         have HE:=aa (show jP (S.take (j+1)) a=Y++ [s.a.y]by rw[PC.zo,rG.zo,t1,t2];simp);go_wp2;first|refine eK ?_|refine eJ ?_
         repeat (go_big_quiet_step (((go_at_call 226;exact Calls.dJ (tX HU.zo _)))))
         refine eM fun xq=> ?_
         go_wp2_with (at_builtin;refine dz rfl (.tmp 78) (.tmp 82) 66 rfl dv U.heap.size 3 eZ.turn i0 _ 8 underlying66 hi hz0 hz1 hz2 rfl (by decide) Y s.a.y [.int .i64 s.a.y] _ _ _ rfl rfl X8.zo ae _ 1 rfl ⟨rfl,UB.zo⟩ (jw (by simp[go_sem])) (by omega) (by omega) (by simp<;>omega) ?_;intro ao' c' w1 hown hgrow;(have HN:=aa hown);(have HG:=aa hgrow);clear hown hgrow)
         refine⟨⟨j+1,ao',c',by omega,by go_num,by rw[HE.zo,dG];rfl,HG.zo U (CG.zo.trans ae) (Nat.le_refl _),by rw[HE.zo,dG];exact HN.zo⟩,?_⟩;simp[intOf];omega
       ·obtain rfl:n=j:=by omega
        rw[show S.take n=S from dQ (by rw[HSL.zo];exact Nat.le_refl _)]at X8 ⊢;have hyl:=xR S a;rw[HSL.zo]at hyl;obtain⟨Y,hY⟩:∃Y,jP S a=Y:=⟨_,rfl⟩;rw[hY]at X8 Qz hyl ⊢;have HZL:=aa (gO Y);obtain⟨Z,hZ⟩:∃Z,fL Y=Z:=⟨_,rfl⟩;have HZ:=aa hZ;rw[hZ]at Qz HZL;clear hY hZ;go_wp2_with ((with_reducible refine ag (xH (w0:=U) (base:=U.heap.size) (l:=Y) ?_ rfl ?_ (Nat.le_refl _) (by omega)) ?_);exact X8.zo.exts ae;exact CG.zo.trans ae;rw[HZ.zo];rintro e W6 ⟨rfl,hx6,xw⟩;(have PD:=aa hx6);(have X9:=aa xw);clear hx6 xw)
        rw[<-HZL.zo]at X9 hyl ⊢;go_loopw [8,13] (fun o i w4=> ∃(m:Nat)(oo:Option Addr)(oc:Nat),m<=Z.length / 2/\i=.int .i64 ((2*m:Nat):Int)/\o=.slice oo (R++kJ a b Z m).length oc/\af W4 w4/\aq je W4.heap.size 74 w4 (.slice oo (R++kJ a b Z m).length oc) (R++kJ a b Z m)/\aq dv U.heap.size 3 w4 (.slice yo Z.length yc) Z) (fun _ i _=>Z.length - (intOf i).toNat)
        case atStart=>exact⟨0,oo,oc,by omega,rfl,by simp[kJ],CV.zo.trans (PD.zo.trans ae),by simpa[kJ]using Rs.zo.exts (PD.zo.trans ae),X9.zo.exts ae⟩
        case round=>
         obtain⟨m,no,nc,hm,rfl,rfl,hx,ho,hy⟩:=hrel;have HX7:=aa hx;have HO7:=aa ho;have HY7:=aa hy;clear hx ho hy;obtain⟨q,hq⟩:∃q,2*m=q:=⟨_,rfl⟩;have ahF:W4.heap.size<=wr.heap.size:=HX7.zo.below.size;have hpl:=Bo a b Z m;by_cases hlm:q+1<Z.length
         ·obtain⟨y0,h0⟩:∃y,Z[q]?=some y:=⟨_,fZ (by omega)⟩
          obtain⟨y1,h1⟩:∃y,Z[q+1]?=some y:=⟨_,fZ hlm⟩;obtain⟨yb,rfl,hyb,ahG,hyc⟩:∃g,yo=some ⟨g,0,none⟩/\U.heap.size<=g/\g<wr.heap.size/\Z.length<=yc:=by
           obtain⟨xs,e1,_⟩:=HY7.zo;rcases gq e1 with⟨e0,_⟩|e0
           ·omega
           ·exact e0
          obtain⟨bb,ob,e3,_,d0,iy0⟩:=dV (HY7.zo.sl rfl) h0;obtain⟨bb2,ob2,e4,_,d1,iy1⟩:=dV (HY7.zo.sl rfl) h1;simp only[Option.some.injEq,Addr.mk.injEq,and_true]at e3 e4;obtain⟨rfl,rfl⟩:=e3;obtain⟨rfl,rfl⟩:=e4;rw[Nat.zero_add]at d0 d1;have HIY:=aa (show I64 y0/\I64 y1 from⟨iy0,iy1⟩);have Ic:=aa (show R++kJ a b Z (m+1)=(R++kJ a b Z m)++ [⟨a,y0,b,y1⟩]by
           rw[Ib,<-List.append_assoc,hq,List.getD_eq_getElem?_getD,List.getD_eq_getElem?_getD,h0,h1];rfl)
          have Ab:=aa (show some yb≠(Value.slice no (R++kJ a b Z m).length nc).ownBlock by
           obtain⟨xs1,e1,_⟩:=HY7.zo;obtain⟨xs2,e2,_⟩:=HO7.zo;rcases(fk.ku e1).ne (fk.ku e2) (by decide)with e|e
           ·cases e
           ·exact e)
          obtain⟨Q,hQ⟩:∃Q,R++kJ a b Z m=Q:=⟨_,rfl⟩;have hQl:Q.length<=2000:=by rw[<-hQ,dG,hpl];omega
          rw[hQ]at HO7 Ic Ab ⊢;have HQM:=aa hq;rw[hq];have K0:∀w',af W4 w'->w'.cell? ⟨bx,ox+k,none⟩=some (.int .i64 a):=fun w' h=>af.cell (nv.zo.trans h) C0.zo
          have K1:∀w',af W4 w'->w'.cell? ⟨bx,ox+(k+1),none⟩=some (.int .i64 b):=fun w' h=>af.cell (nv.zo.trans h) C1.zo
          have afc:∀w',af W4 w'->bx<w'.heap.size:=fun w' h=>bP (K0 w' h)
          clear h0 h1 iy0 iy1 hpl hQ lc0 c0;go_wp2;refine bI ?_;intro W8 hW8;have HE8:=aa (show af wr W8 by rw[hW8];exact ae);have JK:=aa (HX7.zo.trans HE8.zo);have b0:=af.cell HE8.zo d0;have b1:=af.cell HE8.zo d1;have lb8:=bP b0;have ahH:W4.heap.size<=W8.heap.size:=JK.zo.below.size;have v1:IntKind.i64.wrap ((k:Int)+1)=(k:Int)+1:=IntWalk.i64_in _ (by omega);have v2:((k:Int)+1).toNat=k+1:=by omega
          have v3:(0:Int)<=(k:Int)+1:=by omega
          have v4:(k:Int)+1<(X.length:Int):=by omega
          have v5:(0:Int)<=(k:Int):=by omega
          have v6:(k:Int)<(X.length:Int):=by omega
          have w1':IntKind.i64.wrap ((q:Int)+1)=(q:Int)+1:=IntWalk.i64_in _ (by omega);have w2':((q:Int)+1).toNat=q+1:=by omega
          have w3':(0:Int)<=(q:Int)+1:=by omega
          have w4':(q:Int)+1<(Z.length:Int):=by omega
          have w5':(0:Int)<=(q:Int):=by omega
          have w6':(q:Int)<(Z.length:Int):=by omega
          clear hW8 d0 d1;go_region_held3 (fun w'=>af W4 w'/\w'.cell? ⟨yb,q,none⟩=some (.int .i64 y0)/\w'.cell? ⟨yb,q+1,none⟩=some (.int .i64 y1)) (first|assumption|exact⟨JK.zo.trans ae,by simp[go_sem, *],by simp[go_sem, *]⟩|exact⟨hgrow W4 (JK.zo.trans ae) (Nat.le_refl _),World.grownBy.cell hgb (by simp[go_sem, *]) Ab.zo,World.grownBy.cell hgb (by simp[go_sem, *]) Ab.zo⟩) ((refine tK rfl (.tmp 94) (.tmp 114) 75 rfl je W4.heap.size 74 wu.turn j0 _ 32 underlying75 hjj hy0 hy1 hy2 rfl (by decide) Q ⟨a,y0,b,y1⟩ [.int .i64 a,.int .i64 y0,.int .i64 b,.int .i64 y1] Q.length no nc (by simp[Act.eval,Act.put]) rfl HO7.zo (HE8.zo.trans ae) ⟨W8.heap.size,0,none⟩ 1 (by simp[Act.eval,Act.put]) ⟨rfl,HAB.zo.1,HIY.zo.1,HAB.zo.2,HIY.zo.2⟩ (wx (by simp[go_sem]) (by simp[go_sem]) (by simp[go_sem]) (by simp[go_sem])) (by omega) (by omega) (by simp<;>omega) ?_;intro ao' c' w1 hown hgrow hgb))
          have HN:=aa hown;have HG:=aa hgrow;have HYK:=aa (show aq dv U.heap.size 3 w1 (.slice (some ⟨yb,0,none⟩) Z.length yc) Z by
           obtain⟨xs,e1,e2⟩:=HY7.zo.exts (HE8.zo.trans (show af W8 (W8.alloc (.cells #[.int .i64 a,.int .i64 y0,.int .i64 b,.int .i64 y1] 74)).drew from ae));exact⟨xs,e1.kept hgb (Or.inr Ab.zo),e2⟩)
          have HQE:=aa (show 2*(m+1)=q+2 by have:=HQM.zo;omega);clear hown hgrow hgb afc;go_wp2;refine⟨⟨m+1,ao',c',by have:=HQE.zo;omega,by rw[HQE.zo];go_num,by rw[Ic.zo,dG];rfl,HG.zo W4 (JK.zo.trans ae) (Nat.le_refl _),by rw[Ic.zo,dG];exact HN.zo,HYK.zo⟩,?_⟩;simp[intOf];omega
         ·obtain rfl:m=Z.length / 2:=by omega
          have HQM:=aa hq;rw[hq];clear hpl;go_wp2;refine⟨⟨k+1,no,nc,by omega,.inr (by omega),by go_num,by rw[Qz.zo],HX7.zo.trans ae,by rw[Qz.zo];exact HO7.zo.exts ae⟩,?_⟩;simp[intOf];omega
     ·have t0:decide ((k:Int)<(X.length:Int) - 1)=false:=jE (by omega)
      obtain rfl:k=X.length - 1:=by omega
      obtain⟨R,hR⟩:∃R,mi S X (X.length - 1)=R:=⟨_,rfl⟩;rw[hR]at HF Rs ⊢;clear hR;by_cases acU:200<R.length
      ·have t1:decide ((200:Int)<(R.length:Int))=true:=zdt (by omega)
       have HF2:=aa (show res=([],6)by rw[HF.zo];unfold wC;rw[if_pos acU]);go_wp2;go_ret2;rw[HF2.zo];exact⟨_,_,rfl,Zz.zo.trans (CV.zo.trans ae),Sl.nil _ _⟩
      ·have t1:decide ((200:Int)<(R.length:Int))=false:=jE (by omega)
       have HF2:=aa (show res=(R,0)by rw[HF.zo];unfold wC;rw[if_neg acU]);go_wp2;go_ret2;rw[HF2.zo];exact⟨_,_,rfl,Zz.zo.trans (CV.zo.trans ae),(Rs.zo.sl rfl).exts ae⟩
theorem VR(l:List Rc):(wC l).1.length<=200:=by
 unfold wC;split
 ·simp
 ·simp only;omega
theorem L8(l:List Pt):(Bp l).1.length<=200:=by
 unfold Bp;split
 ·exact VR _
 ·simp
theorem VS{l:List Pt}(h: ¬(Bp l).2=0):(Bp l).1= []:=by
 unfold Bp wC at*;split at h
 ·rename_i q
  rw[if_pos q];split at h
  ·rename_i q2
   rw[if_pos q2]
  ·exact absurd rfl h
 ·rename_i q
  rw[if_neg q]
def cellsD(l:List Pt):List Rc:=(Bp l).1
theorem Rt(z:Zone)(cs:zv)(w:World)(h:(jV).R w cs z):Calls prog 240 #[.agg cs.toArray] w fun e w'=> ∃ao c,e=.returned (.slice ao (cellsD z.corners).length c)/\af w w'/\Sl je w' ao (cellsD z.corners).length c (cellsD z.corners):=by
 obtain⟨o,c,rfl,_,hs⟩:=h;have HS:=aa hs;obtain⟨⟨r1,r2⟩,hr⟩:∃r,Bp z.corners=r:=⟨_,rfl⟩;have HR:=aa hr;have HC:=aa (show cellsD z.corners=r1 by unfold cellsD;rw[hr]);have UF:=aa (show ¬r2=0->r1= []from fun h=>by have:=VS (l:=z.corners) (by rw[hr];exact h);rw[hr]at this;exact this);rw[HC.zo];clear hs hr;cases q:(r2==0)with
 |false=>
  have q1:(r2 !=0)=true:=by simpa using q
  have q2: ¬r2=0:=by simpa using q
  have HE:=aa (UF.zo q2);go_enter func240,ntmps240;go_wp2_with ((with_reducible refine ag (D7 _ _ _ z.corners _ ?_) ?_);exact HS.zo.exts ae;rw[HR.zo];rintro e w' ⟨lo,lc,rfl,hx1,ho1⟩;(have jZ:=aa (af.trans ae hx1:af w w'));clear hx1 ho1)
  go_ret;rw[HE.zo];exact⟨_,_,rfl,jZ.zo.trans ae,Sl.nil _ _⟩
 |true=>
  obtain rfl:r2=0:=by simpa using q
  clear q;go_enter func240,ntmps240;go_wp2_with ((with_reducible refine ag (D7 _ _ _ z.corners _ ?_) ?_);exact HS.zo.exts ae;rw[HR.zo];rintro e w' ⟨lo,lc,rfl,hx1,ho1⟩;(have jZ:=aa (af.trans ae hx1:af w w'));(have lv:=aa ho1);clear hx1 ho1)
  go_ret;exact⟨_,_,rfl,jZ.zo.trans ae,lv.zo.exts ae⟩
def jW(area:List Rc)(z:Zone):Int:=tR area (cellsD z.corners)
def iJ(zs:List Zone)(area:List Rc):List Int:=if ew area=true then zs.map (jW area)else []
theorem Ko{area:List Rc}(h:area.length<=200)(z:Zone):0<=jW area z/\jW area z<=43980465111040000:=by
 have:=tQ (l8 (cellsD z.corners)) 219902325555200 (by omega) (AZ (cellsD z.corners) (L8 _)) area area.length;rw[dQ (Nat.le_refl _)]at this;unfold jW tR;omega
theorem NM(p:Plan)(cs:zv)(ao:Option Addr)(n c:Nat)(area:List Rc)(w:World)(h1:(bq).R w cs p)(h:Sl je w ao n c area)(hz:p.zones.length<=1000):Calls prog 157 #[.agg cs.toArray,.slice ao n c] w fun e w'=> ∃oo oc,e=.returned (.slice oo (iJ p.zones area).length oc)/\af w w'/\aq dv w.heap.size 3 w' (.slice oo (iJ p.zones area).length oc) (iJ p.zones area):=by
 obtain⟨i0,hi,hz0,hz1,hz2⟩:=info_parts na;obtain⟨o1,c1,o2,c2,o3,c3,o4,c4,o5,c5,o6,c6,o7,c7,rfl,p0,p1,p2,p3,p4,p5,p6,p7⟩:=h1;have HZ:=aa p2;have HA:=aa h;have EI:=aa h.1;obtain⟨ra,hra⟩:∃r,ew area=r:=⟨_,rfl⟩;have zC:=aa hra;clear h p0 p1 p2 p3 p4 p5 p6 p7 hra;cases ra with
 |false=>
  have HF:=aa (show iJ p.zones area= []by unfold iJ;rw[zC.zo];rfl);go_enter func157,ntmps157;go_wp2_with ((with_reducible refine ag (ep zC.zo _ _ _ _ ?_) ?_);exact HA.zo.exts ae;rintro e w' ⟨rfl,x7,rfl⟩)
  go_ret;rw[HF.zo];exact⟨_,_,rfl,ae,aq.made _ _ _ _⟩
 |true=>
  have HF:=aa (show iJ p.zones area=p.zones.map (jW area)by unfold iJ;rw[zC.zo];rfl);have hal:=tO zC.zo;have HSL:=aa (Ko hal);rw[EI.zo]at hal;go_enter func157,ntmps157;go_wp2_with ((with_reducible refine ag (ep zC.zo _ _ _ _ ?_) ?_);exact HA.zo.exts ae;rintro e w' ⟨rfl,x7,rfl⟩)
  go_loopw [5,16] (fun o i wr=> ∃(k:Nat)(oo:Option Addr)(oc:Nat),k<=p.zones.length/\i=.int .i64 k/\o=.slice oo k oc/\af w wr/\aq dv w.heap.size 3 wr (.slice oo k oc) ((p.zones.take k).map (jW area))) (fun _ i _=>p.zones.length - (intOf i).toNat)
  case atStart=>exact⟨0,none,0,by omega,rfl,rfl,ae,aq.made _ _ _ _⟩
  case round=>
   obtain⟨k,qo,qc,hk,rfl,rfl,hx,ho⟩:=hrel;have HX:=aa hx;have HO:=aa ho;have hsz:w.heap.size<=wr.heap.size:=hx.below.size;clear hx ho;by_cases hlt:k<p.zones.length
   ·obtain⟨z,hz⟩:=HZ.zo.ex hlt
    obtain⟨b,off,cs,rfl,lb,hR,cZ⟩:=HZ.zo.ld hz;have hld:∀w',af wr w'->_:=fun w' he=>cZ w' (HX.zo.trans he)
    have HR:=aa hR;obtain⟨zo,zc,rfl,_⟩:=hR;have HS:=aa (show(p.zones.take (k+1)).map (jW area)=(p.zones.take k).map (jW area)++ [jW area z]by rw[List.take_add_one,hz,Option.toList_some,List.map_append];rfl);have HE:=aa (show((p.zones.take k).map (jW area)).length=k by rw[List.length_map,List.length_take];omega);obtain⟨s0,s1⟩:=HSL.zo z;have HI:=aa (show I64 (jW area z)by constructor<;>omega);have D8:=aa (show tR area (cellsD z.corners)=jW area z from rfl);obtain⟨s,hs⟩:∃s,jW area z=s:=⟨_,rfl⟩;rw[hs]at HS HI D8 s0 s1;have hcl:=aa (show(cellsD z.corners).length<=200 from L8 z.corners);clear hz cZ hs;go_wp2_with (first|((with_reducible refine ag (Rt z _ _ ?_) ?_);exact(jV).exts HR.zo (HX.zo.trans ae);rintro e w' ⟨lo,lc,rfl,⟨y1,rfl⟩,ho1⟩;(try simp only[bf,au]at ho1);(have lv:=aa ho1);clear ho1)|((with_reducible refine ag (Nr _ _ _ _ _ _ area (cellsD z.corners) _ ?_ ?_ hal hcl.zo) ?_);exact HA.zo.exts (HX.zo.trans ae);exact lv.zo.exts ae;rw[D8.zo];rintro e w' ⟨⟨px,py,rfl⟩,y2,rfl⟩)|(at_builtin;refine dz rfl (.tmp 27) (.tmp 29) 66 rfl dv w.heap.size 3 eZ.turn i0 _ 8 underlying66 hi hz0 hz1 hz2 rfl (by decide) _ s [.int .i64 s] _ _ _ rfl HE.zo HO.zo ae _ 1 rfl ⟨rfl,HI.zo⟩ (jw (by simp[go_sem])) (by omega) (by omega) (by simp<;>omega) ?_;intro ao' c' w1 hown hgrow;(have HN:=aa hown);(have HG:=aa hgrow);clear hown hgrow))
    refine⟨⟨k+1,ao',c',by omega,by go_num,rfl,HG.zo w (HX.zo.trans ae) (Nat.le_refl _),by rw[HS.zo];exact HN.zo⟩,?_⟩;simp[intOf];omega
   ·obtain rfl:p.zones.length=k:=by omega
    have HE:=aa (show(p.zones.take p.zones.length).map (jW area)=iJ p.zones area by rw[HF.zo,dQ (Nat.le_refl _)]);have CO:=aa (show p.zones.length=(iJ p.zones area).length by rw[HF.zo,List.length_map]);rw[HE.zo,CO.zo]at HO;rw[CO.zo];go_wp2;go_ret;exact⟨_,_,rfl,HX.zo.trans ae,HO.zo.exts ae⟩
def L9(zs:List Zone)(i:Nat):Bool:=match zs[i]? with|some z=>z.over|none=>false
def Ru(zs:List Zone)(i:Nat):ByteArray:=match zs[i]? with|some z=>z.name|none=>ByteArray.empty
def wI(zs:List Zone)(l:List Int)(b:Int)(i:Nat):Int:=if(!L9 zs i&&(decide (0<l.getD i 0)&&(decide (b<0)||decide (l.getD b.toNat 0<l.getD i 0))))=true then(i:Int)else b
def jm(zs:List Zone)(l:List Int)(k:Nat):Int:=(List.range k).foldl (wI zs l) (-1)
theorem yN(zs:List Zone)(l:List Int)(k:Nat):jm zs l (k+1)=wI zs l (jm zs l k) k:=by
 unfold jm;rw[List.range_succ,List.foldl_append];rfl
theorem D9(zs:List Zone)(l:List Int):∀k:Nat,-1<=jm zs l k/\jm zs l k<k
 |0=>by simp[jm]
 |k+1=>by
  have ih:=D9 zs l k;rw[yN];unfold wI;split<;>omega
def VT(zs:List Zone)(l:List Int)(b:Int)(i:Nat):Bool:=((i:Int)==b)||(L9 zs i&&decide (0<l.getD i 0))
def iK(zs:List Zone)(l:List Int)(b:Int)(k:Nat):List ByteArray:=((List.range k).filter (VT zs l b)).map (Ru zs)
theorem EU(zs:List Zone)(l:List Int)(b:Int)(k:Nat):iK zs l b (k+1)=iK zs l b k++if VT zs l b k then [Ru zs k]else []:=by
 unfold iK;rw[List.range_succ,List.filter_append,List.map_append];cases q:VT zs l b k<;>simp[List.filter_cons,q]
theorem Kp(zs:List Zone)(l:List Int)(b:Int)(k:Nat):(iK zs l b k).length<=k:=by
 unfold iK;rw[List.length_map];exact Nat.le_trans (List.length_filter_le _ _) (by rw[List.length_range];exact Nat.le_refl _)
def km(zs:List Zone)(area:List Rc):List ByteArray:=iK zs (iJ zs area) (jm zs (iJ zs area) (iJ zs area).length) (iJ zs area).length
theorem Kq(zs:List Zone)(area:List Rc):(iJ zs area).length<=zs.length:=by
 unfold iJ;split
 ·rw[List.length_map];exact Nat.le_refl _
 ·simp
theorem afd(p:Plan)(cs:zv)(ao:Option Addr)(n c:Nat)(area:List Rc)(w:World)(h1:(bq).R w cs p)(h:Sl je w ao n c area)(hz:p.zones.length<=1000):Calls prog 74 #[.agg cs.toArray,.slice ao n c] w fun e w'=> ∃oo oc,e=.returned (.slice oo (km p.zones area).length oc)/\af w w'/\aq fC w.heap.size 9 w' (.slice oo (km p.zones area).length oc) (km p.zones area):=by
 obtain⟨i0,hi,hz0,hz1,hz2⟩:=info_parts sk;have HPL:=aa h1;obtain⟨o1,c1,o2,c2,o3,c3,o4,c4,o5,c5,o6,c6,o7,c7,rfl,p0,p1,p2,p3,p4,p5,p6,p7⟩:=h1;have HZ:=aa p2;have HA:=aa h;have hle:=Kq p.zones area;obtain⟨l,hl⟩:∃l,iJ p.zones area=l:=⟨_,rfl⟩;have HL:=aa hl;have HZD:=aa (show km p.zones area=iK p.zones l (jm p.zones l l.length) l.length by unfold km;rw[hl]);rw[hl]at hle;obtain⟨res,hres⟩:∃r,km p.zones area=r:=⟨_,rfl⟩;rw[hres]at HZD ⊢;clear h p0 p1 p2 p3 p4 p5 p6 p7 hl hres;go_enter func74,ntmps74;go_wp2_with ((with_reducible refine ag (NM p _ _ _ _ area _ ?_ ?_ hz) ?_);exact(bq).exts HPL.zo ae;exact HA.zo.exts ae;rw[HL.zo];rintro e V ⟨lo,lc,rfl,hx,ho⟩;(have HX:=aa hx);(have wH:=aa (af.trans ae hx:af w V));(have HS:=aa (ho.sl rfl));clear hx ho)
 have K0:=aa (af.cell HX.zo (show(w.alloc (.cells #[.slice o1 p.defs.length c1,.slice o2 p.tables.length c2,.slice o3 p.zones.length c3,.slice o4 p.rules.length c4,.slice o5 p.caps.length c5,.slice o6 p.views.length c6,.slice o7 p.eA.length c7,.int .i64 p.hours] 30)).cell? ⟨w.heap.size,2,none⟩=some (.slice o3 p.zones.length c3)by simp[go_sem]));go_loopw [6,17] (fun b i wr=> ∃(k:Nat),k<=l.length/\i=.int .i64 k/\b=.int .i64 (jm p.zones l k)/\af V wr) (fun _ i _=>l.length - (intOf i).toNat)
 case atStart=>exact⟨0,by omega,rfl,rfl,ae⟩
 case round=>
  obtain⟨k,hk,rfl,rfl,hx⟩:=hrel;have jZ:=aa hx;obtain⟨q1,q2⟩:=D9 p.zones l k;have k0:=af.cell hx K0.zo;have X4:=bP k0;by_cases hlt:k<l.length
  ·obtain⟨a,ha⟩:=HS.zo.ex hlt
   obtain⟨z,hz'⟩:=HZ.zo.ex (show k<p.zones.length by omega);obtain⟨bx,ox,rfl,Kb,c00,ia⟩:=dV HS.zo ha;obtain⟨bz,oz,zo,zc,rfl,ZA,z00,z10,_,_,_⟩:=Ak HZ.zo hz';have c0:=af.cell hx c00;have z1:=af.cell (wH.zo.trans hx) z10;have lbx:=bP c0;have lbz:=bP z1;have HB:=aa (show jm p.zones l (k+1)=if(!z.over&&(decide (0<a)&&(decide (jm p.zones l k<0)||decide (l.getD (jm p.zones l k).toNat 0<a))))=true then(k:Int)else jm p.zones l k by
    rw[yN];unfold wI L9;rw[show l.getD k 0=a by rw[List.getD_eq_getElem?_getD,ha];rfl];simp only[hz'])
   obtain⟨bt,hbt⟩:∃b,jm p.zones l k=b:=⟨_,rfl⟩;rw[hbt]at HB q1 q2 ⊢;clear ha hz' c00 z00 z10 Kb ZA ia hx hbt;cases ov:z.over with
   |true=>
    rw[ov]at z1;have HE:=aa (show jm p.zones l (k+1)=bt by rw[HB.zo,ov];rfl);go_wp2;refine⟨⟨k+1,by omega,by go_num,by rw[HE.zo],jZ.zo.trans ae⟩,?_⟩;simp[intOf];omega
   |false=>
   rw[ov]at z1;cases t1:decide ((0:Int)<a)with
   |false=>
    have HE:=aa (show jm p.zones l (k+1)=bt by rw[HB.zo,ov,t1];rfl);go_wp2;refine⟨⟨k+1,by omega,by go_num,by rw[HE.zo],jZ.zo.trans ae⟩,?_⟩;simp[intOf];omega
   |true=>
   cases t2:decide (bt<0)with
   |true=>
    have HE:=aa (show jm p.zones l (k+1)=k by rw[HB.zo,ov,t1,t2];rfl);go_wp2;refine⟨⟨k+1,by omega,by go_num,by rw[HE.zo],jZ.zo.trans ae⟩,?_⟩;simp[intOf];omega
   |false=>
    obtain⟨q,rfl⟩:=Int.eq_ofNat_of_zero_le (show 0<=bt by have:=of_decide_eq_false t2;omega);obtain⟨b,hb⟩:=HS.zo.ex (show q<l.length by omega);obtain⟨bx2,ox2,e2,_,c10,_⟩:=dV HS.zo hb;simp only[Option.some.injEq,Addr.mk.injEq,and_true]at e2;obtain⟨rfl,rfl⟩:=e2;have c1:=af.cell jZ.zo c10;have HB2:=aa (show l.getD ((q:Int)).toNat 0=b by rw[Int.toNat_natCast,List.getD_eq_getElem?_getD,hb];rfl);clear hb c10;cases t3:decide (b<a)with
    |true=>
     have HE:=aa (show jm p.zones l (k+1)=k by rw[HB.zo,ov,t1,t2,HB2.zo,t3];rfl);go_wp2;refine⟨⟨k+1,by omega,by go_num,by rw[HE.zo],jZ.zo.trans ae⟩,?_⟩;simp[intOf];omega
    |false=>
     have HE:=aa (show jm p.zones l (k+1)=q by rw[HB.zo,ov,t1,t2,HB2.zo,t3];rfl);go_wp2;refine⟨⟨k+1,by omega,by go_num,by rw[HE.zo],jZ.zo.trans ae⟩,?_⟩;simp[intOf];omega
  ·obtain rfl:l.length=k:=by omega
   obtain⟨bt,hbt⟩:∃b,jm p.zones l l.length=b:=⟨_,rfl⟩;rw[hbt]at HZD q1 q2 ⊢;obtain⟨U,hU⟩:∃U:World,U=wr:=⟨_,rfl⟩;subst hU;clear hx hbt k0 X4;go_wp2;go_loopw [9,49] (fun o i wr=> ∃(k:Nat)(so:Option Addr)(sc:Nat),k<=l.length/\i=.int .i64 k/\o=.slice so (iK p.zones l bt k).length sc/\af U wr/\aq fC U.heap.size 9 wr (.slice so (iK p.zones l bt k).length sc) (iK p.zones l bt k)) (fun _ i _=>l.length - (intOf i).toNat)
   case atStart=>exact⟨0,none,0,by omega,rfl,rfl,ae,aq.made _ _ _ _⟩
   case round=>
    obtain⟨k,so,sc,hk,rfl,rfl,hx,ho⟩:=hrel;have gm:=aa hx;have jY:=aa ho;have HUX:=aa (jZ.zo.trans hx);have k0:=af.cell HUX.zo K0.zo;have X4:=bP k0;have ahI:U.heap.size<=wr.heap.size:=hx.below.size;clear hx ho;by_cases hlt:k<l.length
    ·obtain⟨a,ha⟩:=HS.zo.ex hlt
     obtain⟨z,hz'⟩:=HZ.zo.ex (show k<p.zones.length by omega);obtain⟨bx,ox,rfl,Kb,c00,ia⟩:=dV HS.zo ha;obtain⟨bz,oz,zo,zc,rfl,ZA,z00,z10,_,zsz,_⟩:=Ak HZ.zo hz';have c0:=af.cell HUX.zo c00;have z0:=af.cell (wH.zo.trans HUX.zo) z00;have z1:=af.cell (wH.zo.trans HUX.zo) z10;have lbx:=bP c0;have lbz:=bP z1;have tV:=aa zsz;have hnl:=Kp p.zones l bt k;have HB:=aa (show iK p.zones l bt (k+1)=iK p.zones l bt k++if(((k:Int)==bt)||(z.over&&decide (0<a)))=true then [z.name]else []by
      rw[EU];unfold VT L9 Ru;rw[hz',List.getD_eq_getElem?_getD,ha];rfl)
     obtain⟨F,hF⟩:∃F,iK p.zones l bt k=F:=⟨_,rfl⟩;rw[hF]at HB jY hnl ⊢;clear ha hz' c00 z00 z10 Kb ZA ia zsz hF;cases t0:((k:Int)==bt)with
     |true=>
      have HE:=aa (show iK p.zones l bt (k+1)=F++ [z.name]by rw[HB.zo,t0];rfl);have HT:=aa (show(k:Int)=bt by simpa using t0);obtain rfl:=HT.zo;clear t0;go_wp2_with (at_builtin;refine dz rfl (.tmp 69) (.tmp 76) 45 rfl fC U.heap.size 9 wq.turn i0 _ 16 underlying45 hi hz0 hz1 hz2 rfl (by decide) F z.name [.string z.name] _ _ _ rfl rfl jY.zo ae _ 1 rfl ⟨rfl,tV.zo⟩ (jw (by simp[go_sem])) (by omega) (by omega) (by simp<;>omega) ?_;intro ao' c' w1 hown hgrow;(have HN:=aa hown);(have HG:=aa hgrow);clear hown hgrow)
      refine⟨⟨k+1,ao',c',by omega,by go_num,by rw[HE.zo,dG];rfl,HG.zo U (gm.zo.trans ae) (Nat.le_refl _),by rw[HE.zo,dG];exact HN.zo⟩,?_⟩;simp[intOf];omega
     |false=>
     have t0': ¬(k:Int)=bt:=by simpa using t0
     cases ov:z.over with
     |false=>
      rw[ov]at z1;have HE:=aa (show iK p.zones l bt (k+1)=F by rw[HB.zo,t0,ov];simp);go_wp2;refine⟨⟨k+1,so,sc,by omega,by go_num,by rw[HE.zo],gm.zo.trans ae,by rw[HE.zo];exact jY.zo.exts ae⟩,?_⟩;simp[intOf];omega
     |true=>
     rw[ov]at z1;cases t1:decide ((0:Int)<a)with
     |false=>
      have HE:=aa (show iK p.zones l bt (k+1)=F by rw[HB.zo,t0,ov,t1];simp);go_wp2;refine⟨⟨k+1,so,sc,by omega,by go_num,by rw[HE.zo],gm.zo.trans ae,by rw[HE.zo];exact jY.zo.exts ae⟩,?_⟩;simp[intOf];omega
     |true=>
      have HE:=aa (show iK p.zones l bt (k+1)=F++ [z.name]by rw[HB.zo,t0,ov,t1];rfl);go_wp2_with (at_builtin;refine dz rfl (.tmp 69) (.tmp 76) 45 rfl fC U.heap.size 9 wq.turn i0 _ 16 underlying45 hi hz0 hz1 hz2 rfl (by decide) F z.name [.string z.name] _ _ _ rfl rfl jY.zo ae _ 1 rfl ⟨rfl,tV.zo⟩ (jw (by simp[go_sem])) (by omega) (by omega) (by simp<;>omega) ?_;intro ao' c' w1 hown hgrow;(have HN:=aa hown);(have HG:=aa hgrow);clear hown hgrow)
      refine⟨⟨k+1,ao',c',by omega,by go_num,by rw[HE.zo,dG];rfl,HG.zo U (gm.zo.trans ae) (Nat.le_refl _),by rw[HE.zo,dG];exact HN.zo⟩,?_⟩;simp[intOf];omega
    ·obtain rfl:l.length=k:=by omega
     rw[<-HZD.zo]at jY ⊢;have Qv:w.heap.size<=U.heap.size:=(wH.zo.trans jZ.zo).below.size;clear k0 X4;go_wp2;go_ret;exact⟨_,_,rfl,wH.zo.trans (HUX.zo.trans ae),(jY.zo.exts ae).lower Qv⟩
theorem one_row{T:Type}{L:Lay T}{w w2:World}{b k:Nat}{d:T}(h:Sl L w (some ⟨b,0,none⟩) 1 k [d])(h2:Sl L w2 (some ⟨b,0,none⟩) 1 k [d])(hb:w2.heap[b]?=w.heap[b]?):∀cs,L.R w cs d->(∀j u,cs[j]?=some u->w.cell? ⟨b,j,none⟩=some u)->L.R w2 cs d:=fun cs hR hc=>by
 obtain⟨b',off,cs2,e,_,hR2,hc2⟩:=h2.at (show [d][0]?=some d from rfl);cases e;have:cs=cs2:=by
  refine List.ext_getElem? fun j=> ?_
  rcases Nat.lt_or_ge j L.k with hj|hj
  ·have l1:j<cs.length:=by rw[L.len hR];exact hj
   have l2:j<cs2.length:=by rw[L.len hR2];exact hj
   have e1:=hc j _ (fZ l1);have e2:=hc2 j _ (fZ l2);rw[Nat.zero_mul,Nat.zero_add,Nat.zero_add]at e2;unfold World.cell? at e1 e2;simp only[hb]at e2;rw[fZ l1,fZ l2];exact e1.symm.trans e2
  ·rw[List.getElem?_eq_none (by rw[L.len hR];exact hj),List.getElem?_eq_none (by rw[L.len hR2];exact hj)]
 rw[this];exact hR2
theorem Tm(r:Rule)(g c:Nat)(w:World)(D:Nat->Prop)(hD:jg D w bq [.slice none 0 0,.slice none 0 0,.slice none 0 0,.slice (some ⟨g,0,none⟩) 1 c,.slice none 0 0,.slice none 0 0,.slice none 0 0,.int .i64 0] ⟨[],[],[],[r],[],[],[],0⟩)(hg:D g):Calls prog 40 #[.agg #[.slice none 0 0,.slice none 0 0,.slice none 0 0,.slice (some ⟨g,0,none⟩) 1 c,.slice none 0 0,.slice none 0 0,.slice none 0 0,.int .i64 0]] w fun e w'=> ∃cs:zv,e=.returned (.agg cs.toArray)/\af w w'/\jg D w' cY cs (aj r):=by
 have key:∀w2,On D w w2->Sl aw w2 (some ⟨g,0,none⟩) 1 c [r]:=fun w2 ho=>by
  obtain⟨o1,k1,o2,k2,o3,k3,o4,k4,o5,k5,o6,k6,o7,k7,hcs,_,_,_,q3,_,_,_,_⟩:=hD w2 ho;simp only[List.cons.injEq,Value.slice.injEq,List.length_nil,List.length_cons]at hcs;obtain⟨_,_,_,⟨rfl,_,rfl⟩,_⟩:=hcs;exact q3
 have q3:=key w (On.refl _ w);obtain⟨b,off,rc,hb,lb,hR,hcl⟩:=q3.at (show [r][0]?=some r from rfl);cases hb;have aal:∀j u,rc[j]?=some u->w.cell? ⟨g,j,none⟩=some u:=fun j u hu=>by
  have:=hcl j u hu
  rwa [Nat.zero_mul,Nat.zero_add,Nat.zero_add]at this
 have HDR:Hid (jg D w aw rc r):=aa fun w2 ho=>one_row q3 (key w2 ho) (ho.block g hg lb) rc hR aal
 have LD:∀w',af w w'->(jf 52 ⟨g,0,none⟩).run prog w'=.ok (.agg rc.toArray) w':=fun w' he=>yy ((aw).len hR) fun j u hu=>by rw[Nat.zero_add];exact he.cell (aal j u hu)
 clear key q3 hcl aal hD;obtain⟨cN,cO,dY,dZ,ej,ek,rfl,q0,q1,q2,q3,q4,q5,q6,q7,q8,q9,q10,q11,q12,q13,pV⟩:=hR;have Q0:=aa q0;have Q1:=aa q1;have Q2:=aa q2;have Q3:=aa q3;have Q4:=aa q4;have Q5:=aa q5;have Q6:=aa q6;have Q7:=aa q7;have Q8:=aa q8;have Q9:=aa q9;have Q10:=aa q10;have Q11:=aa q11;have Q12:=aa q12;have Q13:=aa q13;have Q14:=aa pV;clear q0 q1 q2 q3 q4 q5 q6 q7 q8 q9 q10 q11 q12 q13 pV;go_enter func40,ntmps40;go_wp2;refine bodyPost_ret (v:=.agg #[.int .i64 0,.string ⟨#[]⟩,.string ⟨#[]⟩,.int .i64 0,.string r.name,.slice cN r.zones.length cO,.slice dY r.exc.length dZ,.int .i64 r.start,.int .i64 r.stop,.int .i64 r.bM,.bool r.vary,.int .i64 r.kind,.int .i64 r.test.op,.int .i64 r.test.num,.string r.test.str,.string r.test.key,.slice ej r.test.args.length ek,.int .i64 r.ah.side,.int .i64 r.ah.base,.int .i64 r.ah.num,.int .i64 r.ah.den,.int .i64 r.uses,.int .i64 r.other,.int .i64 r.n,.int .i64 0,.int .i64 0,.string ⟨#[]⟩,.string ⟨#[]⟩,.slice none 0 0,.slice none 0 0]) (by rw[uG rfl];simp[go_sem]) rfl ⟨[.int .i64 0,.string ⟨#[]⟩,.string ⟨#[]⟩,.int .i64 0,.string r.name,.slice cN r.zones.length cO,.slice dY r.exc.length dZ,.int .i64 r.start,.int .i64 r.stop,.int .i64 r.bM,.bool r.vary,.int .i64 r.kind,.int .i64 r.test.op,.int .i64 r.test.num,.string r.test.str,.string r.test.key,.slice ej r.test.args.length ek,.int .i64 r.ah.side,.int .i64 r.ah.base,.int .i64 r.ah.num,.int .i64 r.ah.den,.int .i64 r.uses,.int .i64 r.other,.int .i64 r.n,.int .i64 0,.int .i64 0,.string ⟨#[]⟩,.string ⟨#[]⟩,.slice none 0 0,.slice none 0 0],rfl,ae,?_⟩;intro w2 ho2;obtain⟨oz',cz',oe',ce',ot',ct',hrc,p0,p1,p2,p3,p4,p5,p6,p7,p8,p9,p10,p11,p12,p13,p14⟩:=HDR.zo w2 ((On.exts ae).trans ho2);simp only[List.cons.injEq,Value.slice.injEq,true_and,and_true]at hrc;obtain⟨⟨rfl,rfl⟩,⟨rfl,rfl⟩,rfl,rfl⟩:=hrc;have i0:I64 0:=by constructor<;>omega
 have s0:gS ⟨#[]⟩:=by simp[gS,ByteArray.size]
 exact⟨_,_,_,_,_,_,_,_,_,_,rfl,i0,s0,s0,i0,p0,p1,p2,p3,p4,p5,p6,p7,p8,p9,p10,p11,p12,p13,p14,⟨i0,i0,s0,s0,Sl.nil _ _⟩,Sl.nil _ _⟩
def OV(f:Nat)(c:Ctx)(e:Xp)(w:World)(z:Ending)(w':World):Prop:=z=.returned (.int .i64 (qM f c e))/\af w w'/\I64 (qM f c e)
theorem ops8(k:Int):k=0∨k=1∨k=2∨k=3∨k=9∨k=15∨k=16∨(k≠0/\k≠1/\k≠2/\k≠3/\k≠9/\k≠15/\k≠16):=by omega
theorem Cv(c:Ctx)(hck:∀s,I64 (c.k s)):∀(f:Nat)(e:Xp)(cs es:zv)(w:World),okX f e=true->GU w cs c->(j7).R w es e->Calls prog 162 #[.agg cs.toArray,.agg es.toArray] w (OV f c e w):=by
 obtain⟨i0,hi,hz0,hz1,hz2⟩:=info_parts na;intro f;induction f with
 |zero=>
  intro e cs es w ho;simp[okX]at ho
 |succ f ih=>
  intro e cs es w ho hc he;obtain⟨op,num,str,key,args⟩:=e;have HIH:=aa ih;have HCT:=aa hc;have PB:=aa hck;unfold okX at ho;rw[Bool.and_eq_true,List.all_eq_true]at ho;obtain⟨ho1,ho2⟩:=ho;obtain⟨eo,ec,rfl,hv⟩:=he.opened;have HE0:=aa he;simp only[yv,Xp.op,Xp.num,Xp.str,Xp.key,Xp.args]at hv ho2;have jY:=aa ho2;have HS:=aa hv.2.2.2.2;have HNU:=aa hv.2.1;have hm:=HS.zo.nle;unfold maxLen at hm;obtain⟨pc,b,mn,mf,zo,zc,rfl,hp,hmm,hmf,hzz⟩:=hc;have HP:=aa hp;have ye:=aa (Vl (Xp.mk op num str key args) hp);obtain⟨o1,c1,o2,c2,o3,c3,o4,c4,o5,c5,o6,c6,o7,c7,rfl,q1⟩:=hp;have LQ:=aa hmm;have HMF:=aa hmf;have HZ:=aa hzz;have YE:qM (f+1) c (Xp.mk op num str key args)=LJ c (Xp.mk op num str key args) (XQ (qM f c) (Xp.mk op num str key args)):=rfl;have HGA:=aa (fun(k:Nat)(d:Xp)(hd:args[k]?=some d)=>Zb (vd:=qM f c) (e:=(Xp.mk op num str key args)) hd);have adW:=aa hv.2.2.1;obtain⟨g,hg⟩:∃g,XQ (qM f c) (Xp.mk op num str key args)=g:=⟨_,rfl⟩;rw[hg]at YE;simp only[hg,Xp.op,Xp.args]at HGA;unfold OV;obtain⟨res,hres⟩:∃x,qM (f+1) c (Xp.mk op num str key args)=x:=⟨_,rfl⟩;rw[hres]at YE ⊢;have TJ:=aa YE;have Xm:=aa ho1;clear hv hg q1 hmm hmf hzz ih he ho2 hck YE hres ho1;show Calls prog 162 #[.agg #[.slice o1 c.p.defs.length c1,.slice o2 c.p.tables.length c2,.slice o3 c.p.zones.length c3,.slice o4 c.p.rules.length c4,.slice o5 c.p.caps.length c5,.slice o6 c.p.views.length c6,.slice o7 c.p.eA.length c7,.int .i64 c.p.hours,.map (some b),.slice zo c.zones.length zc],.agg #[.int .i64 op,.int .i64 num,.string str,.string key,.slice eo args.length ec]] w _;go_enter func162,ntmps162;go_wp2;refine bI ?_;intro W0 hW0;have HW0:=aa (show af w W0 by rw[hW0];exact ae);have C0:=aa (show W0.cell? ⟨w.heap.size+1,0,none⟩=some (.int .i64 op)by rw[hW0];simp[go_sem]);have C1:=aa (show W0.cell? ⟨w.heap.size+1,1,none⟩=some (.int .i64 num)by rw[hW0];simp[go_sem]);have C2:=aa (show W0.cell? ⟨w.heap.size+1,2,none⟩=some (.string str)by rw[hW0];simp[go_sem]);have M8:=aa (show W0.cell? ⟨w.heap.size,8,none⟩=some (.map (some b))by rw[hW0];simp[go_sem]);have M9:=aa (show W0.cell? ⟨w.heap.size,9,none⟩=some (.slice zo c.zones.length zc)by rw[hW0];simp[go_sem]);have HLC:=aa (show∀w',af W0 w'->(jf 267 ⟨w.heap.size,0,none⟩).run prog w'=.ok (.agg #[.slice o1 c.p.defs.length c1,.slice o2 c.p.tables.length c2,.slice o3 c.p.zones.length c3,.slice o4 c.p.rules.length c4,.slice o5 c.p.caps.length c5,.slice o6 c.p.views.length c6,.slice o7 c.p.eA.length c7,.int .i64 c.p.hours,.map (some b),.slice zo c.zones.length zc]) w' from fun w' he=>Y7 (cs:= [.slice o1 c.p.defs.length c1,.slice o2 c.p.tables.length c2,.slice o3 c.p.zones.length c3,.slice o4 c.p.rules.length c4,.slice o5 c.p.caps.length c5,.slice o6 c.p.views.length c6,.slice o7 c.p.eA.length c7,.int .i64 c.p.hours,.map (some b),.slice zo c.zones.length zc]) rfl (fun j u hu=>af.cell he (by
   rw[hW0]
   match j,hu with
   |0,hu=>(cases hu;simp[go_sem])
   |1,hu=>(cases hu;simp[go_sem])
   |2,hu=>(cases hu;simp[go_sem])
   |3,hu=>(cases hu;simp[go_sem])
   |4,hu=>(cases hu;simp[go_sem])
   |5,hu=>(cases hu;simp[go_sem])
   |6,hu=>(cases hu;simp[go_sem])
   |7,hu=>(cases hu;simp[go_sem])
   |8,hu=>(cases hu;simp[go_sem])
   |9,hu=>(cases hu;simp[go_sem]))))
  have HLE:=aa (show∀w',af W0 w'->(jf 48 ⟨w.heap.size+1,0,none⟩).run prog w'=.ok (.agg #[.int .i64 op,.int .i64 num,.string str,.string key,.slice eo args.length ec]) w' from fun w' he=>uy (cs:= [.int .i64 op,.int .i64 num,.string str,.string key,.slice eo args.length ec]) rfl (fun j u hu=>af.cell he (by
   rw[hW0]
   match j,hu with
   |0,hu=>(cases hu;simp[go_sem])
   |1,hu=>(cases hu;simp[go_sem])
   |2,hu=>(cases hu;simp[go_sem])
   |3,hu=>(cases hu;simp[go_sem])
   |4,hu=>(cases hu;simp[go_sem]))))
  clear hW0;rcases ops8 op with rfl|rfl|rfl|rfl|rfl|rfl|rfl|⟨h0,h1,h2,h3,h9,h15,h16⟩;all_goals
   first|have hlen:args.length=0:=(by have:=Xm.zo;unfold qL lX at this;first|(simp[Xp.op,Xp.args]at this;first|omega|(rw[this];rfl)|exact this.symm)|(simp[Xp.op,Xp.args,h0,h1,h2,h3,h9,h15,h16]at this;first|omega|(rw[this];rfl)|exact this.symm))|have hlen:args.length=1:=(by have:=Xm.zo;unfold qL lX at this;first|(simp[Xp.op,Xp.args]at this;first|omega|(rw[this];rfl)|exact this.symm)|(simp[Xp.op,Xp.args,h0,h1,h2,h3,h9,h15,h16]at this;first|omega|(rw[this];rfl)|exact this.symm))|have hlen:args.length=2:=(by have:=Xm.zo;unfold qL lX at this;first|(simp[Xp.op,Xp.args]at this;first|omega|(rw[this];rfl)|exact this.symm)|(simp[Xp.op,Xp.args,h0,h1,h2,h3,h9,h15,h16]at this;first|omega|(rw[this];rfl)|exact this.symm))|have hlen:args.length=3:=(by have:=Xm.zo;unfold qL lX at this;first|(simp[Xp.op,Xp.args]at this;first|omega|(rw[this];rfl)|exact this.symm)|(simp[Xp.op,Xp.args,h0,h1,h2,h3,h9,h15,h16]at this;first|omega|(rw[this];rfl)|exact this.symm))
   have hle3:args.length<=3:=by omega
   have HLEN:=aa hlen;clear hlen;go_loopw [5,11] (fun v i wr=> ∃(k:Nat)(oo:Option Addr)(oc:Nat),k<=args.length/\i=.int .i64 k/\v=.slice oo ((List.range k).map g).length oc/\af W0 wr/\aq dv W0.heap.size 3 wr (.slice oo ((List.range k).map g).length oc) ((List.range k).map g)) (fun _ i _=>args.length - (intOf i).toNat)
   case atStart=>exact⟨0,none,0,by omega,rfl,rfl,af.refl _,aq.made _ _ _ _⟩
   case round=>
    obtain⟨k,oo,oc,hk,rfl,rfl,hx,hown⟩:=hrel;have HX:=aa (show af w wr from HW0.zo.trans hx);have uB:=aa hx;have HO:=aa hown;have hsz:W0.heap.size<=wr.heap.size:=hx.below.size;have hll:((List.range k).map g).length=k:=by simp
    have hlc:∀w',af wr w'->_:=fun w' he=>HLC.zo w' (uB.zo.trans he)
    have c0:=af.cell hx C0.zo;have lbe:=bP c0;by_cases hlt:k<args.length
    ·obtain⟨d,hd⟩:=HS.zo.ex hlt
     obtain⟨bb,off,csd,hao,lb,hR,cZ⟩:=HS.zo.ld hd;subst hao;obtain⟨po,pc,rfl,_⟩:=hR.opened;have HR:=aa hR;have hld:∀w',af wr w'->_:=fun w' he=>cZ w' (HX.zo.trans he)
     have HOD:=aa (jY.zo d (gH hd));have xM:=aa (show(List.range (k+1)).map g=(List.range k).map g++ [g k]by rw[List.range_succ,List.map_append];rfl);have YF:=aa (HGA.zo k d hd);have hL0:0<k->((List.range k).map g)[0]?=some (g 0):=fun h0=>by
      rw[List.getElem?_map,List.getElem?_range h0];rfl
     have HL0:=aa hL0;obtain⟨L,hL⟩:∃L,(List.range k).map g=L:=⟨_,rfl⟩;rw[hL]at HO xM hll HL0 ⊢;have HO:=aa (show aq dv W0.heap.size 3 wr (.slice oo k oc) L by have:=HO.zo;rwa [hll]at this);have rY:=aa hll;rw[hll];obtain⟨vd,hvd⟩:∃v,qM f c d=v:=⟨_,rfl⟩;have HVD:=aa hvd;rw[hvd]at YF;clear hd cZ hR hx hown hL hvd hL0 hll;by_cases hn3:args.length=3
     ·first|(exfalso;have:=HLEN.zo;omega)|clear hn3
      all_goals
       by_cases hk0:k=0
       ·subst hk0
        have HE:=aa (show(List.range 1).map g=L++ [vd]by rw[show(List.range 1).map g=L++ [g 0]from xM.zo,YF.zo];simp[wj]);have Wb:∀w',af wr w'->(jf 48 ⟨bb,off,none⟩).run prog w'=.ok (.agg #[.int .i64 d.op,.int .i64 d.num,.string d.str,.string d.key,.slice po d.args.length pc]) w':=fun w' he=>by have:=hld w' he;rwa [Nat.zero_mul,Nat.add_zero]at this
        go_wp2_with (first|((with_reducible refine ag (HIH.zo d _ _ _ HOD.zo ?_ ?_) ?_);exact HCT.zo.exts (HX.zo.trans ae);exact(j7).exts HR.zo (HX.zo.trans ae);unfold OV;rw[HVD.zo];rintro z w' ⟨rfl,⟨x7,rfl⟩,TM⟩;(have HI7:=aa TM);clear TM)|(at_builtin;refine dz rfl (.tmp 35) (.tmp 39) 66 rfl dv W0.heap.size 3 eZ.turn i0 _ 8 underlying66 hi hz0 hz1 hz2 rfl (by decide) L vd [.int .i64 vd] _ _ _ rfl rY.zo HO.zo ae _ 1 rfl ⟨rfl,HI7.zo⟩ (jw (by simp[go_sem])) (by omega) (by omega) (by simp<;>omega) ?_;intro ao' c' w1 hown hgrow;(have HN:=aa hown);(have HG:=aa hgrow);clear hown hgrow))
        refine⟨⟨1,ao',c',by omega,by go_num,by rw[HE.zo,dG,rY.zo];rfl,HG.zo _ (uB.zo.trans ae) (by simp),by rw[HE.zo,dG,rY.zo];exact HN.zo⟩,?_⟩;simp[intOf];omega
       ·have HSK:=aa (show wj 16 (g 0) k=((g 0 !=0) !=((k:Int)==1))by
         have:((k:Int)==1)=(k==1):=by
          rw[Bool.eq_iff_iff];simp;omega
         rw[this];unfold wj;rw[zdt (show 0<k by omega)];rfl)
        obtain⟨bo,oo2,rfl,lbo,OW,_⟩:=dV (HO.zo.sl rY.zo) (HL0.zo (by omega));have kn:0<k:=by omega
        have kp:decide ((0:Int)<(k:Int))=true:=zdt (by omega);obtain⟨g0,hg0⟩:∃x,g 0=x:=⟨_,rfl⟩;rw[hg0,Nat.add_zero]at OW;rw[hg0]at HSK YF;clear hg0;have Xn:=aa (fun(a b:Bool)(ha:(g0 !=0)=a)(hb:((k:Int)==1)=b)=>show wj 16 g0 k=(a !=b)by rw[HSK.zo,ha,hb]);cases qa:(g0 !=0)<;>cases qb:((k:Int)==1)
        ·have HE:=aa (show(List.range (k+1)).map g=L++ [vd]by rw[xM.zo,YF.zo,Xn.zo _ _ qa qb];rfl)
         go_wp2_with (first|((with_reducible refine ag (HIH.zo d _ _ _ HOD.zo ?_ ?_) ?_);exact HCT.zo.exts (HX.zo.trans ae);exact(j7).exts HR.zo (HX.zo.trans ae);unfold OV;rw[HVD.zo];rintro z w' ⟨rfl,⟨x7,rfl⟩,TM⟩;(have HI7:=aa TM);clear TM)|(at_builtin;refine dz rfl (.tmp 35) (.tmp 39) 66 rfl dv W0.heap.size 3 eZ.turn i0 _ 8 underlying66 hi hz0 hz1 hz2 rfl (by decide) L vd [.int .i64 vd] _ _ _ rfl rY.zo HO.zo ae _ 1 rfl ⟨rfl,HI7.zo⟩ (jw (by simp[go_sem])) (by omega) (by omega) (by simp<;>omega) ?_;intro ao' c' w1 hown hgrow;(have HN:=aa hown);(have HG:=aa hgrow);clear hown hgrow))
         refine⟨⟨k+1,ao',c',by omega,by go_num,by rw[HE.zo,dG,rY.zo];rfl,HG.zo _ (uB.zo.trans ae) (by simp),by rw[HE.zo,dG,rY.zo];exact HN.zo⟩,?_⟩;simp[intOf];omega
        ·have HE:=aa (show(List.range (k+1)).map g=L++ [0]by rw[xM.zo,YF.zo,Xn.zo _ _ qa qb];rfl)
         go_wp2_with (at_builtin;refine dz rfl (.tmp 32) (.tmp 33) 66 rfl dv W0.heap.size 3 eZ.turn i0 _ 8 underlying66 hi hz0 hz1 hz2 rfl (by decide) L 0 [.int .i64 0] _ _ _ rfl rY.zo HO.zo ae _ 1 rfl ⟨rfl,by simp[I64]⟩ (jw (by simp[go_sem])) (by omega) (by omega) (by simp<;>omega) ?_;intro ao' c' w1 hown hgrow;(have HN:=aa hown);(have HG:=aa hgrow);clear hown hgrow)
         refine⟨⟨k+1,ao',c',by omega,by go_num,by rw[HE.zo,dG,rY.zo];rfl,HG.zo _ (uB.zo.trans ae) (by simp),by rw[HE.zo,dG,rY.zo];exact HN.zo⟩,?_⟩;simp[intOf];omega
        ·have HE:=aa (show(List.range (k+1)).map g=L++ [0]by rw[xM.zo,YF.zo,Xn.zo _ _ qa qb];rfl)
         go_wp2_with (at_builtin;refine dz rfl (.tmp 32) (.tmp 33) 66 rfl dv W0.heap.size 3 eZ.turn i0 _ 8 underlying66 hi hz0 hz1 hz2 rfl (by decide) L 0 [.int .i64 0] _ _ _ rfl rY.zo HO.zo ae _ 1 rfl ⟨rfl,by simp[I64]⟩ (jw (by simp[go_sem])) (by omega) (by omega) (by simp<;>omega) ?_;intro ao' c' w1 hown hgrow;(have HN:=aa hown);(have HG:=aa hgrow);clear hown hgrow)
         refine⟨⟨k+1,ao',c',by omega,by go_num,by rw[HE.zo,dG,rY.zo];rfl,HG.zo _ (uB.zo.trans ae) (by simp),by rw[HE.zo,dG,rY.zo];exact HN.zo⟩,?_⟩;simp[intOf];omega
        ·have HE:=aa (show(List.range (k+1)).map g=L++ [vd]by rw[xM.zo,YF.zo,Xn.zo _ _ qa qb];rfl)
         go_wp2_with (first|((with_reducible refine ag (HIH.zo d _ _ _ HOD.zo ?_ ?_) ?_);exact HCT.zo.exts (HX.zo.trans ae);exact(j7).exts HR.zo (HX.zo.trans ae);unfold OV;rw[HVD.zo];rintro z w' ⟨rfl,⟨x7,rfl⟩,TM⟩;(have HI7:=aa TM);clear TM)|(at_builtin;refine dz rfl (.tmp 35) (.tmp 39) 66 rfl dv W0.heap.size 3 eZ.turn i0 _ 8 underlying66 hi hz0 hz1 hz2 rfl (by decide) L vd [.int .i64 vd] _ _ _ rfl rY.zo HO.zo ae _ 1 rfl ⟨rfl,HI7.zo⟩ (jw (by simp[go_sem])) (by omega) (by omega) (by simp<;>omega) ?_;intro ao' c' w1 hown hgrow;(have HN:=aa hown);(have HG:=aa hgrow);clear hown hgrow))
         refine⟨⟨k+1,ao',c',by omega,by go_num,by rw[HE.zo,dG,rY.zo];rfl,HG.zo _ (uB.zo.trans ae) (by simp),by rw[HE.zo,dG,rY.zo];exact HN.zo⟩,?_⟩;simp[intOf];omega
     ·first|(exfalso;have:=HLEN.zo;omega)|clear hn3
      all_goals
       have HE:=aa (show(List.range (k+1)).map g=L++ [vd]by rw[xM.zo,YF.zo];first|(simp[wj];done)|simp[wj,h16]);go_wp2_with (first|((with_reducible refine ag (HIH.zo d _ _ _ HOD.zo ?_ ?_) ?_);exact HCT.zo.exts (HX.zo.trans ae);exact(j7).exts HR.zo (HX.zo.trans ae);unfold OV;rw[HVD.zo];rintro z w' ⟨rfl,⟨x7,rfl⟩,TM⟩;(have HI7:=aa TM);clear TM)|(at_builtin;refine dz rfl (.tmp 35) (.tmp 39) 66 rfl dv W0.heap.size 3 eZ.turn i0 _ 8 underlying66 hi hz0 hz1 hz2 rfl (by decide) L vd [.int .i64 vd] _ _ _ rfl rY.zo HO.zo ae _ 1 rfl ⟨rfl,HI7.zo⟩ (jw (by simp[go_sem])) (by omega) (by omega) (by simp<;>omega) ?_;intro ao' c' w1 hown hgrow;(have HN:=aa hown);(have HG:=aa hgrow);clear hown hgrow))
       refine⟨⟨k+1,ao',c',by omega,by go_num,by rw[HE.zo,dG,rY.zo];rfl,HG.zo _ (uB.zo.trans ae) (by simp),by rw[HE.zo,dG,rY.zo];exact HN.zo⟩,?_⟩;simp[intOf];omega
    ·obtain rfl:args.length=k:=by omega
     have hle:∀w',af wr w'->_:=fun w' he=>HLE.zo w' (uB.zo.trans he)
     have c1:=af.cell hx C1.zo;have c2:=af.cell hx C2.zo;have m8:=af.cell hx M8.zo;have m9:=af.cell hx M9.zo;have lbw:=bP m8;have hl0:=(show((List.range args.length).map g).length=args.length by rw[List.length_map,List.length_range]).trans HLEN.zo;rw[hl0]at HO ⊢;rw[HLEN.zo]at HO;clear hx hown hll hl0;first
     |have HQ:=aa (show res=num by rw[TJ.zo];rfl)
      go_wp2;go_ret;rw[HQ.zo];exact⟨rfl,HX.zo.trans ae,HNU.zo⟩
     |have HQ:=aa (show res=c.k str by rw[TJ.zo];rfl)
      have hlk:∀w',af wr w'->(Instr.lookup 250 (.map (some b)) (.string str) false).run prog w'=.ok (.int .i64 (c.k str)) w':=fun w' he=>by
       rw[(LQ.zo.exts (HX.zo.trans he)).look mF underlying250 (WideMaps.keyOf_string_mk underlying9 adW.zo),HMF.zo str adW.zo]
      go_wp2;go_ret;rw[HQ.zo];exact⟨rfl,HX.zo.trans ae,PB.zo _⟩
     |have HQ:=aa (show res=Ay c.p (Xp.mk 2 num str key args)by rw[TJ.zo];rfl)
      obtain⟨rv,YE⟩:∃x,Ay c.p (Xp.mk 2 num str key args)=x:=⟨_,rfl⟩;have HRW:=aa YE;rw[YE]at HQ ye;clear YE;go_wp2_with ((with_reducible refine ag (Y8 c (Xp.mk 2 num str key args) _ _ _ ?_ ?_) ?_);exact HCT.zo.exts (HX.zo.trans ae);exact(j7).exts HE0.zo (HX.zo.trans ae);rw[HRW.zo];rintro z w' ⟨rfl,x7,rfl⟩)
      go_ret;rw[HQ.zo];exact⟨rfl,HX.zo.trans ae,ye.zo⟩
     |have HQ:=aa (show res=wh (c.zones.any (pN str))by rw[TJ.zo];rfl)
      obtain⟨bv,hbv⟩:∃x,c.zones.any (pN str)=x:=⟨_,rfl⟩;have HBV:=aa hbv;rw[hbv]at HQ;clear hbv;go_wp2_with (first|((with_reducible refine ag (pE str _ _ _ c.zones _ ?_) ?_);exact HZ.zo.exts (HX.zo.trans ae);rw[HBV.zo];rintro z w' ⟨rfl,x7,rfl⟩)|((with_reducible refine(AD _ _).mono ?_);rintro z w' ⟨rfl,x8,rfl⟩))
      go_ret;rw[HQ.zo];exact⟨rfl,HX.zo.trans ae,EE _⟩
     |have hs:=HO.zo.sl (show((List.range 1).map g).length=1 from rfl)
      have hat:∀i,i<1->((List.range 1).map g)[i]?=some (g i):=fun i hi=>by rw[List.getElem?_map,List.getElem?_range hi];rfl
      obtain⟨bo,oo2,rfl,lbo,OW,gi0⟩:=dV hs (hat 0 (by decide));rw[Nat.add_zero]at OW;obtain⟨x0,hx0⟩:∃x,g 0=x:=⟨_,rfl⟩;rw[hx0]at OW gi0;have TH:=aa hx0;clear hs hat hx0;have HQ:=aa (show res=wrap64 (-x0)by rw[TJ.zo];rw[<-TH.zo];rfl);go_wp2;go_ret;rw[HQ.zo];exact⟨rfl,HX.zo.trans ae,wrap_i64 _⟩
     |have hs:=HO.zo.sl (show((List.range 1).map g).length=1 from rfl)
      have hat:∀i,i<1->((List.range 1).map g)[i]?=some (g i):=fun i hi=>by rw[List.getElem?_map,List.getElem?_range hi];rfl
      obtain⟨bo,oo2,rfl,lbo,OW,gi0⟩:=dV hs (hat 0 (by decide));rw[Nat.add_zero]at OW;obtain⟨x0,hx0⟩:∃x,g 0=x:=⟨_,rfl⟩;rw[hx0]at OW gi0;have TH:=aa hx0;clear hs hat hx0;have HQ:=aa (show res=wh (x0==0)by rw[TJ.zo];rw[<-TH.zo];rfl);go_wp2_with ((with_reducible refine(AD _ _).mono ?_);rintro z w' ⟨rfl,x8,rfl⟩)
      go_ret;rw[HQ.zo];exact⟨rfl,HX.zo.trans ae,EE _⟩
     |have hs:=HO.zo.sl (show((List.range 3).map g).length=3 from rfl)
      have hat:∀i,i<3->((List.range 3).map g)[i]?=some (g i):=fun i hi=>by rw[List.getElem?_map,List.getElem?_range hi];rfl
      obtain⟨bo,oo2,rfl,lbo,OW,gi0⟩:=dV hs (hat 0 (by decide));rw[Nat.add_zero]at OW;obtain⟨bo1,oo1,aaz,_,co1,gi1⟩:=dV hs (hat 1 (by decide));cases aaz;obtain⟨bo2,oo2,agm,_,co2,gi2⟩:=dV hs (hat 2 (by decide));cases agm;obtain⟨x0,hx0⟩:∃x,g 0=x:=⟨_,rfl⟩;rw[hx0]at OW gi0;have TH:=aa hx0;obtain⟨x1,hx1⟩:∃x,g 1=x:=⟨_,rfl⟩;rw[hx1]at co1 gi1;have Xk:=aa hx1;obtain⟨x2,hx2⟩:∃x,g 2=x:=⟨_,rfl⟩;rw[hx2]at co2 gi2;have MP:=aa hx2;clear hs hat hx0 hx1 hx2;cases qa:(x0 !=0)
      ·have HQ:=aa (show res=x2 by rw[TJ.zo];show(if g 0=0 then g 2 else g 1)=x2;rw[TH.zo,Xk.zo,MP.zo];rw[if_pos (by simpa using qa)])
       go_wp2;go_ret;rw[HQ.zo];exact⟨rfl,HX.zo.trans ae,gi2⟩
      ·have HQ:=aa (show res=x1 by rw[TJ.zo];show(if g 0=0 then g 2 else g 1)=x1;rw[TH.zo,Xk.zo,MP.zo];rw[if_neg (by simpa using qa)])
       go_wp2;go_ret;rw[HQ.zo];exact⟨rfl,HX.zo.trans ae,gi1⟩
     |have hs:=HO.zo.sl (show((List.range 2).map g).length=2 from rfl)
      have hat:∀i,i<2->((List.range 2).map g)[i]?=some (g i):=fun i hi=>by rw[List.getElem?_map,List.getElem?_range hi];rfl
      obtain⟨bo,oo2,rfl,lbo,OW,gi0⟩:=dV hs (hat 0 (by decide));rw[Nat.add_zero]at OW;obtain⟨bo1,oo1,aaz,_,co1,gi1⟩:=dV hs (hat 1 (by decide));cases aaz;obtain⟨x0,hx0⟩:∃x,g 0=x:=⟨_,rfl⟩;rw[hx0]at OW gi0;have TH:=aa hx0;obtain⟨x1,hx1⟩:∃x,g 1=x:=⟨_,rfl⟩;rw[hx1]at co1 gi1;have Xk:=aa hx1;clear hs hat hx0 hx1;have HQ:=aa (show res=AE op x0 x1 by rw[TJ.zo];rw[<-TH.zo,<-Xk.zo];unfold LJ;simp only[Xp.op,h0,h1,h2,h3,h9,h15,h16,reduceIte]);go_wp2;first|refine eK ?_|refine eJ ?_
      repeat (go_big_quiet_step (((go_at_call 246;exact Calls.dJ (MW _ _ _ _)))))
      refine eM fun xq=> ?_
      go_wp2;go_ret;rw[HQ.zo];exact⟨rfl,HX.zo.trans ae,Vk _ _ _⟩
end Go.Proofs.YtomgpelfmgkknaaGreatDoor
