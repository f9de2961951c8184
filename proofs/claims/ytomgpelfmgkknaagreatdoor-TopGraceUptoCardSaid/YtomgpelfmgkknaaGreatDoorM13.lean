/- Lemmas for the law. No conditions. -/
import Derived.Test.YtomgpelfmgkknaaGreatDoorM8
import Derived.Test.YtomgpelfmgkknaaGreatDoorM11
import Derived.Test.YtomgpelfmgkknaaGreatDoorM6
namespace Go.Proofs.YtomgpelfmgkknaaGreatDoor
open Go.RowKit Go.Maps
open Go.Proofs.Tryz
set_option maxRecDepth 100000
set_option maxHeartbeats 40000000
set_option linter.unusedVariables false
set_option linter.unusedSimpArgs false
def wj(op g0:Int)(k:Nat):Bool:=op==16&&(decide (0<k)&&((g0 !=0) !=(k==1)))
def XQ(vd:Xp->Int)(e:Xp)(j:Nat):Int:=if wj e.op (vd (e.args.getD 0 default)) j=true then 0 else vd (e.args.getD j default)
def LJ(c:Ctx)(e:Xp)(g:Nat->Int):Int:=
 if e.op=0 then e.num else if e.op=1 then c.k e.str else if e.op=2 then Ay c.p e else if e.op=3 then wh (c.zones.any (pN e.str))
 else if e.op=9 then wrap64 (-(g 0))else if e.op=15 then wh (g 0==0)else if e.op=16 then(if g 0=0 then g 2 else g 1)else AE e.op (g 0) (g 1)
def qM:Nat->Ctx->Xp->Int
 |0,_,_=>0
 |f+1,c,e=>LJ c e (XQ (qM f c) e)
def okX:Nat->Xp->Bool
 |0,_=>false
 |f+1,e=>qL e&&e.args.all (okX f)
theorem Qh(vd:Xp->Int)(e:Xp):XQ vd e 0=vd (e.args.getD 0 default):=by
 unfold XQ wj;simp
theorem Zb{vd:Xp->Int}{e:Xp}{k:Nat}{d:Xp}(hd:e.args[k]?=some d):XQ vd e k=if wj e.op (XQ vd e 0) k=true then 0 else vd d:=by
 rw[Qh];unfold XQ;rw[List.getD_eq_getElem?_getD,List.getD_eq_getElem?_getD,hd,Option.getD_some]
theorem Dy:∀(l:List Int)(a:Int),a<=l.foldl jF a/\∀x∈l,x<=l.foldl jF a
 | [],a=>⟨Int.le_refl _,fun x hx=>nomatch hx⟩
 |y::l,a=>by
  obtain⟨h1,h2⟩:=Dy l (jF a y);rw[List.foldl_cons];have:a<=jF a y/\y<=jF a y:=by unfold jF;omega
  refine⟨by omega,fun x hx=> ?_⟩;rcases List.mem_cons.1 hx with rfl|hx
  ·omega
  ·exact h2 x hx
theorem JV:∀(f:Nat)(e:Xp),pP f e<=12->okX f e=true
 |0,e,h=>by simp[pP]at h
 |f+1,e,h=>by
  unfold pP at h;unfold okX;split at h
  ·rename_i q
   rw[q,Bool.true_and,List.all_eq_true];intro x hx;have:=(Dy (e.args.map (pP f)) 0).2 _ (List.mem_map_of_mem hx);exact JV f x (by omega)
  ·omega
theorem wrap_i64(a:Int):I64 (wrap64 a):=by
 unfold I64 wrap64;have:=Int.emod_nonneg (a+9223372036854775808) (by decide:(18446744073709551616:Int)≠0);have:=Int.emod_lt_of_pos (a+9223372036854775808) (by decide:(0:Int)<18446744073709551616);omega
theorem EE(b:Bool):I64 (wh b):=by
 cases b<;>simp[wh,I64]
theorem Vj(a b:Int):I64 (zz a b):=by
 unfold zz;split
 ·simp[I64]
 ·split
  ·exact wrap_i64 _
  ·split
   ·exact wrap_i64 _
   ·exact wrap_i64 _
theorem Vk(op a b:Int):I64 (AE op a b):=by
 unfold AE;repeat' split
 all_goals first
  |exact wrap_i64 _
  |exact Vj _ _
  |exact EE _
  |simp[I64]
theorem Vl{w:World}{cs:zv}{p:Plan}(e:Xp)(h:LB w cs p):I64 (Ay p e):=by
 obtain⟨o1,c1,o2,c2,o3,c3,o4,c4,o5,c5,o6,c6,o7,c7,rfl,q1,q2,q3⟩:=h;unfold Ay;split
 ·simp[I64]
 ·rename_i t ht
  obtain⟨k,hk⟩:=List.getElem?_of_mem (List.mem_of_find?_eq_some ht);obtain⟨b,off,cst,rfl,acp,hR,hld⟩:=q2.ld hk;obtain⟨ro,rc,rfl,qs,qr,qe⟩:=hR;split
  ·rename_i r hr
   obtain⟨k2,hk2⟩:=List.getElem?_of_mem (List.mem_of_find?_eq_some hr);obtain⟨br,Vg,rfl,Y9,c0r,c1r,_,i⟩:=xy qr hk2;exact i
  ·exact qe
theorem Qs{w:World}{b0:Nat}{u:Value}(hb:b0<w.heap.size)(c0:w.cell? ⟨b0,0,none⟩=some u):fB (fun _=>True) 1 w (.slice (some ⟨b0,0,none⟩) 1 1) 1 [u]:=
 ⟨rfl,some ⟨b0,0,none⟩,1,rfl,Nat.le_refl _,by unfold maxLen;omega,(fun h=>by cases h),fun _=>⟨b0,0,rfl,trivial,hb,fun t v ht=>by
  rw[Nat.zero_add]
  match t,ht with
  |0,ht=>(cases ht;exact c0)⟩⟩
theorem Hg{w:World}{b0:Nat}{u v:Value}(hb:b0<w.heap.size)(c0:w.cell? ⟨b0,0,none⟩=some u)(c1:w.cell? ⟨b0,1,none⟩=some v):fB (fun _=>True) 1 w (.slice (some ⟨b0,0,none⟩) 2 2) 2 [u,v]:=
 ⟨rfl,some ⟨b0,0,none⟩,2,rfl,Nat.le_refl _,by unfold maxLen;omega,(fun h=>by cases h),fun _=>⟨b0,0,rfl,trivial,hb,fun t v ht=>by
  rw[Nat.zero_add]
  match t,ht with
  |0,ht=>(cases ht;exact c0)
  |1,ht=>(cases ht;exact c1)⟩⟩
def Vw(w:World)(cs:zv)(d:Strip):Prop:= ∃(o:Option Addr)(c:Nat),cs= [.int .i64 d.x0,.int .i64 d.x1,.slice o d.column.length c]/\I64 d.x0/\I64 d.x1/\Sl eQ w o d.column.length c d.column/\fk 406 w (.slice o d.column.length c)
def qP:Lay Strip:=⟨3,Vw,fun h=>by obtain⟨o,c,rfl,_⟩:=h;rfl,fun h he=>by obtain⟨o,c,rfl,q0,q1,q2,q3⟩:=h;exact⟨o,c,rfl,q0,q1,q2.exts he,q3.exts he⟩,fun h=>by obtain⟨o,c,rfl,_⟩:=h;simp[Value.oneCell']⟩
theorem yE:Turn 389 qP:=fun w w' cs d v h hv hg=>by
 obtain⟨o,c,rfl,q0,q1,⟨q2,xs,q3,q4⟩,q5⟩:=h;have hne:=q5.ne hv (by decide);exact⟨o,c,rfl,q0,q1,⟨q2,xs,q3.grown hg hne,q4⟩,q5.grown hg hne⟩
theorem CP{w:World}{cs:zv}{d:Strip}(h:(qP).R w cs d):(stripL).R w cs d:=by
 obtain⟨o,c,rfl,q0,q1,q2,_⟩:=h;exact⟨o,c,rfl,q0,q1,q2⟩
theorem aq.strips{base:Nat}{w:World}{ao:Option Addr}{n c:Nat}{l:List Strip}(h:aq qP base 389 w (.slice ao n c) l)(hn:l.length=n):Sl stripL w ao n c l:=by
 obtain⟨h1,xs,h2,h3⟩:=h.sl hn;exact⟨h1,xs,h2,fun i d hd=>CP (h3 i d hd)⟩
def nu(l:List Rc):List Int:=l.flatMap fun r=> [r.x0,r.x1]
theorem tL(l:List Rc):(nu l).length=2*l.length:=by
 induction l with
 |nil=>rfl
 |cons x l ih=>simp only[nu,List.flatMap_cons,dG,List.length_cons,List.length_nil]at*;omega
theorem J7{l:List Rc}{k:Nat}{r:Rc}(h:l[k]?=some r):nu (l.take (k+1))=nu (l.take k)++ [r.x0,r.x1]:=by
 unfold nu;rw[List.take_add_one,h,Option.toList_some,List.flatMap_append];simp
def Pu(l:List Rc):List Int:=kG (fL (nu l))
theorem Qt(l:List Rc):(Pu l).length<=2*l.length:=by
 unfold Pu;have:=sq (fL (nu l));rw[gO,tL]at this;exact this
def Aa(l:List Rc)(xs:List Int)(i:Nat):Strip:=⟨xs.getD i 0,xs.getD (i+1) 0,lY l (xs.getD i 0)⟩
def kN(l:List Rc)(xs:List Int)(k:Nat):List Strip:=(List.range k).map (Aa l xs)
theorem qQ(l:List Rc)(xs:List Int)(k:Nat):(kN l xs k).length=k:=by simp[kN]
theorem CQ(l:List Rc)(xs:List Int)(k:Nat):kN l xs (k+1)=kN l xs k++ [Aa l xs k]:=by
 unfold kN;rw[List.range_succ,List.map_append];rfl
def cP(l:List Rc):List Strip:=kN l (Pu l) ((Pu l).length - 1)
theorem tM(ao:Option Addr)(n c:Nat)(ls:List (List Rc))(w:World)(h:Sl (Ps je) w ao n c ls)(hb:ls.flatten.length<=1000):Calls prog 267 #[.slice ao n c] w fun e w'=> ∃oo oc,e=.returned (.slice oo (cP ls.flatten).length oc)/\af w w'/\aq qP w.heap.size 389 w' (.slice oo (cP ls.flatten).length oc) (cP ls.flatten):=by
 obtain⟨i0,hi,hz0,hz1,hz2⟩:=info_parts na;obtain⟨j0,hj,hy0,hy1,hy2⟩:=info_parts JY;have H:=aa h;clear h;obtain⟨l,hl⟩:∃l,ls.flatten=l:=⟨_,rfl⟩;have rY:=aa hl;rw[hl]at hb ⊢;clear hl;go_enter func267,ntmps267;go_wp2_with ((with_reducible refine ag (Nd _ _ _ ls _ ?_ ?_) ?_);exact H.zo.exts ae;rw[rY.zo];omega;rw[rY.zo];rintro e W1 ⟨lo,lc,rfl,hx1,ho1⟩;(have jZ:=aa hx1);(have LM:=aa (ho1.sl rfl));clear hx1 ho1)
 go_loopw [4,13] (fun o i wr=> ∃(k:Nat)(oo:Option Addr)(oc:Nat),k<=l.length/\i=.int .i64 k/\o=.slice oo (2*k) oc/\af W1 wr/\aq dv W1.heap.size 3 wr (.slice oo (2*k) oc) (nu (l.take k))) (fun _ i _=>l.length - (intOf i).toNat)
 case atStart=>exact⟨0,none,0,by omega,rfl,rfl,ae,aq.made _ _ _ _⟩
 case round=>
  obtain⟨k,qo,qc,hk,rfl,rfl,hx,ho⟩:=hrel;have HX:=aa hx;have HO:=aa ho;by_cases hlt:k<l.length
  ·obtain⟨r,hr⟩:=LM.zo.ex hlt
   obtain⟨b,off,cs,rfl,lb,hR,cZ⟩:=LM.zo.ld hr;obtain⟨rfl,r0,r1,r2,r3⟩:=hR;have hld:∀w',af wr w'->_:=fun w' he=>cZ w' (HX.zo.trans he)
   have HS:=aa (J7 hr);have HE:=aa (show(nu (l.take k)).length=2*k by rw[tL,List.length_take];omega);have HI:=aa (show I64 r.x0/\I64 r.x1 from⟨r0,r2⟩);have hsz:W1.heap.size<=wr.heap.size:=HX.zo.below.size;obtain⟨A,hA⟩:∃A,nu (l.take k)=A:=⟨_,rfl⟩;rw[hA]at HO HS HE;clear hr cZ r0 r1 r2 r3 hx ho hA;go_wp2_with (at_builtin;refine nH rfl (.tmp 17) (.tmp 22) 66 rfl dv W1.heap.size 3 eZ.turn i0 _ 8 underlying66 hi hz0 hz1 hz2 rfl (by decide) A [r.x0,r.x1] [.int .i64 r.x0,.int .i64 r.x1] _ 2 _ _ rfl HE.zo HO.zo ae _ 2 rfl rfl rfl ?_ (qO (by simp[go_sem]) (by simp[go_sem])) (by simp[Value.oneCell']) (by unfold maxLen;omega) (by omega) (by simp<;>omega) ?_;(intro j d hd;match j,hd with|0,hd=>(cases hd;exact⟨rfl,HI.zo.1⟩)|1,hd=>(cases hd;exact⟨rfl,HI.zo.2⟩));intro ao' c' w1 hown hgrow;(have HN:=aa hown);(have HG:=aa hgrow);clear hown hgrow)
   have e2:2*k+2=2*(k+1):=by omega
   rw[e2]at HN ⊢;refine⟨⟨k+1,ao',c',by omega,by go_num,rfl,HG.zo W1 (HX.zo.trans ae) (Nat.le_refl _),by rw[HS.zo];exact HN.zo⟩,?_⟩;simp[intOf];omega
  ·obtain rfl:l.length=k:=by omega
   have e1:l.take l.length=l:=dQ (Nat.le_refl _);rw[e1]at HO;clear hx ho e1;go_wp2_with (first|((with_reducible refine ag (xH (w0:=W1) (base:=W1.heap.size) (l:=nu l) ?_ (tL l) ?_ (Nat.le_refl _) (by omega)) ?_);exact HO.zo.exts ae;exact HX.zo.trans ae;rintro e W2 ⟨rfl,hx2,ho2⟩;(have gm:=aa hx2);(have jY:=aa ho2);clear hx2 ho2)|((with_reducible refine ag (tJ (w0:=W1) (base:=W1.heap.size) (l:=fL (nu l)) ?_ ((gO _).trans (tL l)) ?_ (Nat.le_refl _) (by omega)) ?_);exact jY.zo.exts ae;exact gm.zo.trans ae;rintro e W3 ⟨rfl,hx3,ho3⟩;(have iU:=aa hx3);(have my:=aa ho3);clear hx3 ho3))
   have hxl:=Qt l;obtain⟨X,hX⟩:∃X,kG (fL (nu l))=X:=⟨_,rfl⟩;have HXE:=aa (show Pu l=X from hX);rw[show Pu l=X from hX]at hxl;rw[hX]at my ⊢;have Pv:=aa (my.zo.sl rfl);clear hX;go_loopw [7,8] (fun o i wr=> ∃(k:Nat)(oo:Option Addr)(oc:Nat),k<=X.length - 1/\i=.int .i64 ((k:Int)+1)/\o=.slice oo k oc/\af W3 wr/\aq qP W3.heap.size 389 wr (.slice oo k oc) (kN l X k)) (fun _ i _=>X.length - (intOf i).toNat)
   case atStart=>exact⟨0,none,0,by omega,rfl,rfl,ae,aq.made _ _ _ _⟩
   case round=>
    obtain⟨k,so,sc,hk,rfl,rfl,hx,ho⟩:=hrel;have nv:=aa hx;have zA:=aa ho;by_cases hlt:k+1<X.length
    ·obtain⟨a,ha⟩:=Pv.zo.ex (show k<X.length by omega)
     obtain⟨b,hb'⟩:=Pv.zo.ex hlt;obtain⟨bx,ox,rfl,lbx,c0,ia⟩:=dV Pv.zo ha;obtain⟨bx2,ox2,e2,_,c1,ib⟩:=dV Pv.zo hb';simp only[Option.some.injEq,Addr.mk.injEq,and_true]at e2;obtain⟨rfl,rfl⟩:=e2;have HAT:=aa (show Aa l X k=⟨a,b,lY l a⟩by unfold Aa;rw[List.getD_eq_getElem?_getD,List.getD_eq_getElem?_getD,ha,hb'];rfl);have Px:=aa (qQ l X k);have HIA:=aa ia;have HIB:=aa ib;have hsz3:W3.heap.size<=wr.heap.size:=nv.zo.below.size;have HC0:=aa c0;have GF:=aa c1;clear ha hb' c0 c1 ia ib hx ho;go_wp2;refine bI ?_;intro W4 zB;have Hh:=aa (show af wr W4 by rw[zB];exact ae);have C0:∀w',af W3 w'->w'.cell? ⟨bx,ox+k,none⟩=some (.int .i64 a):=fun w' h=>af.cell h HC0.zo
     have C1:∀w',af W3 w'->w'.cell? ⟨bx,ox+(k+1),none⟩=some (.int .i64 b):=fun w' h=>af.cell h GF.zo
     have Zg:=aa (nv.zo.trans Hh.zo);have HAX:=aa (show∀w',af W3 w'->af W1 w' from fun w' h=>iU.zo.trans h);have v1:IntKind.i64.wrap (k:Int)=k:=IntWalk.i64_in _ (by omega);have v2:((k:Int)+1).toNat=k+1:=by omega
     have v3:(0:Int)<=(k:Int)+1:=by omega
     have v4:(k:Int)+1<(X.length:Int):=by omega
     have v5:(0:Int)<=(k:Int):=by omega
     have v6:(k:Int)<(X.length:Int):=by omega
     have Qu:W3.heap.size<=W4.heap.size:=Zg.zo.below.size;clear zB;go_region_held3 (fun w'=>af W3 w') (first|assumption|exact Zg.zo|exact Zg.zo.drew|exact hgrow W3 (Zg.zo.trans ae) (Nat.le_refl _)|exact Zg.zo.trans ae) ((first|((with_reducible refine ag (Nc _ _ _ l a _ (LM.zo.exts (HAX.zo _ (by first|assumption|exact Zg.zo.trans ae))) (by omega)) ?_);rintro e w' ⟨co,cc,rfl,⟨y5,rfl⟩,Zh⟩;(have acs:=aa (show Sl eQ _ co _ cc _/\fk 406 _ (.slice co _ cc)from⟨Zh.sl rfl,by obtain⟨xs,q,_⟩:=Zh;exact fk.ku q⟩));clear Zh)|(refine tK rfl (.tmp 35) (.tmp 53) 353 rfl qP W3.heap.size 389 yE j0 _ 40 underlying353 hj hy0 hy1 hy2 rfl (by decide) (kN l X k) ⟨a,b,lY l a⟩ [.int .i64 a,.int .i64 b,.slice co (lY l a).length cc] k so sc (by simp[Act.eval,Act.put]) Px.zo zA.zo (Hh.zo.trans ae) ⟨W4.heap.size+y5.bs.size,0,none⟩ 1 (by simp[Act.eval,Act.put]) ⟨co,cc,rfl,HIA.zo,HIB.zo,acs.zo.1.exts ae,acs.zo.2.exts ae⟩ (Vs (by simp[go_sem]) (by simp[go_sem]) (by simp[go_sem])) (by omega) (by omega) (by simp<;>omega) ?_;intro ao' c' w1 hown hgrow hgb)))
     have HN:=aa hown;have HG:=aa hgrow;clear hown hgrow hgb;go_wp2;refine⟨⟨k+1,ao',c',by omega,by go_num,rfl,HG.zo W3 (Zg.zo.trans ae) (Nat.le_refl _),?_⟩,?_⟩
     ·rw[CQ,HAT.zo]
      exact HN.zo
     ·simp[intOf];omega
    ·obtain rfl:k=X.length - 1:=by omega
     have HD:=aa (show cP l=kN l X (X.length - 1)by unfold cP;rw[HXE.zo]);have Qv:w.heap.size<=W3.heap.size:=(jZ.zo.trans iU.zo).below.size;have Px:=aa (qQ l X (X.length - 1));clear hx ho;go_wp2;go_ret;rw[HD.zo,Px.zo];exact⟨_,_,rfl,jZ.zo.trans (iU.zo.trans (nv.zo.trans ae)),(zA.zo.exts ae).lower Qv⟩
def qR(l:List Strip)(k:Nat):Strip:=l.getD k ⟨0,0,[]⟩
theorem qT{l:List Strip}{k:Nat}{d:Strip}(h:l[k]?=some d):qR l k=d:=by unfold qR;rw[List.getD_eq_getElem?_getD,h];rfl
def wB(l:List Strip)(i:Nat):Nat->Nat->Nat
 |0,k=>k
 |f+1,k=>if(decide (k<l.length)&&lj Am (qR l k).column (qR l i).column)=true then wB l i f (k+1)else k
theorem LN(l:List Strip)(i:Nat):∀(f k:Nat),k<=l.length->k<=wB l i f k/\wB l i f k<=l.length
 |0,k,h=>⟨Nat.le_refl _,h⟩
 |f+1,k,h=>by
  unfold wB;split
  ·rename_i hc
   have:k<l.length:=by simp at hc;exact hc.1
   have:=LN l i f (k+1) (by omega);omega
  ·exact⟨Nat.le_refl _,h⟩
def lZ(l:List Strip)(i k:Nat):List Rc:=(qR l i).column.map fun s=>⟨(qR l i).x0,s.lo,(qR l (k - 1)).x1,s.hi⟩
def uW(l:List Strip):Nat->Nat->List Rc
 |0,_=> []
 |f+1,i=>if i<l.length then lZ l i (wB l i l.length (i+1))++uW l f (wB l i l.length (i+1))else []
def writeAll(l:List Strip):List Rc:=uW l (l.length+1) 0
theorem LO{b:Bool}{l l2:List Span}(hb:lj Am l l2=b)(ao bo:Option Addr)(n c m cc:Nat)(w:World)(h:Sl eQ w ao n c l)(h2:Sl eQ w bo m cc l2):Calls prog 316 #[.slice ao n c,.slice bo m cc] w (cX (.bool b) w):=by
 rw[<-hb];exact Qy ao bo n c m cc l l2 w h h2
theorem Hj(ao:Option Addr)(n c:Nat)(l:List Strip)(B:Nat)(w:World)(h:Sl stripL w ao n c l)(hn:n<=1000)(hB:∀(i:Nat)(s:Strip),l[i]?=some s->s.column.length<=800):Calls prog 266 #[.slice ao n c] w fun e w'=> ∃oo oc,e=.returned (.slice oo (writeAll l).length oc)/\af w w'/\aq je w.heap.size 74 w' (.slice oo (writeAll l).length oc) (writeAll l):=by
 obtain⟨i0,hi,hz0,hz1,hz2⟩:=info_parts wk;have H:=aa h;have HL:=aa h.1;have HB:=aa hB;clear h hB;go_enter func266,ntmps266;go_wp2;go_loopw [3,4] (fun o i wr=> ∃(k f:Nat)(A:List Rc)(oo:Option Addr)(oc:Nat),k<=n/\i=.int .i64 k/\o=.slice oo A.length oc/\af w wr/\aq je w.heap.size 74 wr (.slice oo A.length oc) A/\A.length<=k*800/\n - k<f/\A++uW l f k=writeAll l) (fun _ i _=>n - (intOf i).toNat)
 case atStart=>exact⟨0,n+1,[],none,0,by omega,rfl,rfl,af.refl _,aq.made _ _ _ _,by simp,by omega,by rw[List.nil_append];unfold writeAll;rw[HL.zo]⟩
 case round=>
  obtain⟨k,f,A,oo,oc,hk,rfl,rfl,hx,ho,ha,hf,hw⟩:=hrel;have HX:=aa hx;have HO:=aa ho;have HW:=aa hw;clear hx ho hw;by_cases hlt:k<n
  ·obtain⟨f,rfl⟩:∃g,f=g+1:=⟨f - 1,by omega⟩
   obtain⟨d,hd⟩:=H.zo.ex hlt;obtain⟨b,off,so,sc,rfl,JJ,c00,c10,c20,i1,i2,hs⟩:=nS H.zo hd;have hcl:=HB.zo k d hd;have HS:=aa hs;have HI:=aa i1;have HST:=aa (qT hd);have HE:=aa (show uW l (f+1) k=lZ l k (wB l k l.length (k+1))++uW l f (wB l k l.length (k+1))by
    conv=>lhs;unfold uW
    rw[if_pos (by rw[HL.zo];exact hlt)])
   have HBD:=aa (LN l k l.length (k+1) (by rw[HL.zo];omega));obtain⟨K,hK⟩:∃K,wB l k l.length (k+1)=K:=⟨_,rfl⟩;rw[hK]at HE HBD;have HKK:=aa hK;have C0:=aa c00;have C2:=aa c20;clear hd hs c00 c10 c20 i1 i2 hK JJ;go_wp2;go_loopw [5] (fun i w2=> ∃(j g:Nat),k<j/\j<=n/\i=.int .i64 j/\af wr w2/\n - j<=g/\wB l k g j=K) (fun i _=>n - (intOf i).toNat)
   case atStart=>exact⟨k+1,l.length,by omega,by omega,by go_num,ae,by rw[HL.zo];omega,HKK.zo⟩
   case round=>
    obtain⟨j,g,hkj,hj,rfl,hx,hg,he⟩:=hrel;have gm:=aa hx;have HEJ:=aa he;clear hx he;have c2a:=af.cell (HX.zo.trans gm.zo) C2.zo;have lb:=bP c2a;by_cases hlj:j<n
    ·obtain⟨g,rfl⟩:∃q,g=q+1:=⟨g - 1,by omega⟩
     obtain⟨d2,hd2⟩:=H.zo.ex hlj;obtain⟨b2,off2,so2,sc2,e2,_,_,_,c2,_,_,hs2⟩:=nS H.zo hd2;simp only[Option.some.injEq,Addr.mk.injEq,and_true]at e2;obtain⟨rfl,rfl⟩:=e2;have HS2:=aa hs2;have c2b:=af.cell (HX.zo.trans gm.zo) c2;have HEC:=aa (show wB l k (g+1) j=if lj Am d2.column d.column=true then wB l k g (j+1)else j by
      conv=>lhs;unfold wB
      rw[qT hd2,HST.zo,zdt (by rw[HL.zo];exact hlj),Bool.true_and])
     clear hd2 hs2 c2;cases q:lj Am d2.column d.column with
     |true=>
      have HQ:=aa q;clear q;go_wp2;first|refine eK ?_|refine eJ ?_
      repeat (go_big_quiet_step (((go_at_call 316;exact Calls.dJ (LO HQ.zo _ _ _ _ _ _ _ (HS2.zo.exts (HX.zo.trans (gm.zo.trans ae))) (HS.zo.exts (HX.zo.trans (gm.zo.trans ae))))))))
      refine eM fun xq=> ?_
      go_wp2;refine⟨⟨j+1,g,by omega,by omega,by go_num,gm.zo.trans ae,by omega,by rw[<-HEJ.zo,HEC.zo,HQ.zo];rfl⟩,?_⟩;simp[intOf];omega
     |false=>
      have HQ:=aa q;have HJK:=aa (show j=K by rw[<-HEJ.zo,HEC.zo,q];rfl);clear q;go_wp2;first|refine eK ?_|refine eJ ?_
      repeat (go_big_quiet_step (((go_at_call 316;exact Calls.dJ (LO HQ.zo _ _ _ _ _ _ _ (HS2.zo.exts (HX.zo.trans (gm.zo.trans ae))) (HS.zo.exts (HX.zo.trans (gm.zo.trans ae))))))))
      refine eM fun xq=> ?_
      obtain rfl:j=K:=HJK.zo;go_wp2;obtain⟨dk,hdk⟩:=H.zo.ex (show j - 1<n by omega);obtain⟨b3,acw,so3,sc3,e3,_,_,c13,_,_,i13,_⟩:=nS H.zo hdk;simp only[Option.some.injEq,Addr.mk.injEq,and_true]at e3;obtain⟨rfl,rfl⟩:=e3;have C1:=aa c13;have HJ:=aa i13;have Qz:=aa (show lZ l k j=d.column.map fun s=>⟨d.x0,s.lo,dk.x1,s.hi⟩by unfold lZ;rw[HST.zo,qT hdk]);clear c13 i13 hdk;go_loopw [3,39] (fun o i w3=> ∃(q:Nat)(qo:Option Addr)(qc:Nat),q<=d.column.length/\i=.int .i64 q/\o=.slice qo (A.length+q) qc/\af w w3/\aq je w.heap.size 74 w3 (.slice qo (A.length+q) qc) (A++(d.column.take q).map fun s=>⟨d.x0,s.lo,dk.x1,s.hi⟩)) (fun _ i _=>d.column.length - (intOf i).toNat)
      case atStart=>exact⟨0,oo,oc,by omega,rfl,rfl,HX.zo.trans (gm.zo.trans ae),by simpa using HO.zo.exts (gm.zo.trans ae)⟩
      case round=>
       obtain⟨q,qo,qc,hq,rfl,rfl,hx,ho⟩:=hrel;have iU:=aa hx;have my:=aa ho;clear hx ho;by_cases hlq:q<d.column.length
       ·obtain⟨s,hsp⟩:=HS.zo.ex hlq
        obtain⟨b4,acy,cs4,rfl,lb4,VB,QA⟩:=HS.zo.ld hsp;obtain⟨rfl,s0,s1⟩:=VB;have hld:∀w',af wr w'->_:=fun w' he=>QA w' (iU.zo.trans he)
        have UB:=aa (show I64 s.lo/\I64 s.hi from⟨s0,s1⟩);have VC:=aa (show(d.column.take (q+1)).map (fun s:Span=>(⟨d.x0,s.lo,dk.x1,s.hi⟩:Rc))=(d.column.take q).map (fun s:Span=>(⟨d.x0,s.lo,dk.x1,s.hi⟩:Rc))++ [⟨d.x0,s.lo,dk.x1,s.hi⟩]by rw[List.take_add_one,hsp,Option.toList_some,List.map_append];rfl);have HTL:=aa (show(A++(d.column.take q).map (fun s:Span=>(⟨d.x0,s.lo,dk.x1,s.hi⟩:Rc))).length=A.length+q by rw[dG,List.length_map,List.length_take];omega);have k0:=af.cell iU.zo C0.zo;have k1:=af.cell iU.zo C1.zo;have hlb:=bP k0;have hsz:w.heap.size<=wr.heap.size:=iU.zo.below.size;clear hsp QA s0 s1 c2a lb;go_wp2;have v1:IntKind.i64.wrap ((j:Int) - 1)=((j - 1:Nat):Int):=by rw[show(j:Int) - 1=((j - 1:Nat):Int)by omega];exact IntWalk.i64_in _ (by omega)
        have v2:(0:Int)<=((j - 1:Nat):Int):=by omega
        have v3:((j - 1:Nat):Int)<(n:Int):=by omega
        refine bI ?_;intro W4 zB;have Hh:=aa (show af wr W4 by rw[zB];exact ae);have Ab:=aa (my.zo.ne (Nat.le_refl _));have b0:W4.cell? ⟨wr.heap.size,0,none⟩=some (.int .i64 s.lo):=by rw[zB];simp[go_sem]
        have b1:W4.cell? ⟨wr.heap.size,1,none⟩=some (.int .i64 s.hi):=by rw[zB];simp[go_sem]
        have JJ:=bP b0;have K0:∀w',af w w'->w'.cell? ⟨b,off+k*3,none⟩=some (.int .i64 d.x0):=fun w' h=>af.cell h C0.zo
        have K1:∀w',af w w'->w'.cell? ⟨b,off+(j - 1)*3+1,none⟩=some (.int .i64 dk.x1):=fun w' h=>af.cell h C1.zo
        have JK:=aa (iU.zo.trans Hh.zo);have Qu:w.heap.size<=W4.heap.size:=JK.zo.below.size;clear zB k0 k1;go_region_held3 (fun w'=>af w w'/\w'.cell? ⟨wr.heap.size,0,none⟩=some (.int .i64 s.lo)/\w'.cell? ⟨wr.heap.size,1,none⟩=some (.int .i64 s.hi)) (first|assumption|exact⟨JK.zo.trans ae,by simp[go_sem, *],by simp[go_sem, *]⟩|exact⟨hgrow w (JK.zo.trans ae) (Nat.le_refl _),World.grownBy.cell hgb (by simp[go_sem, *]) Ab.zo,World.grownBy.cell hgb (by simp[go_sem, *]) Ab.zo⟩) ((refine tK rfl (.tmp 43) (.tmp 60) 75 rfl je w.heap.size 74 wu.turn i0 _ 32 underlying75 hi hz0 hz1 hz2 rfl (by decide) _ ⟨d.x0,s.lo,dk.x1,s.hi⟩ [.int .i64 d.x0,.int .i64 s.lo,.int .i64 dk.x1,.int .i64 s.hi] (A.length+q) qo qc (by simp[Act.eval,Act.put]) HTL.zo my.zo (Hh.zo.trans ae) ⟨W4.heap.size,0,none⟩ 1 (by simp[Act.eval,Act.put]) ⟨rfl,HI.zo,UB.zo.1,HJ.zo,UB.zo.2⟩ (wx (by simp[go_sem]) (by simp[go_sem]) (by simp[go_sem]) (by simp[go_sem])) (by omega) (by omega) (by simp<;>omega) ?_;intro ao' c' w1 hown hgrow hgb))
        have HN:=aa hown;have HG:=aa hgrow;clear hown hgrow hgb;go_wp2;refine⟨⟨q+1,ao',c',by omega,by go_num,by rw[Nat.add_assoc],HG.zo w (JK.zo.trans ae) (Nat.le_refl _),?_⟩,?_⟩
        ·rw[VC.zo,<-List.append_assoc]
         exact HN.zo
        ·simp[intOf];omega
       ·obtain rfl:d.column.length=q:=by omega
        have HF:=aa (show A++(d.column.take d.column.length).map (fun s:Span=>(⟨d.x0,s.lo,dk.x1,s.hi⟩:Rc))=A++lZ l k j by rw[dQ (Nat.le_refl _),Qz.zo]);have GD:=aa (show A.length+d.column.length=(A++lZ l k j).length by rw[Qz.zo,dG,List.length_map]);have hFB:(A++lZ l k j).length<=j*800:=by
         rw[<-GD.zo];have:(k+1)*800<=j*800:=Nat.mul_le_mul_right _ (by omega);omega
        have XR:=aa hFB;rw[HF.zo,GD.zo]at my;rw[GD.zo];clear hFB;go_wp2;refine⟨⟨j,f,A++lZ l k j,qo,qc,by omega,rfl,rfl,iU.zo.trans ae,my.zo.exts ae,XR.zo,by omega,by rw[List.append_assoc,<-HE.zo];exact HW.zo⟩,?_⟩;simp[intOf];omega
    ·have HJK:=aa (show j=K by
      rw[<-HEJ.zo];have:j=l.length:=by rw[HL.zo];omega
      cases g with
      |zero=>rfl
      |succ g=>unfold wB;rw[jE (by omega)];rfl)
     go_wp2;first|refine eK ?_|refine eJ ?_
     repeat (go_big_quiet_step (fail))
     refine eM fun xq=> ?_
     obtain rfl:j=K:=HJK.zo;go_wp2;obtain⟨dk,hdk⟩:=H.zo.ex (show j - 1<n by omega);obtain⟨b3,acw,so3,sc3,e3,_,_,c13,_,_,i13,_⟩:=nS H.zo hdk;simp only[Option.some.injEq,Addr.mk.injEq,and_true]at e3;obtain⟨rfl,rfl⟩:=e3;have C1:=aa c13;have HJ:=aa i13;have Qz:=aa (show lZ l k j=d.column.map fun s=>⟨d.x0,s.lo,dk.x1,s.hi⟩by unfold lZ;rw[HST.zo,qT hdk]);clear c13 i13 hdk;go_loopw [3,39] (fun o i w3=> ∃(q:Nat)(qo:Option Addr)(qc:Nat),q<=d.column.length/\i=.int .i64 q/\o=.slice qo (A.length+q) qc/\af w w3/\aq je w.heap.size 74 w3 (.slice qo (A.length+q) qc) (A++(d.column.take q).map fun s=>⟨d.x0,s.lo,dk.x1,s.hi⟩)) (fun _ i _=>d.column.length - (intOf i).toNat)
     case atStart=>exact⟨0,oo,oc,by omega,rfl,rfl,HX.zo.trans (gm.zo.trans ae),by simpa using HO.zo.exts (gm.zo.trans ae)⟩
     case round=>
      obtain⟨q,qo,qc,hq,rfl,rfl,hx,ho⟩:=hrel;have iU:=aa hx;have my:=aa ho;clear hx ho;by_cases hlq:q<d.column.length
      ·obtain⟨s,hsp⟩:=HS.zo.ex hlq
       obtain⟨b4,acy,cs4,rfl,lb4,VB,QA⟩:=HS.zo.ld hsp;obtain⟨rfl,s0,s1⟩:=VB;have hld:∀w',af wr w'->_:=fun w' he=>QA w' (iU.zo.trans he)
       have UB:=aa (show I64 s.lo/\I64 s.hi from⟨s0,s1⟩);have VC:=aa (show(d.column.take (q+1)).map (fun s:Span=>(⟨d.x0,s.lo,dk.x1,s.hi⟩:Rc))=(d.column.take q).map (fun s:Span=>(⟨d.x0,s.lo,dk.x1,s.hi⟩:Rc))++ [⟨d.x0,s.lo,dk.x1,s.hi⟩]by rw[List.take_add_one,hsp,Option.toList_some,List.map_append];rfl);have HTL:=aa (show(A++(d.column.take q).map (fun s:Span=>(⟨d.x0,s.lo,dk.x1,s.hi⟩:Rc))).length=A.length+q by rw[dG,List.length_map,List.length_take];omega);have k0:=af.cell iU.zo C0.zo;have k1:=af.cell iU.zo C1.zo;have hlb:=bP k0;have hsz:w.heap.size<=wr.heap.size:=iU.zo.below.size;clear hsp QA s0 s1 c2a lb;go_wp2;have v1:IntKind.i64.wrap ((j:Int) - 1)=((j - 1:Nat):Int):=by rw[show(j:Int) - 1=((j - 1:Nat):Int)by omega];exact IntWalk.i64_in _ (by omega)
       have v2:(0:Int)<=((j - 1:Nat):Int):=by omega
       have v3:((j - 1:Nat):Int)<(n:Int):=by omega
       refine bI ?_;intro W4 zB;have Hh:=aa (show af wr W4 by rw[zB];exact ae);have Ab:=aa (my.zo.ne (Nat.le_refl _));have b0:W4.cell? ⟨wr.heap.size,0,none⟩=some (.int .i64 s.lo):=by rw[zB];simp[go_sem]
       have b1:W4.cell? ⟨wr.heap.size,1,none⟩=some (.int .i64 s.hi):=by rw[zB];simp[go_sem]
       have JJ:=bP b0;have K0:∀w',af w w'->w'.cell? ⟨b,off+k*3,none⟩=some (.int .i64 d.x0):=fun w' h=>af.cell h C0.zo
       have K1:∀w',af w w'->w'.cell? ⟨b,off+(j - 1)*3+1,none⟩=some (.int .i64 dk.x1):=fun w' h=>af.cell h C1.zo
       have JK:=aa (iU.zo.trans Hh.zo);have Qu:w.heap.size<=W4.heap.size:=JK.zo.below.size;clear zB k0 k1;go_region_held3 (fun w'=>af w w'/\w'.cell? ⟨wr.heap.size,0,none⟩=some (.int .i64 s.lo)/\w'.cell? ⟨wr.heap.size,1,none⟩=some (.int .i64 s.hi)) (first|assumption|exact⟨JK.zo.trans ae,by simp[go_sem, *],by simp[go_sem, *]⟩|exact⟨hgrow w (JK.zo.trans ae) (Nat.le_refl _),World.grownBy.cell hgb (by simp[go_sem, *]) Ab.zo,World.grownBy.cell hgb (by simp[go_sem, *]) Ab.zo⟩) ((refine tK rfl (.tmp 43) (.tmp 60) 75 rfl je w.heap.size 74 wu.turn i0 _ 32 underlying75 hi hz0 hz1 hz2 rfl (by decide) _ ⟨d.x0,s.lo,dk.x1,s.hi⟩ [.int .i64 d.x0,.int .i64 s.lo,.int .i64 dk.x1,.int .i64 s.hi] (A.length+q) qo qc (by simp[Act.eval,Act.put]) HTL.zo my.zo (Hh.zo.trans ae) ⟨W4.heap.size,0,none⟩ 1 (by simp[Act.eval,Act.put]) ⟨rfl,HI.zo,UB.zo.1,HJ.zo,UB.zo.2⟩ (wx (by simp[go_sem]) (by simp[go_sem]) (by simp[go_sem]) (by simp[go_sem])) (by omega) (by omega) (by simp<;>omega) ?_;intro ao' c' w1 hown hgrow hgb))
       have HN:=aa hown;have HG:=aa hgrow;clear hown hgrow hgb;go_wp2;refine⟨⟨q+1,ao',c',by omega,by go_num,by rw[Nat.add_assoc],HG.zo w (JK.zo.trans ae) (Nat.le_refl _),?_⟩,?_⟩
       ·rw[VC.zo,<-List.append_assoc]
        exact HN.zo
       ·simp[intOf];omega
      ·obtain rfl:d.column.length=q:=by omega
       have HF:=aa (show A++(d.column.take d.column.length).map (fun s:Span=>(⟨d.x0,s.lo,dk.x1,s.hi⟩:Rc))=A++lZ l k j by rw[dQ (Nat.le_refl _),Qz.zo]);have GD:=aa (show A.length+d.column.length=(A++lZ l k j).length by rw[Qz.zo,dG,List.length_map]);have hFB:(A++lZ l k j).length<=j*800:=by
        rw[<-GD.zo];have:(k+1)*800<=j*800:=Nat.mul_le_mul_right _ (by omega);omega
       have XR:=aa hFB;rw[HF.zo,GD.zo]at my;rw[GD.zo];clear hFB;go_wp2;refine⟨⟨j,f,A++lZ l k j,qo,qc,by omega,rfl,rfl,iU.zo.trans ae,my.zo.exts ae,XR.zo,by omega,by rw[List.append_assoc,<-HE.zo];exact HW.zo⟩,?_⟩;simp[intOf];omega
  ·obtain rfl:n=k:=by omega
   have hAW:A=writeAll l:=by
    rw[<-HW.zo];cases f with
    |zero=>exact(List.append_nil A).symm
    |succ f=>unfold uW;rw[if_neg (by rw[HL.zo];omega),List.append_nil]
   subst hAW;go_wp2;go_ret;exact⟨_,_,rfl,HX.zo.trans ae,HO.zo.exts ae⟩
theorem J8(ao:Option Addr)(n c:Nat)(w:World)(hn:n<=200):Calls prog 265 #[.slice ao n c] w (cX (.tuple #[.slice ao n c,.int .i64 0]) w):=by
 have q:decide ((200:Int)<(n:Int))=false:=jE (by omega);go_enter func265,ntmps265;go_wp2;go_ret2;exact⟨rfl,ae⟩
theorem xK(a b:Bool)(w:World):Calls prog 236 #[.bool a,.bool b] w (cX (.bool (a&&b)) w):=by
 cases a<;>cases b<;>(
  go_enter func236,ntmps236;go_wp2;go_ret;exact⟨rfl,ae⟩)
def DI(p q:Rc):Bool:=decide (jF p.x0 q.x0<ou p.x1 q.x1)&&decide (jF p.y0 q.y0<ou p.y1 q.y1)
theorem VD(p q:Rc)(bp:Nat)(cs:zv)(w:World)(h:(je).R w cs q)(c0:w.cell? ⟨bp,0,none⟩=some (.int .i64 p.x0))(c1:w.cell? ⟨bp,1,none⟩=some (.int .i64 p.y0))(c2:w.cell? ⟨bp,2,none⟩=some (.int .i64 p.x1))(c3:w.cell? ⟨bp,3,none⟩=some (.int .i64 p.y1)):Calls prog 188 (#[.agg cs.toArray]++ #[.pointer (some ⟨bp,0,none⟩)]) w (cX (.bool (DI p q)) w):=by
 obtain⟨rfl,_⟩:=h;have lb:=bP c0;show Calls prog 188 #[.agg #[.int .i64 q.x0,.int .i64 q.y0,.int .i64 q.x1,.int .i64 q.y1],.pointer (some ⟨bp,0,none⟩)] w _;unfold DI;cases q1:decide (jF p.x0 q.x0<ou p.x1 q.x1)with
 |false=>
  go_enter func188,ntmps188;go_wp2;go_ret;exact⟨rfl,ae⟩
 |true=>
  cases q2:decide (jF p.y0 q.y0<ou p.y1 q.y1)with
  |false=>
   go_enter func188,ntmps188;go_wp2;go_ret;exact⟨rfl,ae⟩
  |true=>
   go_enter func188,ntmps188;go_wp2;go_ret;exact⟨rfl,ae⟩
theorem Ni:Enters 188:=fun a w=>by rfl
theorem Nj:Enters 187:=fun a w=>by rfl
theorem VE(p:Rc)(bb:Nat)(bo:Option Addr)(m cc:Nat)(l:List Rc)(cs:zv)(w:World)(h:(je).R w cs p)(hl:Sl je w bo m cc l)(c0:w.cell? ⟨bb,0,none⟩=some (.slice bo m cc)):Calls prog 187 (#[.agg cs.toArray]++ #[.pointer (some ⟨bb,0,none⟩)]) w (cX (.bool (l.any (DI p))) w):=by
 obtain⟨rfl,_⟩:=h;have lb:=bP c0;have HL:=aa hl;clear hl;show Calls prog 187 #[.agg #[.int .i64 p.x0,.int .i64 p.y0,.int .i64 p.x1,.int .i64 p.y1],.pointer (some ⟨bb,0,none⟩)] w _;go_enter func187,ntmps187;go_wp2_with ((with_reducible refine ag (yB 188 #[.pointer (some ⟨w.heap.size,0,none⟩)] (DI p) _ _ _ l _ Ni ?_ ?_) ?_);exact HL.zo.exts ae;exact fun w' i d cs he _ hR=>VD p d _ cs w' hR (af.cell he (by simp[go_sem])) (af.cell he (by simp[go_sem])) (af.cell he (by simp[go_sem])) (af.cell he (by simp[go_sem]));rintro e w' ⟨rfl,x9,rfl⟩)
 go_ret;exact⟨rfl,ae⟩
def LP(a b:List Rc):Bool:=a.any fun p=>b.any (DI p)
theorem Zp(ao bo:Option Addr)(n c m cc:Nat)(l l2:List Rc)(w:World)(h:Sl je w ao n c l)(h2:Sl je w bo m cc l2):Calls prog 90 #[.slice ao n c,.slice bo m cc] w (cX (.bool (LP l l2)) w):=by
 have H:=aa h;have H2:=aa h2;clear h h2;go_enter func90,ntmps90;go_wp2_with ((with_reducible refine ag (yB 187 #[.pointer (some ⟨w.heap.size,0,none⟩)] (fun p=>l2.any (DI p)) _ _ _ l _ Nj ?_ ?_) ?_);exact H.zo.exts ae;exact fun w' i d cs he _ hR=>VE d _ _ _ _ l2 cs w' hR (H2.zo.exts (af.trans ae he)) (af.cell he (by simp[go_sem]));rintro e w' ⟨rfl,x9,rfl⟩)
 go_ret;exact⟨rfl,ae⟩
def wC(l:List Rc):List Rc×Int:=if 200<l.length then([],6)else(l,0)
def Nk(l:List Rc):List Rc×Int:=if l.all kt=true then(if 400<l.length then([],6)else wC (writeAll (cP l)))else([],1)
def ew(l:List Rc):Bool:=(Nk l).2==0&&lj rcE (Nk l).1 l
theorem J9(l:List Rc)(x:Int):(lY l x).length<=l.length:=by
 have h1:=zZ jk AQ (oy (uq l x)) [];have h2:=(pn (uq l x)).1;have h3:=EG l x;unfold lY;simp only[List.length_nil,Nat.zero_add]at h1;omega
theorem yG{l:List Rc}{i:Nat}{s:Strip}(h:(cP l)[i]?=some s):s.column.length<=l.length:=by
 unfold cP kN at h;rw[List.getElem?_map]at h;obtain⟨j,_,rfl⟩:=Option.map_eq_some_iff.1 h;exact J9 l _
theorem pA(l:List Rc):(cP l).length<=2*l.length:=by
 have:=Qt l;unfold cP;rw[qQ];omega
theorem CR(ao:Option Addr)(n c:Nat)(w:World)(hn:200<n):Calls prog 265 #[.slice ao n c] w (cX (.tuple #[.slice none 0 0,.int .i64 6]) w):=by
 have q:decide ((200:Int)<(n:Int))=true:=zdt (by omega);go_enter func265,ntmps265;go_wp2;go_ret2;exact⟨rfl,ae⟩
def QC(r:List Rc×Int)(w:World)(e:Ending)(w':World):Prop:= ∃ao c,e=.returned (.tuple #[.slice ao r.1.length c,.int .i64 r.2])/\af w w'/\Sl je w' ao r.1.length c r.1
theorem yH(ao:Option Addr)(n c:Nat)(l:List Rc)(w:World)(h:Sl je w ao n c l):Calls prog 265 #[.slice ao n c] w (QC (wC l) w):=by
 have hl:=h.1;unfold wC;rw[hl];by_cases hn:200<n
 ·rw[if_pos hn]
  refine(CR ao n c w hn).mono ?_;rintro e w' ⟨rfl,hx⟩;exact⟨_,_,rfl,hx,Sl.nil _ _⟩
 ·rw[if_neg hn]
  refine(J8 ao n c w (by omega)).mono ?_;rintro e w' ⟨rfl,hx⟩;exact⟨ao,c,by rw[hl],hx,by rw[hl];exact h.exts hx⟩
theorem QD{T:Type}{L:Lay T}{w:World}{b0:Nat}{ao:Option Addr}{n c:Nat}{l:List T}(h:Sl L w ao n c l)(hb:b0<w.heap.size)(c0:w.cell? ⟨b0,0,none⟩=some (.slice ao n c)):Sl (Ps L) w (some ⟨b0,0,none⟩) 1 1 [l]:=by
 have hl:=h.1;refine⟨rfl,[.slice ao n c],Qs hb c0,fun i d hd=> ?_⟩
 match i,hd with
 |0,hd=>(cases hd;exact⟨ao,c,by rw[hl];rfl,by rw[hl];exact h⟩)
theorem XT(ao:Option Addr)(n c:Nat)(l:List Rc)(w:World)(h:Sl je w ao n c l):Calls prog 183 #[.slice ao n c] w (QC (Nk l) w):=by
 have H:=aa h;have hm:=h.nle;unfold maxLen at hm;have HL:=aa h.1;obtain⟨res,hres⟩:∃r,Nk l=r:=⟨_,rfl⟩;have aD:=aa hres;rw[hres];clear h hres;go_enter func183,ntmps183;go_wp2;go_loopw [8] (fun i wr=> ∃(k:Nat),k<=n/\i=.int .i64 k/\af w wr/\∀(j:Nat)(r:Rc),j<k->l[j]?=some r->kt r=true) (fun i _=>n - (intOf i).toNat)
 case atStart=>exact⟨0,by omega,rfl,ae,fun j r hj=>by omega⟩
 case round=>
  obtain⟨k,hk,rfl,⟨y,rfl⟩,hall⟩:=hrel;have ey:=aa hall;clear hall;by_cases hlt:k<n
  ·obtain⟨d,hd⟩:=H.zo.ex hlt
   obtain⟨b,off,cs,rfl,lb,hR,hld⟩:=H.zo.ld hd;obtain⟨rfl,_⟩:=hR;have HD:=aa hd;clear hd;cases q:kt d with
   |false=>
    have Q:=aa q;have HF:=aa (show res=([],1)by
     rw[<-aD.zo];unfold Nk;rw[if_neg];intro h;have:=List.all_eq_true.1 h d (gH HD.zo);rw[q]at this;cases this)
    clear q;go_wp2_with ((with_reducible refine(bK d _).mono ?_);rintro e w' ⟨rfl,x9,rfl⟩;rw[Q.zo])
    go_ret2;rw[HF.zo];exact⟨_,_,rfl,ae,Sl.nil _ _⟩
   |true=>
    have Q:=aa q;clear q;go_wp2_with ((with_reducible refine(bK d _).mono ?_);rintro e w' ⟨rfl,x9,rfl⟩;rw[Q.zo])
    refine⟨⟨k+1,by omega,by go_num,ae,fun j x hj hx=> ?_⟩,?_⟩
    ·rcases Nat.lt_or_ge j k with h1|h1
     ·exact ey.zo j x h1 hx
     ·obtain rfl:j=k:=by omega
      have e:=HD.zo;rw[hx]at e;cases e;exact Q.zo
    ·simp[intOf];omega
  ·obtain rfl:n=k:=by omega
   have HQ:=aa (show l.all kt=true by
    rw[List.all_eq_true];intro x hx;obtain⟨j,hj⟩:=List.getElem?_of_mem hx;exact ey.zo j x (by have:=(bw hj).1;rw[HL.zo]at this;exact this) hj)
   by_cases hn:400<n
   ·have q:decide ((400:Int)<(n:Int))=true:=zdt (by omega)
    have HF:=aa (show res=([],6)by rw[<-aD.zo];unfold Nk;rw[if_pos HQ.zo,if_pos (by rw[HL.zo];exact hn)]);go_wp2;go_ret2;rw[HF.zo];exact⟨_,_,rfl,ae,Sl.nil _ _⟩
   ·have q:decide ((400:Int)<(n:Int))=false:=jE (by omega)
    have HF:=aa (show wC (writeAll (cP l))=res by rw[<-aD.zo];unfold Nk;rw[if_pos HQ.zo,if_neg (by rw[HL.zo];exact hn)]);have GD:=aa (show [l].flatten=l by simp);go_wp2_with (first|((with_reducible refine ag (tM _ _ _ [l] _ ?_ ?_) ?_);exact QD (H.zo.exts ae) (by simp<;>omega) (by simp[go_sem]);rw[GD.zo,HL.zo];omega;rw[GD.zo];rintro e W1 ⟨so,sc,rfl,hx1,ho1⟩;(have jZ:=aa (af.trans ae hx1:af w W1));(have lv:=aa (ho1.strips rfl));clear hx1 ho1)|((with_reducible refine ag (Hj _ _ _ (cP l) 0 _ ?_ ?_ ?_) ?_);exact lv.zo.exts ae;(have:=pA l;rw[HL.zo]at this;omega);(exact fun i s hs=>Nat.le_trans (yG hs) (by rw[HL.zo];omega));rintro e W2 ⟨wo,wc,rfl,hx2,ho2⟩;(have gm:=aa (af.trans (jZ.zo.trans ae) hx2:af w W2));(have jY:=aa (ho2.sl rfl));clear hx2 ho2)|((with_reducible refine ag (yH _ _ _ (writeAll (cP l)) _ ?_) ?_);exact jY.zo.exts ae;rw[HF.zo];rintro e W3 ⟨lo,lc,rfl,hx3,ho3⟩;(have iU:=aa (af.trans (gm.zo.trans ae) hx3:af w W3));(have my:=aa ho3);clear hx3 ho3))
    go_ret2;exact⟨_,_,rfl,iU.zo.trans ae,my.zo.exts ae⟩
theorem VF(ao:Option Addr)(n c:Nat)(l:List Rc)(w:World)(h:Sl je w ao n c l):Calls prog 87 #[.slice ao n c] w (cX (.bool (ew l)) w):=by
 have H:=aa h;obtain⟨res,hres⟩:∃r,Nk l=r:=⟨_,rfl⟩;have aD:=aa hres;have zC:=aa (show ew l=(res.2==0&&lj rcE res.1 l)by unfold ew;rw[hres]);clear h hres;cases q:(res.2==0)with
 |false=>
  have q': ¬res.2=0:=by simpa using q
  have HQ:=aa q;go_enter func87,ntmps87;go_wp2_with ((with_reducible refine ag (XT _ _ _ l _ ?_) ?_);exact H.zo.exts ae;rw[aD.zo];rintro e w' ⟨lo,lc,rfl,hx1,ho1⟩;(have jZ:=aa (af.trans ae hx1:af w w'));(have lv:=aa ho1);clear hx1 ho1)
  go_ret;rw[zC.zo,HQ.zo];exact⟨rfl,jZ.zo.trans ae⟩
 |true=>
  obtain⟨r1,r2⟩:=res;obtain rfl:r2=0:=by simpa using q
  clear q;go_enter func87,ntmps87;go_wp2_with (first|((with_reducible refine ag (XT _ _ _ l _ ?_) ?_);exact H.zo.exts ae;rw[aD.zo];rintro e w' ⟨lo,lc,rfl,hx1,ho1⟩;(have jZ:=aa (af.trans ae hx1:af w w'));(have lv:=aa ho1);clear hx1 ho1)|((with_reducible refine ag (Qx _ _ _ _ _ _ r1 l _ ?_ ?_) ?_);exact lv.zo.exts ae;exact H.zo.exts (jZ.zo.trans ae);rintro e w' ⟨rfl,x9,rfl⟩))
  go_ret;rw[zC.zo];exact⟨rfl,jZ.zo.trans ae⟩
theorem DK:Enters 351:=fun a w=>by rfl
theorem xL:Enters 326:=fun a w=>by rfl
theorem XV(s:Span)(cs:zv)(y:Int)(w:World)(h:(eQ).R w cs s):Calls prog 351 (#[.agg cs.toArray,.int .i64 y]++ #[]) w (cX (.int .i64 (if decide (s.hi<=y)=true then -1 else 1)) w):=by
 obtain⟨rfl,_⟩:=h;show Calls prog 351 #[.agg #[.int .i64 s.lo,.int .i64 s.hi],.int .i64 y] w _;cases q:decide (s.hi<=y)<;>(
  go_enter func351,ntmps351;go_wp2;go_ret;exact⟨rfl,ae⟩)
theorem QF(s:Strip)(cs:zv)(y:Int)(w:World)(h:(stripL).R w cs s):Calls prog 326 (#[.agg cs.toArray,.int .i64 y]++ #[]) w (cX (.int .i64 (if decide (s.x1<=y)=true then -1 else 1)) w):=by
 obtain⟨o,c,rfl,_⟩:=h;show Calls prog 326 #[.agg #[.int .i64 s.x0,.int .i64 s.x1,.slice o s.column.length c],.int .i64 y] w _;cases q:decide (s.x1<=y)<;>(
  go_enter func326,ntmps326;go_wp2;go_ret;exact⟨rfl,ae⟩)
theorem Nl(ao:Option Addr)(n c:Nat)(l:List Span)(y:Int)(w:World)(h:Sl eQ w ao n c l)(hn:n<=100000000):Calls prog 324 #[.slice ao n c,.int .i64 y] w (cX (.bool (nI l y)) w):=by
 have H:=aa h;have hl:=h.1;obtain⟨res,hres⟩:∃r,nI l y=r:=⟨_,rfl⟩;have aD:=aa hres;obtain⟨i,hi⟩:∃i,CC (DF (fun s:Span=>decide (s.hi<=y)) l) (n+1) 0 n=i:=⟨_,rfl⟩;have HI:=aa hi;rw[hres];clear hres h;have rG:=aa (show res=match l[i]? with|some s=>decide (s.lo<=y)|none=>false by
  rw[<-aD.zo,<-hi,<-hl];rfl)
 clear hi;by_cases hin:i<n
 ·obtain⟨d,hd⟩:=H.zo.ex hin
  obtain⟨b,off,rfl,lb,c0,c1,_⟩:=Al H.zo hd;have HQ:=aa (show res=decide (d.lo<=y)by rw[rG.zo,hd]);clear hd hl;go_enter func324,ntmps324;go_wp2_with ((with_reducible refine ag (XU 351 #[] (fun s:Span=>decide (s.hi<=y)) _ n c l y _ DK ?_ hn ?_) ?_);exact H.zo.exts ae;exact fun w' i d cs _ _ hR=>XV d cs y w' hR;rw[HI.zo];rintro e w' ⟨rfl,x9,rfl⟩)
  go_ret;exact⟨by rw[HQ.zo];rfl,ae⟩
 ·have HQ:=aa (show res=false by rw[rG.zo,List.getElem?_eq_none (by omega)])
  clear hl;go_enter func324,ntmps324;go_wp2_with ((with_reducible refine ag (XU 351 #[] (fun s:Span=>decide (s.hi<=y)) _ n c l y _ DK ?_ hn ?_) ?_);exact H.zo.exts ae;exact fun w' i d cs _ _ hR=>XV d cs y w' hR;rw[HI.zo];rintro e w' ⟨rfl,x9,rfl⟩)
  go_ret;exact⟨by rw[HQ.zo];rfl,ae⟩
theorem XW(ao:Option Addr)(n c:Nat)(l:List Strip)(y:Int)(w:World)(h:Sl stripL w ao n c l)(hn:n<=100000000):Calls prog 299 #[.slice ao n c,.int .i64 y] w fun e w'=> ∃ao' c',e=.returned (.slice ao' (gV l y).length c')/\af w w'/\Sl eQ w' ao' (gV l y).length c' (gV l y):=by
 have H:=aa h;have hl:=h.1;obtain⟨res,hres⟩:∃r,gV l y=r:=⟨_,rfl⟩;have aD:=aa hres;obtain⟨i,hi⟩:∃i,CC (DF (fun s:Strip=>decide (s.x1<=y)) l) (n+1) 0 n=i:=⟨_,rfl⟩;have HI:=aa hi;rw[hres];clear hres h;have rG:=aa (show res=match l[i]? with|some s=>if s.x0<=y then s.column else []|none=> []by
  rw[<-aD.zo,<-hi,<-hl];rfl)
 clear hi;by_cases hin:i<n
 ·obtain⟨d,hd⟩:=H.zo.ex hin
  obtain⟨b,off,o,c',rfl,lb,c0,c1,c2,i0,i1,hs⟩:=nS H.zo hd;have HS:=aa hs;cases q:decide (d.x0<=y)with
  |true=>
   have HQ:=aa (show res=d.column by rw[rG.zo,hd];exact if_pos (of_decide_eq_true q));clear hd hl hs;go_enter func299,ntmps299;go_wp2_with ((with_reducible refine ag (QE 326 #[] (fun s:Strip=>decide (s.x1<=y)) _ n c l y _ xL ?_ hn ?_) ?_);exact H.zo.exts ae;exact fun w' i d cs _ _ hR=>QF d cs y w' hR;rw[HI.zo];rintro e w' ⟨rfl,x9,rfl⟩)
   go_ret;rw[HQ.zo];exact⟨_,_,rfl,ae,HS.zo.exts ae⟩
  |false=>
   have HQ:=aa (show res= []by rw[rG.zo,hd];exact if_neg (of_decide_eq_false q));clear hd hl hs;go_enter func299,ntmps299;go_wp2_with ((with_reducible refine ag (QE 326 #[] (fun s:Strip=>decide (s.x1<=y)) _ n c l y _ xL ?_ hn ?_) ?_);exact H.zo.exts ae;exact fun w' i d cs _ _ hR=>QF d cs y w' hR;rw[HI.zo];rintro e w' ⟨rfl,x9,rfl⟩)
   go_ret;rw[HQ.zo];exact⟨_,_,rfl,ae,Sl.nil _ _⟩
 ·have HQ:=aa (show res= []by rw[rG.zo,List.getElem?_eq_none (by omega)])
  clear hl;go_enter func299,ntmps299;go_wp2_with ((with_reducible refine ag (QE 326 #[] (fun s:Strip=>decide (s.x1<=y)) _ n c l y _ xL ?_ hn ?_) ?_);exact H.zo.exts ae;exact fun w' i d cs _ _ hR=>QF d cs y w' hR;rw[HI.zo];rintro e w' ⟨rfl,x9,rfl⟩)
  go_ret;rw[HQ.zo];exact⟨_,_,rfl,ae,Sl.nil _ _⟩
def oA(l:List Span):List Int:=l.flatMap fun s=> [s.lo,s.hi]
theorem tN(l:List Span):(oA l).length=2*l.length:=by
 induction l with
 |nil=>rfl
 |cons x l ih=>simp only[oA,List.flatMap_cons,dG,List.length_cons,List.length_nil]at*;omega
theorem Ka{l:List Span}{k:Nat}{r:Span}(h:l[k]?=some r):oA (l.take (k+1))=oA (l.take k)++ [r.lo,r.hi]:=by
 unfold oA;rw[List.take_add_one,h,Option.toList_some,List.flatMap_append];simp
def Py(a b:List Span):List Int:=kG (fL (oA (a++b)))
theorem QG(a b:List Span):(Py a b).length<=2*(a.length+b.length):=by
 unfold Py;have:=sq (fL (oA (a++b)));rw[gO,tN,dG]at this;exact this
def AX(a b:List Span)(ys:List Int)(k:Nat):List Span:=(List.range k).foldl (DG a b ys) []
theorem QH(a b:List Span)(ys:List Int)(k:Nat):AX a b ys (k+1)=DG a b ys (AX a b ys k) k:=by
 unfold AX;rw[List.range_succ,List.foldl_append];rfl
theorem QJ(a b:List Span)(ys:List Int)(k:Nat):(AX a b ys k).length<=k:=by
 have:=zZ (DG a b ys) (Qq a b ys) (List.range k) [];simpa[AX]using this
def mergeD(a b:List Span):List Span:=AX a b (Py a b) ((Py a b).length - 1)
theorem jG{l:List Span}{y:Int}{q:Bool}(hq:nI l y=q)(ao:Option Addr)(n c:Nat)(w:World)(h:Sl eQ w ao n c l)(hn:n<=100000000):Calls prog 324 #[.slice ao n c,.int .i64 y] w (cX (.bool q) w):=by
 rw[<-hq];exact Nl ao n c l y w h hn
theorem QK(ao bo:Option Addr)(n c m cc:Nat)(a b:List Span)(w:World)(h:Sl eQ w ao n c a)(h2:Sl eQ w bo m cc b)(hn:n+m<=2000):Calls prog 298 #[.slice ao n c,.slice bo m cc,.func (.func 236) #[] #[]] w fun e w'=> ∃oo oc,e=.returned (.slice oo (mergeD a b).length oc)/\af w w'/\aq eQ w.heap.size 406 w' (.slice oo (mergeD a b).length oc) (mergeD a b):=by
 obtain⟨i0,hi,hz0,hz1,hz2⟩:=info_parts na;obtain⟨j0,hj,hy0,hy1,hy2⟩:=info_parts tI;have HA:=aa h;have HB:=aa h2;have hal:=h.1;have hbl:=h2.1;have GD:=aa (show [a,b].flatten=a++b by simp);obtain⟨l,hl⟩:∃l,a++b=l:=⟨_,rfl⟩;have hll:l.length=n+m:=by rw[<-hl,dG,hal,hbl]
 have HL:=aa hl;rw[hl]at GD;have EI:=aa hal;have CD:=aa hbl;have rY:=aa hll;have hlb:l.length<=2000:=by omega
 clear h h2 hal hbl hl hll;have HLS:=aa (show∀w' b0,af w w'->w'.cell? ⟨b0,0,none⟩=some (.slice ao n c)->w'.cell? ⟨b0,1,none⟩=some (.slice bo m cc)->Sl (Ps eQ) w' (some ⟨b0,0,none⟩) 2 2 [a,b]from fun w' b0 he c0 c1=>by
  refine⟨rfl,[.slice ao n c,.slice bo m cc],Hg (bP c0) c0 c1,fun i d hd=> ?_⟩
  match i,hd with
  |0,hd=>(cases hd;exact⟨ao,c,by rw[EI.zo];rfl,by rw[EI.zo];exact HA.zo.exts he⟩)
  |1,hd=>(cases hd;exact⟨bo,cc,by rw[CD.zo];rfl,by rw[CD.zo];exact HB.zo.exts he⟩))
 go_enter func298,ntmps298;go_wp2_with ((with_reducible refine ag (Nf _ _ _ [a,b] _ ?_ ?_) ?_);exact HLS.zo _ _ ae (by simp[go_sem]) (by simp[go_sem]);rw[GD.zo];omega;rw[GD.zo];rintro e W1 ⟨lo,lc,rfl,hx1,ho1⟩;(have jZ:=aa (af.trans ae hx1:af w W1));(have LM:=aa (ho1.sl rfl));clear hx1 ho1)
 go_loopw [7,19] (fun o i wr=> ∃(k:Nat)(oo:Option Addr)(oc:Nat),k<=l.length/\i=.int .i64 k/\o=.slice oo (2*k) oc/\af W1 wr/\aq dv W1.heap.size 3 wr (.slice oo (2*k) oc) (oA (l.take k))) (fun _ i _=>l.length - (intOf i).toNat)
 case atStart=>exact⟨0,none,0,by omega,rfl,rfl,ae,aq.made _ _ _ _⟩
 case round=>
  obtain⟨k,qo,qc,hk,rfl,rfl,hx,ho⟩:=hrel;have HX:=aa hx;have HO:=aa ho;by_cases hlt:k<l.length
  ·obtain⟨r,hr⟩:=LM.zo.ex hlt
   obtain⟨b1,off,cs,rfl,lb,hR,cZ⟩:=LM.zo.ld hr;obtain⟨rfl,r0,r1⟩:=hR;have hld:∀w',af wr w'->_:=fun w' he=>cZ w' (HX.zo.trans he)
   have HS:=aa (Ka hr);have HE:=aa (show(oA (l.take k)).length=2*k by rw[tN,List.length_take];omega);have HI:=aa (show I64 r.lo/\I64 r.hi from⟨r0,r1⟩);have hsz:W1.heap.size<=wr.heap.size:=HX.zo.below.size;obtain⟨A,hA⟩:∃A,oA (l.take k)=A:=⟨_,rfl⟩;rw[hA]at HO HS HE;clear hr cZ r0 r1 hx ho hA;go_wp2_with (at_builtin;refine nH rfl (.tmp 23) (.tmp 28) 66 rfl dv W1.heap.size 3 eZ.turn i0 _ 8 underlying66 hi hz0 hz1 hz2 rfl (by decide) A [r.lo,r.hi] [.int .i64 r.lo,.int .i64 r.hi] _ 2 _ _ rfl HE.zo HO.zo ae _ 2 rfl rfl rfl ?_ (qO (by simp[go_sem]) (by simp[go_sem])) (by simp[Value.oneCell']) (by unfold maxLen;omega) (by omega) (by simp<;>omega) ?_;(intro j d hd;match j,hd with|0,hd=>(cases hd;exact⟨rfl,HI.zo.1⟩)|1,hd=>(cases hd;exact⟨rfl,HI.zo.2⟩));intro ao' c' w1 hown hgrow;(have HN:=aa hown);(have HG:=aa hgrow);clear hown hgrow)
   have e2:2*k+2=2*(k+1):=by omega
   rw[e2]at HN ⊢;refine⟨⟨k+1,ao',c',by omega,by go_num,rfl,HG.zo W1 (HX.zo.trans ae) (Nat.le_refl _),by rw[HS.zo];exact HN.zo⟩,?_⟩;simp[intOf];omega
  ·obtain rfl:l.length=k:=by omega
   have e1:l.take l.length=l:=dQ (Nat.le_refl _);rw[e1]at HO;clear hx ho e1;go_wp2_with (first|((with_reducible refine ag (xH (w0:=W1) (base:=W1.heap.size) (l:=oA l) ?_ (tN l) ?_ (Nat.le_refl _) (by omega)) ?_);exact HO.zo.exts ae;exact HX.zo.trans ae;rintro e W2 ⟨rfl,hx2,ho2⟩;(have gm:=aa hx2);(have jY:=aa ho2);clear hx2 ho2)|((with_reducible refine ag (tJ (w0:=W1) (base:=W1.heap.size) (l:=fL (oA l)) ?_ ((gO _).trans (tN l)) ?_ (Nat.le_refl _) (by omega)) ?_);exact jY.zo.exts ae;exact gm.zo.trans ae;rintro e W3 ⟨rfl,hx3,ho3⟩;(have iU:=aa hx3);(have my:=aa ho3);clear hx3 ho3))
   have hxl:=QG a b;rw[EI.zo,CD.zo]at hxl;obtain⟨X,hX⟩:∃X,kG (fL (oA l))=X:=⟨_,rfl⟩;have HXE:=aa (show Py a b=X by unfold Py;rw[HL.zo];exact hX);rw[HXE.zo]at hxl;rw[hX]at my ⊢;have Pv:=aa (my.zo.sl rfl);clear hX;go_loopw [10,11] (fun o i wr=> ∃(k:Nat)(oo:Option Addr)(oc:Nat),k<=X.length - 1/\i=.int .i64 ((k:Int)+1)/\o=.slice oo (AX a b X k).length oc/\af W3 wr/\aq eQ W3.heap.size 406 wr (.slice oo (AX a b X k).length oc) (AX a b X k)) (fun _ i _=>X.length - (intOf i).toNat)
   case atStart=>exact⟨0,none,0,by omega,rfl,rfl,ae,aq.made _ _ _ _⟩
   case round=>
    obtain⟨k,so,sc,hk,rfl,rfl,hx,ho⟩:=hrel;have nv:=aa hx;have zA:=aa ho;by_cases hlt:k+1<X.length
    ·obtain⟨y,hy⟩:=Pv.zo.ex (show k<X.length by omega)
     obtain⟨z,hz⟩:=Pv.zo.ex hlt;obtain⟨bx,ox,rfl,Kb,c00,ia⟩:=dV Pv.zo hy;obtain⟨bx2,ox2,e2,_,c10,ib⟩:=dV Pv.zo hz;simp only[Option.some.injEq,Addr.mk.injEq,and_true]at e2;obtain⟨rfl,rfl⟩:=e2;have uB:=aa (jZ.zo.trans (iU.zo.trans nv.zo));have c0:=af.cell nv.zo c00;have c1:=af.cell nv.zo c10;have lbx:=bP c0;have hsz3:W3.heap.size<=wr.heap.size:=nv.zo.below.size;have HI:=aa (show I64 y/\I64 z from⟨ia,ib⟩);have hle:=QJ a b X k;have HM:=aa (show AX a b X (k+1)=if nI a y&&nI b y then(match (AX a b X k).getLast? with|some t=>if t.hi=y then(AX a b X k).dropLast++ [⟨t.lo,z⟩]else AX a b X k++ [⟨y,z⟩]|none=> [⟨y,z⟩])else AX a b X k by
      rw[QH];unfold DG;rw[List.getD_eq_getElem?_getD,List.getD_eq_getElem?_getD,hy,hz];rfl)
     obtain⟨F,hF⟩:∃F,AX a b X k=F:=⟨_,rfl⟩;rw[hF]at zA HM hle ⊢;obtain⟨p1,hp1⟩:∃p,nI a y=p:=⟨_,rfl⟩;obtain⟨p2,hp2⟩:∃p,nI b y=p:=⟨_,rfl⟩;have CE:=aa hp1;have HP2:=aa hp2;clear hy hz c00 c10 ia ib hx ho hF hp1 hp2 Kb;cases p1 with
     |false=>
      cases p2 with
      |false=>
       have HE:=aa (show AX a b X (k+1)=F by rw[HM.zo,CE.zo,HP2.zo];rfl);go_wp2_with (first|((with_reducible refine ag (jG CE.zo ao n c _ (HA.zo.exts (uB.zo.trans ae)) (by omega)) ?_);rintro e w' ⟨rfl,x7,rfl⟩)|((with_reducible refine ag (jG HP2.zo bo m cc _ (HB.zo.exts (uB.zo.trans ae)) (by omega)) ?_);rintro e w' ⟨rfl,x8,rfl⟩)|((with_reducible refine ag (xK _ _ _) ?_);rintro e w' ⟨rfl,x9,rfl⟩))
       refine⟨⟨k+1,so,sc,by omega,by go_num,by rw[HE.zo],nv.zo.trans ae,by rw[HE.zo];exact zA.zo.exts ae⟩,?_⟩;simp[intOf];omega
      |true=>
       have HE:=aa (show AX a b X (k+1)=F by rw[HM.zo,CE.zo,HP2.zo];rfl);go_wp2_with (first|((with_reducible refine ag (jG CE.zo ao n c _ (HA.zo.exts (uB.zo.trans ae)) (by omega)) ?_);rintro e w' ⟨rfl,x7,rfl⟩)|((with_reducible refine ag (jG HP2.zo bo m cc _ (HB.zo.exts (uB.zo.trans ae)) (by omega)) ?_);rintro e w' ⟨rfl,x8,rfl⟩)|((with_reducible refine ag (xK _ _ _) ?_);rintro e w' ⟨rfl,x9,rfl⟩))
       refine⟨⟨k+1,so,sc,by omega,by go_num,by rw[HE.zo],nv.zo.trans ae,by rw[HE.zo];exact zA.zo.exts ae⟩,?_⟩;simp[intOf];omega
     |true=>
      cases p2 with
      |false=>
       have HE:=aa (show AX a b X (k+1)=F by rw[HM.zo,CE.zo,HP2.zo];rfl);go_wp2_with (first|((with_reducible refine ag (jG CE.zo ao n c _ (HA.zo.exts (uB.zo.trans ae)) (by omega)) ?_);rintro e w' ⟨rfl,x7,rfl⟩)|((with_reducible refine ag (jG HP2.zo bo m cc _ (HB.zo.exts (uB.zo.trans ae)) (by omega)) ?_);rintro e w' ⟨rfl,x8,rfl⟩)|((with_reducible refine ag (xK _ _ _) ?_);rintro e w' ⟨rfl,x9,rfl⟩))
       refine⟨⟨k+1,so,sc,by omega,by go_num,by rw[HE.zo],nv.zo.trans ae,by rw[HE.zo];exact zA.zo.exts ae⟩,?_⟩;simp[intOf];omega
      |true=>
       rcases AR F with rfl|⟨F,t,rfl⟩
       ·have HE:=aa (show AX a b X (k+1)= []++ [⟨y,z⟩]by rw[HM.zo,CE.zo,HP2.zo];rfl)
        go_wp2_with (first|((with_reducible refine ag (jG CE.zo ao n c _ (HA.zo.exts (uB.zo.trans ae)) (by omega)) ?_);rintro e w' ⟨rfl,x7,rfl⟩)|((with_reducible refine ag (jG HP2.zo bo m cc _ (HB.zo.exts (uB.zo.trans ae)) (by omega)) ?_);rintro e w' ⟨rfl,x8,rfl⟩)|((with_reducible refine ag (xK _ _ _) ?_);rintro e w' ⟨rfl,x9,rfl⟩)|(at_builtin;refine dz rfl (.tmp 78) (.tmp 85) 387 rfl eQ W3.heap.size 406 mG.turn j0 _ 16 underlying387 hj hy0 hy1 hy2 rfl (by decide) [] ⟨y,z⟩ [.int .i64 y,.int .i64 z] _ _ _ rfl rfl zA.zo ae _ 1 rfl ⟨rfl,HI.zo.1,HI.zo.2⟩ (qO (by simp[go_sem]) (by simp[go_sem])) (by simp) (by omega) (by simp<;>omega) ?_;intro ao' c' w1 hown hgrow;(have HN:=aa hown);(have HG:=aa hgrow);clear hown hgrow))
        refine⟨⟨k+1,ao',c',by omega,by go_num,by rw[HE.zo];rfl,HG.zo W3 (nv.zo.trans ae) (Nat.le_refl _),by rw[HE.zo];exact HN.zo⟩,?_⟩;simp[intOf];omega
       ·obtain⟨g,rfl,hg,hgl,hgc⟩:∃g,so=some ⟨g,0,none⟩/\W3.heap.size<=g/\g<wr.heap.size/\(F++ [t]).length<=sc:=by
         obtain⟨xs,h1,_⟩:=zA.zo;rcases gq h1 with⟨h0,_⟩|h0
         ·simp at h0
         ·exact h0
        obtain⟨p,hp⟩:∃p,F.length=p:=⟨_,rfl⟩;have HP:=aa hp;have el:(F++ [t]).length=p+1:=by rw[dG,hp];rfl
        rw[el]at zA hgc hle ⊢;have hlast:(F++ [t])[p]?=some t:=by rw[<-hp];simp
        obtain⟨b1,off1,e1,_,d0,d1,j1,j2⟩:=Al (zA.zo.sl el) hlast;simp only[Option.some.injEq,Addr.mk.injEq,and_true]at e1;obtain⟨rfl,rfl⟩:=e1;rw[Nat.zero_add]at d0 d1;have fz:∀j,wr.frozen? ⟨g,j,none⟩=false:=by
         obtain⟨xs,h1,_⟩:=zA.zo;rw[el]at h1;exact fun j=>h1.frozenAt j
        have HJ:=aa (show I64 t.lo/\I64 t.hi from⟨j1,j2⟩);have HLA:=aa hlast;have CO:=aa el;have LQ:=aa (show AX a b X (k+1)=if t.hi=y then F++ [⟨t.lo,z⟩]else F++ [t]++ [⟨y,z⟩]by
         rw[HM.zo,CE.zo,HP2.zo,List.getLast?_concat];simp only[List.dropLast_concat];rfl)
        have q0:decide ((0:Int)<(p:Int)+1)=true:=zdt (by omega);clear hp el j1 j2 hlast;cases q1:(t.hi==y)with
        |true=>
         have HE:=aa (show AX a b X (k+1)=(F++ [t]).set p ⟨t.lo,z⟩by rw[LQ.zo,if_pos (by simpa using q1),<-HP.zo];simp);have ST:=aa (aq.stored mG.turn (u:=.int .i64 z) (d':=⟨t.lo,z⟩) (j:=1) zA.zo CO.zo HLA.zo (by decide) (fun cs hR=>by obtain⟨rfl,_⟩:=hR;exact⟨rfl,HJ.zo.1,HI.zo.2⟩));have HYT:=aa (show t.hi=y by simpa using q1);obtain rfl:=HYT.zo;clear q1;go_wp2_with (first|((with_reducible refine ag (jG CE.zo ao n c _ (HA.zo.exts (uB.zo.trans ae)) (by omega)) ?_);rintro e w' ⟨rfl,x7,rfl⟩)|((with_reducible refine ag (jG HP2.zo bo m cc _ (HB.zo.exts (uB.zo.trans ae)) (by omega)) ?_);rintro e w' ⟨rfl,x8,rfl⟩)|((with_reducible refine ag (xK _ _ _) ?_);rintro e w' ⟨rfl,x9,rfl⟩))
         refine⟨⟨k+1,_,sc,by omega,by go_num,by rw[HE.zo,List.length_set,CO.zo],af.trans (jx nv.zo hg _ _) ae,?_⟩,?_⟩
         ·rw[HE.zo,List.length_set,CO.zo]
          exact ST.zo.exts ae
         ·simp[intOf];omega
        |false=>
         have HE:=aa (show AX a b X (k+1)=F++ [t]++ [⟨y,z⟩]by rw[LQ.zo,if_neg (by simpa using q1)]);have q2: ¬t.hi=y:=by simpa using q1
         go_wp2_with (first|((with_reducible refine ag (jG CE.zo ao n c _ (HA.zo.exts (uB.zo.trans ae)) (by omega)) ?_);rintro e w' ⟨rfl,x7,rfl⟩)|((with_reducible refine ag (jG HP2.zo bo m cc _ (HB.zo.exts (uB.zo.trans ae)) (by omega)) ?_);rintro e w' ⟨rfl,x8,rfl⟩)|((with_reducible refine ag (xK _ _ _) ?_);rintro e w' ⟨rfl,x9,rfl⟩)|(at_builtin;refine dz rfl (.tmp 78) (.tmp 85) 387 rfl eQ W3.heap.size 406 mG.turn j0 _ 16 underlying387 hj hy0 hy1 hy2 rfl (by decide) (F++ [t]) ⟨y,z⟩ [.int .i64 y,.int .i64 z] _ _ _ rfl CO.zo zA.zo ae _ 1 rfl ⟨rfl,HI.zo.1,HI.zo.2⟩ (qO (by simp[go_sem]) (by simp[go_sem])) (by omega) (by omega) (by simp<;>omega) ?_;intro ao' c' w1 hown hgrow;(have HN:=aa hown);(have HG:=aa hgrow);clear hown hgrow))
         refine⟨⟨k+1,ao',c',by omega,by go_num,by rw[HE.zo,dG,CO.zo];rfl,HG.zo W3 (nv.zo.trans ae) (Nat.le_refl _),by rw[HE.zo,dG,CO.zo];exact HN.zo⟩,?_⟩;simp[intOf];omega
    ·obtain rfl:k=X.length - 1:=by omega
     have HD:=aa (show mergeD a b=AX a b X (X.length - 1)by unfold mergeD;rw[HXE.zo]);have Qv:w.heap.size<=W3.heap.size:=(jZ.zo.trans iU.zo).below.size;clear hx ho;go_wp2;go_ret;rw[HD.zo];exact⟨_,_,rfl,jZ.zo.trans (iU.zo.trans (nv.zo.trans ae)),(zA.zo.exts ae).lower Qv⟩
def lx(a b:List Rc)(s:Strip):Strip:=⟨s.x0,s.x1,mergeD (gV (cP a) s.x0) (gV (cP b) s.x0)⟩
def pB(a b:List Rc):List Rc×Int:=if(ew a&&ew b)=true then wC (writeAll ((cP (a++b)).map (lx a b)))else([],1)
theorem Kc{T:Type}{e:T->T->Bool}{l m:List T}(h:lj e l m=true):l.length=m.length:=by
 rcases Nat.decEq l.length m.length with h0|h0
 ·rw[vS h0]at h
  cases h
 ·exact h0
theorem tO{l:List Rc}(h:ew l=true):l.length<=200:=by
 unfold ew at h;rw[Bool.and_eq_true]at h;obtain⟨h1,h2⟩:=h;have h3:=Kc h2;unfold Nk wC at h1 h3;split at h1
 ·rename_i ha
  rw[if_pos ha]at h3;split at h1
  ·simp at h1
  ·rename_i hb
   rw[if_neg hb]at h3;split at h1
   ·simp at h1
   ·rename_i hc
    rw[if_neg hc]at h3;simp only at h3;omega
 ·simp at h1
theorem tP{l:List Rc}{x:Int}:(gV (cP l) x).length<=l.length:=by
 unfold gV;split
 ·rename_i s hs
  split
  ·exact yG hs
  ·simp
 ·simp
theorem Nn(a b:List Span):(mergeD a b).length<=2*(a.length+b.length):=by
 have h1:=QJ a b (Py a b) ((Py a b).length - 1);have h2:=QG a b;unfold mergeD;omega
def upTo(f:Strip->Strip)(S:List Strip)(k:Nat):List Strip:=(S.take k).map f++S.drop k
theorem QL(f:Strip->Strip)(S:List Strip)(k:Nat):(upTo f S k).length=S.length:=by
 unfold upTo;rw[dG,List.length_map,List.length_take,List.length_drop];omega
theorem VG{f:Strip->Strip}{S:List Strip}{k:Nat}{d:Strip}(h:S[k]?=some d):(upTo f S k)[k]?=some d:=by
 have hk:=(bw h).1;unfold upTo;rw[List.getElem?_append_right (by simp;omega),List.getElem?_drop];rw[show k+(k - ((S.take k).map f).length)=k by simp;omega];exact h
theorem Np{f:Strip->Strip}{S:List Strip}{k:Nat}{d:Strip}(h:S[k]?=some d):(upTo f S k).set k (f d)=upTo f S (k+1):=by
 have hk:=(bw h).1;unfold upTo;rw[List.take_add_one,h,Option.toList_some,List.map_append,List.append_assoc];have hlen:((S.take k).map f).length<=k:=by simp;omega
 rw[List.set_append_right _ _ hlen];congr 1;rw[show k - ((S.take k).map f).length=0 by simp;omega];rw[List.drop_eq_getElem_cons hk];have:S[k]=d:=by
  have:=(bw h).2;exact this
 rw[this];rfl
theorem ep{l:List Rc}{q:Bool}(hq:ew l=q)(ao:Option Addr)(n c:Nat)(w:World)(h:Sl je w ao n c l):Calls prog 87 #[.slice ao n c] w (cX (.bool q) w):=by
 rw[<-hq];exact VF ao n c l w h
theorem Ke(ao bo:Option Addr)(n c m cc:Nat)(a b:List Rc)(w:World)(h:Sl je w ao n c a)(h2:Sl je w bo m cc b):Calls prog 235 #[.slice ao n c,.slice bo m cc,.func (.func 236) #[] #[]] w (QC (pB a b) w):=by
 have HA:=aa h;have HB:=aa h2;have hal:=h.1;have hbl:=h2.1;obtain⟨p1,hp1⟩:∃p,ew a=p:=⟨_,rfl⟩;obtain⟨p2,hp2⟩:∃p,ew b=p:=⟨_,rfl⟩;have CE:=aa hp1;have HP2:=aa hp2;obtain⟨res,hres⟩:∃r,pB a b=r:=⟨_,rfl⟩;have aD:=aa hres;have EI:=aa hal;have CD:=aa hbl;rw[hres];clear h h2 hp1 hp2 hres hal hbl;cases p1 with
 |false=>
  have HF:=aa (show res=([],1)by rw[<-aD.zo];unfold pB;rw[CE.zo];rfl);go_enter func235,ntmps235;go_wp2_with (first|((with_reducible refine ag (ep CE.zo ao n c _ (HA.zo.exts ae)) ?_);rintro e w' ⟨rfl,x7,rfl⟩)|((with_reducible refine ag (ep HP2.zo bo m cc _ (HB.zo.exts ae)) ?_);rintro e w' ⟨rfl,x8,rfl⟩))
  go_ret2;rw[HF.zo];exact⟨_,_,rfl,ae,Sl.nil _ _⟩
 |true=>
  cases p2 with
  |false=>
   have HF:=aa (show res=([],1)by rw[<-aD.zo];unfold pB;rw[CE.zo,HP2.zo];rfl);go_enter func235,ntmps235;go_wp2_with (first|((with_reducible refine ag (ep CE.zo ao n c _ (HA.zo.exts ae)) ?_);rintro e w' ⟨rfl,x7,rfl⟩)|((with_reducible refine ag (ep HP2.zo bo m cc _ (HB.zo.exts ae)) ?_);rintro e w' ⟨rfl,x8,rfl⟩))
   go_ret2;rw[HF.zo];exact⟨_,_,rfl,ae,Sl.nil _ _⟩
  |true=>
   have HF:=aa (show wC (writeAll ((cP (a++b)).map (lx a b)))=res by rw[<-aD.zo];unfold pB;rw[CE.zo,HP2.zo];rfl);have ha2:=tO CE.zo;have hb2:=tO HP2.zo;rw[EI.zo]at ha2;rw[CD.zo]at hb2;have F1:=aa (show [a].flatten=a by simp);have F2:=aa (show [b].flatten=b by simp);have F3:=aa (show [a,b].flatten=a++b by simp);have HLS:=aa (show∀w' b0,af w w'->w'.cell? ⟨b0,0,none⟩=some (.slice ao n c)->w'.cell? ⟨b0,1,none⟩=some (.slice bo m cc)->Sl (Ps je) w' (some ⟨b0,0,none⟩) 2 2 [a,b]from fun w' b0 he c0 c1=>by
    refine⟨rfl,[.slice ao n c,.slice bo m cc],Hg (bP c0) c0 c1,fun i d hd=> ?_⟩
    match i,hd with
    |0,hd=>(cases hd;exact⟨ao,c,by rw[EI.zo];rfl,by rw[EI.zo];exact HA.zo.exts he⟩)
    |1,hd=>(cases hd;exact⟨bo,cc,by rw[CD.zo];rfl,by rw[CD.zo];exact HB.zo.exts he⟩))
   go_enter func235,ntmps235;go_wp2_with (first|((with_reducible refine ag (ep CE.zo ao n c _ (HA.zo.exts ae)) ?_);rintro e w' ⟨rfl,x7,rfl⟩)|((with_reducible refine ag (ep HP2.zo bo m cc _ (HB.zo.exts ae)) ?_);rintro e w' ⟨rfl,x8,rfl⟩)|((with_reducible refine ag (tM _ _ _ [a] _ ?_ ?_) ?_);(refine QD (ao:=ao) (n:=n) (c:=c) (HA.zo.exts ae) ?_ ?_<;>(simp[go_sem];done));rw[F1.zo,EI.zo];omega;rw[F1.zo];rintro e w' ⟨so1,sc1,rfl,⟨y1,rfl⟩,ho1⟩;(have lv:=aa (ho1.strips rfl));clear ho1)|((with_reducible refine ag (tM _ _ _ [b] _ ?_ ?_) ?_);(refine QD (ao:=bo) (n:=m) (c:=cc) (HB.zo.exts ae) ?_ ?_<;>(simp[go_sem];done));rw[F2.zo,CD.zo];omega;rw[F2.zo];rintro e w' ⟨so2,sc2,rfl,⟨y2,rfl⟩,ho2⟩;(have jY:=aa (ho2.strips rfl));clear ho2)|((with_reducible refine ag (tM _ _ _ [a,b] _ ?_ ?_) ?_);(refine HLS.zo _ _ ae ?_ ?_<;>(simp[go_sem];done));rw[F3.zo,dG,EI.zo,CD.zo];omega;rw[F3.zo];rintro e W3 ⟨so3,sc3,rfl,hx3,ho3⟩;(obtain⟨B,e1,e2,e3,e4,e5⟩:∃B:World,af w B/\Sl stripL B so1 (cP a).length sc1 (cP a)/\Sl stripL B so2 (cP b).length sc2 (cP b)/\af B W3/\aq qP B.heap.size 389 W3 (.slice so3 (cP (a++b)).length sc3) (cP (a++b)):=⟨_,ae,lv.zo.exts ae,jY.zo.exts ae,hx3,ho3⟩);(have E1:=aa e1);(have E2:=aa e2);(have E3:=aa e3);(have E4:=aa e4);(have E5:=aa e5);clear hx3 ho3 e1 e2 e3 e4 e5))
   have hsl:=pA (a++b);rw[dG,EI.zo,CD.zo]at hsl;have hsa:=pA a;rw[EI.zo]at hsa;have hsb:=pA b;rw[CD.zo]at hsb;obtain⟨S,hS⟩:∃S,cP (a++b)=S:=⟨_,rfl⟩;rw[hS]at E5 HF hsl ⊢;have HSE:=aa hS;clear hS;go_loopw [33] (fun i wr=> ∃(k:Nat),k<=S.length/\i=.int .i64 k/\af B wr/\aq qP B.heap.size 389 wr (.slice so3 S.length sc3) (upTo (lx a b) S k)) (fun i _=>S.length - (intOf i).toNat)
   case atStart=>exact⟨0,by omega,rfl,E4.zo,by unfold upTo;rw[List.take_zero,List.drop_zero];exact E5.zo⟩
   case round=>
    obtain⟨k,hk,rfl,hx,ho⟩:=hrel;have HX:=aa hx;have HO:=aa ho;by_cases hlt:k<S.length
    ·obtain⟨d,hd⟩:∃d,S[k]?=some d:=⟨_,fZ hlt⟩
     have hdu:=VG (f:=lx a b) hd;have XX:=aa (Np (f:=lx a b) hd);have HUL:=aa (QL (lx a b) S k);obtain⟨g,rfl,hg,hgl,hgc⟩:∃g,so3=some ⟨g,0,none⟩/\B.heap.size<=g/\g<wr.heap.size/\S.length<=sc3:=by
      obtain⟨xs,h1,_⟩:=HO.zo;rw[HUL.zo]at h1;rcases gq h1 with⟨h0,_⟩|h0
      ·omega
      ·exact h0
     obtain⟨b1,off1,cs1,e1,lb,hR,hld⟩:=(HO.zo.strips HUL.zo).ld hdu;obtain⟨bb,ob,do',dc,e2,_,k0,k1,k2,i1,i2,_⟩:=nS (HO.zo.strips HUL.zo) hdu;simp only[Option.some.injEq,Addr.mk.injEq,and_true]at e1 e2;obtain⟨rfl,rfl⟩:=e1;obtain⟨rfl,rfl⟩:=e2;rw[Nat.zero_add]at k0 k1 k2;simp only[Nat.zero_add]at hld;have fz:∀j,wr.frozen? ⟨g,j,none⟩=false:=by
      obtain⟨xs,h1,_⟩:=HO.zo;rw[HUL.zo]at h1;exact fun j=>h1.frozenAt j
     obtain⟨o9,c9,rfl,_⟩:=hR;have HI:=aa (show I64 d.x0/\I64 d.x1 from⟨i1,i2⟩);have Zq:=aa hdu;have UD:=aa (show(gV (cP a) d.x0).length+(gV (cP b) d.x0).length<=2000 by have h1:=tP (l:=a) (x:=d.x0);have h2:=tP (l:=b) (x:=d.x0);rw[EI.zo]at h1;rw[CD.zo]at h2;omega);clear hd hdu hx ho i1 i2;go_wp2;refine bI ?_;intro W5 Kf;have HE5:=aa (show af wr W5 by rw[Kf];exact ae);have b0:W5.cell? ⟨wr.heap.size,0,none⟩=some (.int .i64 d.x0):=by rw[Kf];simp[go_sem]
     have g0:W5.cell? ⟨g,k*3+2,none⟩=some (.slice do' d.column.length dc):=af.cell HE5.zo k2;have f0:W5.frozen? ⟨g,k*3+2,none⟩=false:=by rw[Kf];simp[go_sem,hgl,fz]
     have JJ:=bP b0;have lg0:=bP g0;have ahC: ¬wr.heap.size=g:=by omega
     have HEB:=aa (HX.zo.trans HE5.zo);clear Kf k0 k1 k2 fz hld;go_region_held3 (fun w'=>w'.cell? ⟨wr.heap.size,0,none⟩=some (.int .i64 d.x0)) (first|assumption|(simp[go_sem, *];done)) ((first|((with_reducible refine ag (XW so1 _ sc1 (cP a) d.x0 _ ?_ (by omega)) ?_);exact E2.zo.exts (HEB.zo.trans ae);rintro e w' ⟨o1,c1,rfl,⟨z1,rfl⟩,hs1⟩;(try simp only[bf,au]at hs1);(have xM:=aa hs1);clear hs1)|((with_reducible refine ag (XW so2 _ sc2 (cP b) d.x0 _ ?_ (by omega)) ?_);exact E3.zo.exts (HEB.zo.trans ae);rintro e w' ⟨o2,c2,rfl,⟨z2,rfl⟩,hs2⟩;(try simp only[bf,au]at hs2);(have HS2:=aa hs2);clear hs2)|((with_reducible refine ag (QK o1 o2 _ c1 _ c2 (gV (cP a) d.x0) (gV (cP b) d.x0) _ ?_ ?_ UD.zo) ?_);exact xM.zo.exts ae;exact HS2.zo.exts ae;rintro e w' ⟨o3,c3,rfl,⟨z3,rfl⟩,hs3⟩;(try simp only[bf,au]at hs3);(have HS3:=aa hs3);clear hs3)))
     have HST:=aa (show aq qP B.heap.size 389 (av (W5.setCell ⟨g,k*3+2,none⟩ (.slice o3 (mergeD (gV (cP a) d.x0) (gV (cP b) d.x0)).length c3)) ((z1.and z2).and z3)) (.slice (some ⟨g,0,none⟩) S.length sc3) (upTo (lx a b) S (k+1))by
      have q:=aq.stored yE (u:=.slice o3 (mergeD (gV (cP a) d.x0) (gV (cP b) d.x0)).length c3) (d':=lx a b d) (j:=2) (HO.zo.exts (HE5.zo.trans (⟨_,rfl⟩:af W5 (av W5 ((z1.and z2).and z3))))) HUL.zo Zq.zo (by decide) (fun cs hR=>by
       obtain⟨o,c,rfl,q0,q1,_,_⟩:=hR;exact⟨o3,c3,rfl,q0,q1,HS3.zo.sl rfl,by obtain⟨xs,q,_⟩:=HS3.zo;exact fk.ku q⟩)
      rw[qE _ _ _ _ _ lg0,XX.zo]at q;exact q)
     go_wp2;refine⟨⟨k+1,by omega,by go_num,af.trans (jx HEB.zo hg _ _) ae,HST.zo.exts ae⟩,?_⟩;simp[intOf];omega
    ·obtain rfl:S.length=k:=by omega
     have HU:=aa (show upTo (lx a b) S S.length=S.map (lx a b)by unfold upTo;rw[dQ (Nat.le_refl _),List.drop_of_length_le (Nat.le_refl _),List.append_nil]);have HML:=aa (show(S.map (lx a b)).length=S.length from List.length_map _);rw[HU.zo]at HO;have HCB:=aa (show∀(i:Nat)(s:Strip),(S.map (lx a b))[i]?=some s->s.column.length<=800 from fun i s hs=>by
      rw[List.getElem?_map]at hs;obtain⟨s0,_,rfl⟩:=Option.map_eq_some_iff.1 hs;have h1:=tP (l:=a) (x:=s0.x0);have h2:=tP (l:=b) (x:=s0.x0);have h3:=Nn (gV (cP a) s0.x0) (gV (cP b) s0.x0);rw[EI.zo]at h1;rw[CD.zo]at h2;show(mergeD _ _).length<=800;omega)
     have JK:=aa (E1.zo.trans HX.zo);clear hx ho;go_wp2_with (first|((with_reducible refine ag (Hj _ _ _ (S.map (lx a b)) 0 _ ?_ (by omega) HCB.zo) ?_);exact(HO.zo.exts ae).strips HML.zo;rintro e W2 ⟨wo,wc,rfl,hx2,ho2⟩;(have gm:=aa (af.trans (JK.zo.trans ae) hx2:af w W2));(have jY:=aa (ho2.sl rfl));clear hx2 ho2)|((with_reducible refine ag (yH _ _ _ (writeAll (S.map (lx a b))) _ ?_) ?_);exact jY.zo.exts ae;rw[HF.zo];rintro e W3 ⟨lo,lc,rfl,hx3,ho3⟩;(have iU:=aa (af.trans (gm.zo.trans ae) hx3:af w W3));(have my:=aa ho3);clear hx3 ho3))
     go_ret2;exact⟨_,_,rfl,iU.zo.trans ae,my.zo.exts ae⟩
theorem Nq(ao bo:Option Addr)(n c m cc:Nat)(a b:List Rc)(w:World)(h:Sl je w ao n c a)(h2:Sl je w bo m cc b):Calls prog 152 #[.slice ao n c,.slice bo m cc] w (QC (pB a b) w):=by
 have HA:=aa h;have HB:=aa h2;obtain⟨res,hres⟩:∃r,pB a b=r:=⟨_,rfl⟩;have aD:=aa hres;rw[hres];clear h h2 hres;go_enter func152,ntmps152;go_wp2_with ((with_reducible refine ag (Ke _ _ _ _ _ _ a b _ ?_ ?_) ?_);exact HA.zo.exts ae;exact HB.zo.exts ae;rw[aD.zo];rintro e w' ⟨lo,lc,rfl,hx1,ho1⟩;(have jZ:=aa (af.trans ae hx1:af w w'));(have lv:=aa ho1);clear hx1 ho1)
 go_ret2;exact⟨_,_,rfl,jZ.zo.trans ae,lv.zo.exts ae⟩
def AY(l:List Rc):Int:=(l.map fO).foldl (· + ·) 0
theorem DM{l:List Rc}{k:Nat}{d:Rc}(h:l[k]?=some d):AY (l.take (k+1))=AY (l.take k)+fO d:=by
 unfold AY;rw[List.take_add_one,h,Option.toList_some,List.map_append,List.foldl_append];rfl
theorem EJ(l:List Rc):∀k,0<=AY (l.take k)/\AY (l.take k)<=k*1099511627776
 |0=>by simp[AY]
 |k+1=>by
  have ih:=EJ l k;rcases Nat.lt_or_ge k l.length with h|h
  ·rw[DM (fZ h)]
   have:=nT l[k];omega
  ·rw[dQ (by omega)]
   rw[dQ h]at ih;omega
def nd(l:List Rc):Int:=if ew l=true then AY l else 0
theorem LR(ao:Option Addr)(n c:Nat)(l:List Rc)(w:World)(h:Sl je w ao n c l):Calls prog 153 #[.slice ao n c] w (cX (.int .i64 (nd l)) w):=by
 have H:=aa h;have HL:=aa h.1;obtain⟨p,hp⟩:∃p,ew l=p:=⟨_,rfl⟩;have HP:=aa hp;obtain⟨res,hres⟩:∃r,nd l=r:=⟨_,rfl⟩;have aD:=aa hres;rw[hres];clear h hp hres;cases p with
 |false=>
  have HF:=aa (show res=0 by rw[<-aD.zo];unfold nd;rw[HP.zo];rfl);go_enter func153,ntmps153;go_wp2_with ((with_reducible refine ag (ep HP.zo _ _ _ _ ?_) ?_);exact H.zo.exts ae;rintro e w' ⟨rfl,x7,rfl⟩)
  go_ret;rw[HF.zo];exact⟨rfl,ae⟩
 |true=>
  have HF:=aa (show res=AY l by rw[<-aD.zo];unfold nd;rw[HP.zo];rfl);have hn:=tO HP.zo;rw[HL.zo]at hn;go_enter func153,ntmps153;go_wp2_with ((with_reducible refine ag (ep HP.zo _ _ _ _ ?_) ?_);exact H.zo.exts ae;rintro e w' ⟨rfl,x7,rfl⟩)
  go_loopw [3,11] (fun s i wr=> ∃(k:Nat),k<=n/\i=.int .i64 k/\s=.int .i64 (AY (l.take k))/\af w wr) (fun _ i _=>n - (intOf i).toNat)
  case atStart=>exact⟨0,by omega,rfl,rfl,ae⟩
  case round=>
   obtain⟨k,hk,rfl,rfl,⟨y,rfl⟩⟩:=hrel;obtain⟨s0,s1⟩:=EJ l k;by_cases hlt:k<n
   ·obtain⟨d,hd⟩:=H.zo.ex hlt
    obtain⟨b,off,cs,rfl,lb,hR,hld⟩:=H.zo.ld hd;obtain⟨rfl,_⟩:=hR;have HS:=aa (DM hd);obtain⟨a0,a1⟩:=nT d;have hkk:(k:Int)*1099511627776<=200*1099511627776:=by omega
    obtain⟨s,hs⟩:∃s,AY (l.take k)=s:=⟨_,rfl⟩;obtain⟨ar,har⟩:∃s,fO d=s:=⟨_,rfl⟩;have MV:=aa har;rw[hs,har]at HS;rw[hs]at s0 s1 ⊢;rw[har]at a0 a1;clear hd hs har;go_wp2_with ((with_reducible refine ag (tG d _) ?_);rw[MV.zo];rintro e w' ⟨rfl,x9,rfl⟩)
    refine⟨⟨k+1,by omega,by go_num,by rw[HS.zo],ae⟩,?_⟩;simp[intOf];omega
   ·obtain rfl:n=k:=by omega
    have e1:l.take n=l:=dQ (by rw[HL.zo];exact Nat.le_refl _);have HF2:=aa (show AY (l.take n)=res by rw[HF.zo,e1]);rw[HF2.zo]at s0 s1 ⊢;clear e1;go_wp2;go_ret;exact⟨rfl,ae⟩
def iA(l:List Rc):Rc×Bool:=if l.length=0∨ew l=false then(EC,false)else AV l
theorem QM(ao:Option Addr)(n c:Nat)(l:List Rc)(w:World)(h:Sl je w ao n c l):Calls prog 79 #[.slice ao n c] w (cX (.tuple #[.agg #[.int .i64 (iA l).1.x0,.int .i64 (iA l).1.y0,.int .i64 (iA l).1.x1,.int .i64 (iA l).1.y1],.bool (iA l).2]) w):=by
 have H:=aa h;have HL:=aa h.1;obtain⟨p,hp⟩:∃p,ew l=p:=⟨_,rfl⟩;have HP:=aa hp;obtain⟨⟨r,t⟩,hres⟩:∃r,iA l=r:=⟨_,rfl⟩;have aD:=aa hres;rw[hres];clear h hp hres;by_cases h0:n=0
 ·have HF:=aa (show(r,t)=(EC,false)by rw[<-aD.zo];unfold iA;rw[if_pos (Or.inl (by rw[HL.zo];exact h0))])
  obtain⟨rfl,rfl⟩:r=EC/\t=false:=by simpa using HF.zo
  have q:((n:Int)==0)=true:=by rw[h0];rfl
  subst h0;go_enter func79,ntmps79;go_wp2;refine bodyPost_ret (by simp[results,go_sem];rfl) rfl ?_;exact⟨rfl,ae⟩
 ·have q:((n:Int)==0)=false:=by rw[beq_eq_false_iff_ne];omega
  cases p with
  |false=>
   have HF:=aa (show(r,t)=(EC,false)by rw[<-aD.zo];unfold iA;rw[if_pos (Or.inr HP.zo)]);obtain⟨rfl,rfl⟩:r=EC/\t=false:=by simpa using HF.zo
   go_enter func79,ntmps79;go_wp2_with ((with_reducible refine ag (ep HP.zo _ _ _ _ ?_) ?_);exact H.zo.exts ae;rintro e w' ⟨rfl,x7,rfl⟩)
   refine bodyPost_ret (by simp[results,go_sem];rfl) rfl ?_;exact⟨rfl,ae⟩
  |true=>
   have HF:=aa (show AV l=(r,t)by rw[<-aD.zo];unfold iA;rw[if_neg (by rw[HP.zo,HL.zo];simp[h0])]);go_enter func79,ntmps79;go_wp2_with (first|((with_reducible refine ag (ep HP.zo _ _ _ _ ?_) ?_);exact H.zo.exts ae;rintro e w' ⟨rfl,x7,rfl⟩)|((with_reducible refine ag (Nh _ _ _ l _ ?_) ?_);exact H.zo.exts ae;rw[HF.zo];rintro e w' ⟨rfl,x8,rfl⟩))
   refine bodyPost_ret (by simp[results,go_sem];rfl) rfl ?_;exact⟨rfl,ae⟩
def sumF{T:Type}(f:T->Int)(l:List T):Int:=(l.map f).foldl (· + ·) 0
theorem nV{T:Type}(f:T->Int){l:List T}{k:Nat}{d:T}(h:l[k]?=some d):sumF f (l.take (k+1))=sumF f (l.take k)+f d:=by
 unfold sumF;rw[List.take_add_one,h,Option.toList_some,List.map_append,List.foldl_append];rfl
theorem tQ{T:Type}(f:T->Int)(M:Int)(hM:0<=M)(hf:∀x,0<=f x/\f x<=M)(l:List T):∀k:Nat,0<=sumF f (l.take k)/\sumF f (l.take k)<=(k:Int)*M
 |0=>by simp[sumF]
 |k+1=>by
  have ih:=tQ f M hM hf l k;have e:((k+1:Nat):Int)*M=(k:Int)*M+M:=by rw[Int.natCast_add,Int.add_mul];simp
  rw[e];rcases Nat.lt_or_ge k l.length with h|h
  ·rw[nV f (fZ h)]
   have:=hf l[k];omega
  ·rw[dQ (by omega)]
   rw[dQ h]at ih;omega
def ei(a b:Rc):Int:=if(JT a b).2=true then fO (JT a b).1 else 0
theorem sr(a b:Rc):0<=ei a b/\ei a b<=1099511627776:=by
 unfold ei;split
 ·exact nT _
 ·omega
def l8(b:List Rc)(x:Rc):Int:=sumF (ei x) b
theorem AZ(b:List Rc)(h:b.length<=200)(x:Rc):0<=l8 b x/\l8 b x<=219902325555200:=by
 have:=tQ (ei x) 1099511627776 (by omega) (sr x) b b.length;rw[dQ (Nat.le_refl _)]at this;unfold l8;omega
def tR(a b:List Rc):Int:=sumF (l8 b) a
theorem Nr(ao bo:Option Addr)(n c m cc:Nat)(a b:List Rc)(w:World)(h:Sl je w ao n c a)(h2:Sl je w bo m cc b)(hn:n<=200)(hm:m<=200):Calls prog 239 #[.slice ao n c,.slice bo m cc] w fun e w'=>(∃px py:Int,e=.returned (.tuple #[.int .i64 (tR a b),.agg #[.int .i64 px,.int .i64 py]]))/\af w w':=by
 have HA:=aa h;have HB:=aa h2;have EI:=aa h.1;have CD:=aa h2.1;have Pz:=aa (AZ b (by rw[h2.1];exact hm));clear h h2;go_enter func239,ntmps239;go_wp2;go_loopw [6,18] (fun s i wr=> ∃(k:Nat)(px py:Int),k<=n/\i=.int .i64 k/\s=.int .i64 (sumF (l8 b) (a.take k))/\af ((w.alloc (.cells #[.int .i64 0,.int .i64 0] 167)).alloc (.cells #[.int .i64 px,.int .i64 py] 167)) wr) (fun _ i _=>n - (intOf i).toNat)
 case atStart=>exact⟨0,1048576,0,by omega,rfl,rfl,af.refl _⟩
 case round=>
  obtain⟨k,px,py,hk,rfl,rfl,⟨y,rfl⟩⟩:=hrel;have hs:=tQ (l8 b) 219902325555200 (by omega) Pz.zo a k;by_cases hlt:k<n
  ·obtain⟨x,hx⟩:=HA.zo.ex hlt
   obtain⟨ba,ahD,cs,rfl,lba,hR,ahE⟩:=HA.zo.ld hx;obtain⟨rfl,_⟩:=hR;have HS:=aa (nV (l8 b) hx);have hkb:(k:Int)*219902325555200<=43980465111040000:=by omega
   obtain⟨N,hN⟩:∃N,sumF (l8 b) (a.take k)=N:=⟨_,rfl⟩;rw[hN]at hs HS ⊢;clear hx hN;go_wp2;go_loopw [6,24] (fun s i w2=> ∃(j:Nat)(px py:Int),j<=m/\i=.int .i64 j/\s=.int .i64 (N+sumF (ei x) (b.take j))/\af ((av ((w.alloc (.cells #[.int .i64 0,.int .i64 0] 167)).alloc (.cells #[.int .i64 px,.int .i64 py] 167)) y).alloc (.cells #[.int .i64 x.x0,.int .i64 x.y0,.int .i64 x.x1,.int .i64 x.y1] 74)) w2) (fun _ i _=>m - (intOf i).toNat)
   case atStart=>exact⟨0,px,py,by omega,rfl,by simp[sumF],af.refl _⟩
   case round=>
    obtain⟨j,px,py,hj,rfl,rfl,⟨z,rfl⟩⟩:=hrel;have hs2:=tQ (ei x) 1099511627776 (by omega) (sr x) b j;by_cases hlj:j<m
    ·obtain⟨v,hv⟩:=HB.zo.ex hlj
     obtain⟨bb,aeT,cs,rfl,lbb,hR,QO⟩:=HB.zo.ld hv;obtain⟨rfl,_⟩:=hR;have hld:∀w',af ((av ((w.alloc (.cells #[.int .i64 0,.int .i64 0] 167)).alloc (.cells #[.int .i64 px,.int .i64 py] 167)) y).alloc (.cells #[.int .i64 x.x0,.int .i64 x.y0,.int .i64 x.x1,.int .i64 x.y1] 74)) w'->_:=fun w' he=>QO w' (af.trans ae he)
     have HS2:=aa (nV (ei x) hv);have hjb:(j:Int)*1099511627776<=219902325555200:=by omega
     obtain⟨M,hM⟩:∃M,sumF (ei x) (b.take j)=M:=⟨_,rfl⟩;rw[hM]at hs2 HS2 ⊢;obtain⟨⟨r,t⟩,QP⟩:∃q,JT x v=q:=⟨_,rfl⟩;have HRI:=aa QP;have mr:=aa (show ei x v=if t=true then fO r else 0 by unfold ei;rw[QP]);clear hv hM QP QO;cases t with
     |false=>
      have HE:=aa (show N+sumF (ei x) (b.take (j+1))=N+M by rw[HS2.zo,mr.zo];simp);go_wp2_with ((with_reducible refine ag (lU x v _) ?_);rw[HRI.zo];rintro e w' ⟨rfl,x9,rfl⟩)
      refine⟨⟨j+1,px,py,by omega,by go_num,by rw[HE.zo],ae⟩,?_⟩;simp[intOf];omega
     |true=>
      have hra:=nT r;obtain⟨A,hA⟩:∃A,fO r=A:=⟨_,rfl⟩;rw[hA]at hra;have HA':=aa hA;have HE:=aa (show N+sumF (ei x) (b.take (j+1))=N+M+A by rw[HS2.zo,mr.zo,<-hA];simp;omega);clear hA;go_wp2_with (first|((with_reducible refine ag (lU x v _) ?_);rw[HRI.zo];rintro e w' ⟨rfl,x9,rfl⟩)|((with_reducible refine ag (tG r _) ?_);rw[HA'.zo];rintro e w' ⟨rfl,x8,rfl⟩))
      obtain⟨p1,hp1⟩:∃p,Lib.compareInt r.x0 px=p:=⟨_,rfl⟩;obtain⟨q1,hq1⟩:∃q,Lib.compareInt r.y0 py=q:=⟨_,rfl⟩;have HP:=aa hp1;have HQ:=aa hq1;have IP:=aa (show I64 p1 by rw[<-hp1];exact EK _ _);have IQ:=aa (show I64 q1 by rw[<-hq1];exact EK _ _);obtain⟨f,hf⟩:∃r,(if p1=0 then q1 else p1)=r:=⟨_,rfl⟩;have JL:=aa hf;clear hp1 hq1 hf;refine bI ?_;intro W3 hW3;have HW:=aa hW3;have T0:∀w',af W3 w'->w'.cell? ⟨w.heap.size+1+1+y.bs.size+1+z.bs.size+1+x9.bs.size+1+x8.bs.size,0,none⟩=some (.int .i64 r.x0):=pL (af.refl W3) (by rw[hW3];simp[go_sem]);have T1:∀w',af W3 w'->w'.cell? ⟨w.heap.size+1+1+y.bs.size+1+z.bs.size+1+x9.bs.size+1+x8.bs.size,1,none⟩=some (.int .i64 r.y0):=pL (af.refl W3) (by rw[hW3];simp[go_sem]);have U0:∀w',af W3 w'->w'.cell? ⟨w.heap.size+1,0,none⟩=some (.int .i64 px):=pL (af.refl W3) (by rw[hW3];simp[go_sem]);have U1:∀w',af W3 w'->w'.cell? ⟨w.heap.size+1,1,none⟩=some (.int .i64 py):=pL (af.refl W3) (by rw[hW3];simp[go_sem]);clear hW3;go_region_held3 (fun w'=>af W3 w') (first|assumption|exact(af.refl _).drew|exact ae) ((first|(go_at_call 249;(with_reducible refine(Tryz.cmp_Compare_int r.x0 px _).mono ?_);rintro e w' ⟨rfl,rfl⟩;rw[HP.zo])|(go_at_call 249;(with_reducible refine(Tryz.cmp_Compare_int r.y0 py _).mono ?_);rintro e w' ⟨rfl,rfl⟩;rw[HQ.zo])|(go_at_call 295;refine(XY p1 q1 _ _ (QN IP.zo IQ.zo (by simp[go_sem]) (by simp[go_sem]))).mono ?_;rintro e w' ⟨rfl,x3,rfl⟩;rw[JL.zo])))
      all_goals(
       have HW2:=HW.zo;subst HW2;clear T0 T1 U0 U1;cases q:decide (f<0)with
       |false=>
        go_wp2;refine⟨⟨j+1,px,py,by omega,by go_num,by rw[HE.zo],ae⟩,?_⟩;simp[intOf];omega
       |true=>
        go_wp2;refine⟨⟨j+1,r.x0,r.y0,by omega,by go_num,by rw[HE.zo],ae⟩,?_⟩;simp[intOf];omega)
    ·obtain rfl:m=j:=by omega
     have HE:=aa (show N+sumF (ei x) (b.take m)=sumF (l8 b) (a.take (k+1))by rw[HS.zo,dQ (by rw[CD.zo];exact Nat.le_refl _)];rfl);rw[HE.zo];go_wp2;refine⟨⟨k+1,px,py,by omega,by go_num,rfl,ae⟩,?_⟩;simp[intOf];omega
  ·obtain rfl:n=k:=by omega
   have HE:=aa (show sumF (l8 b) (a.take n)=tR a b by rw[dQ (by rw[EI.zo];exact Nat.le_refl _)];rfl);rw[HE.zo]at hs ⊢;go_wp2;go_region;go_wp2;refine bodyPost_ret (v:=.tuple #[.int .i64 (tR a b),.agg #[.int .i64 px,.int .i64 py]]) (by simp[results,go_sem]) rfl ?_;exact⟨⟨px,py,rfl⟩,ae⟩
theorem wD(v:gR)(q:Bool)(hq:ew [v.base]=q)(h0:0<=v.z0)(h1:v.z0<v.z1)(h2:v.z1<=4096)(ao:Option Addr)(c:Nat)(w:World)(h:Sl Pr w ao 1 c [j8 v]):Calls prog 86 #[.slice ao 1 c] w (cX (.bool q) w):=by
 obtain⟨b,off,cs,rfl,lb,hR,hld⟩:=h.ld (i:=0) rfl;obtain⟨so,sc,rfl,_,_,hs⟩:=hR;have HS:=aa (show Sl je w so 1 sc [v.base]from hs);have HQ:=aa hq;simp only[Nat.zero_mul,Nat.add_zero]at hld;simp only[j8,List.length_cons,List.length_nil,Nat.zero_add]at hld;clear h hs hq;go_enter func86,ntmps86;cases q<;>(
  go_wp2_with (first|(refine wp_loop_rounds 6 ?_;rw[rounds_succ])|(rw[rounds_succ])|((with_reducible refine ag (ep HQ.zo so 1 sc _ (HS.zo.exts ae)) ?_);rintro e w' ⟨rfl,x7,rfl⟩))
  go_ret;exact⟨rfl,ae⟩)
def qU(b:Rc)(p:Dv)(v:gR):Bool:=AA b [p]&&(ew [v.base]&& !decide (CT b p v.base<v.z1))
theorem xP:Enters 175:=fun a w=>by rfl
theorem wE:Enters 89:=fun a w=>by rfl
theorem acL(b:Rc)(p:Dv)(v:gR)(hb:kt b=true)(hp:Az p=true)(hr:kt v.base=true)(b1 b2:Nat)(po:Option Addr)(pc:Nat)(cs:zv)(w:World)(h:(Pr).R w cs (j8 v))(hp2:Sl um w po 1 pc [p])(hb1:∀j u,[Value.int .i64 b.x0,.int .i64 b.y0,.int .i64 b.x1,.int .i64 b.y1][j]?=some u->w.cell? ⟨b1,j,none⟩=some u)(hb2:w.cell? ⟨b2,0,none⟩=some (.slice po 1 pc)):Calls prog 175 (#[.agg cs.toArray]++ #[.pointer (some ⟨b1,0,none⟩),.pointer (some ⟨b2,0,none⟩)]) w (cX (.bool (decide (CT b p v.base<v.z1))) w):=by
 obtain⟨so,sc,rfl,_,_,hs⟩:=h;have HS:=aa (show Sl je w so 1 sc [v.base]from hs);have HPP:=aa hp2;have lb1:=bP (hb1 0 _ rfl);have Uz:=bP hb2;have hld:∀w',af w w'->(jf 74 ⟨b1,0,none⟩).run prog w'=.ok (.agg #[.int .i64 b.x0,.int .i64 b.y0,.int .i64 b.x1,.int .i64 b.y1]) w':=fun w' he=>pg (cs:= [.int .i64 b.x0,.int .i64 b.y0,.int .i64 b.x1,.int .i64 b.y1]) rfl fun j u hu=>by rw[Nat.zero_add];exact af.cell he (hb1 j u hu)
 have UE:=aa (fun(w':World)(he:af w w')=>NA b p v.base po so pc sc hb hp hr w' (hp2.exts he) (HS.zo.exts he));show Calls prog 175 #[.agg #[.int .i64 v.z0,.int .i64 v.z1,.slice so 1 sc],.pointer (some ⟨b1,0,none⟩),.pointer (some ⟨b2,0,none⟩)] w _;obtain⟨z,hz⟩:∃z,CT b p v.base=z:=⟨_,rfl⟩;rw[hz]at UE ⊢;clear hs hp2 hb1 hb hp hr hz;go_enter func175,ntmps175;go_wp2;first|refine eK ?_|refine eJ ?_
 repeat (go_big_quiet_step (((go_at_call 176;exact Calls.dJ (UE.zo _ ae)))))
 refine eM fun xq=> ?_
 go_wp2;go_ret;exact⟨rfl,ae⟩
theorem sw{w:World}{b:Nat}{u0 u1 u2 u3:Value}(h0:w.cell? ⟨b,0,none⟩=some u0)(h1:w.cell? ⟨b,1,none⟩=some u1)(h2:w.cell? ⟨b,2,none⟩=some u2)(h3:w.cell? ⟨b,3,none⟩=some u3):∀j u,[u0,u1,u2,u3][j]?=some u->w.cell? ⟨b,j,none⟩=some u:=fun j u hu=>by
 match j,hu with
 |0,hu=>(cases hu;exact h0)
 |1,hu=>(cases hu;exact h1)
 |2,hu=>(cases hu;exact h2)
 |3,hu=>(cases hu;exact h3)
theorem QY(b:Rc)(p:Dv)(v:gR)(hv:iE v=true)(po so:Option Addr)(pc sc:Nat)(w:World)(h:Sl um w po 1 pc [p])(hs:Sl Pr w so 1 sc [j8 v]):Calls prog 81 #[.agg #[.int .i64 b.x0,.int .i64 b.y0,.int .i64 b.x1,.int .i64 b.y1],.slice po 1 pc,.slice so 1 sc] w (cX (.bool (qU b p v)) w):=by
 obtain⟨hr,h0,h1,h2,_⟩:=mS hv;have HP:=aa h;have HS:=aa hs;obtain⟨t1,ht1⟩:∃t,AA b [p]=t:=⟨_,rfl⟩;obtain⟨t2,ht2⟩:∃t,ew [v.base]=t:=⟨_,rfl⟩;have HVB:=aa ht1;have zC:=aa ht2;obtain⟨res,hres⟩:∃r,qU b p v=r:=⟨_,rfl⟩;have HF:=aa (show res=(t1&&(t2&& !decide (CT b p v.base<v.z1)))by rw[<-hres,<-ht1,<-ht2];rfl);rw[hres];clear h hs ht1 ht2 hres hv;cases t1 with
 |false=>
  go_enter func81,ntmps81;go_wp2_with (first|((with_reducible refine ag (AB b _ _ _ [p] _ ?_) ?_);exact HP.zo.exts ae;rw[HVB.zo];rintro e w' ⟨rfl,x7,rfl⟩)|((with_reducible refine ag (wD v _ zC.zo h0 h1 h2 _ _ _ ?_) ?_);exact HS.zo.exts ae;rintro e w' ⟨rfl,x8,rfl⟩)|((with_reducible refine ag (kU 175 #[.pointer (some ⟨w.heap.size,0,none⟩),.pointer (some ⟨w.heap.size+1,0,none⟩)] (fun _=>decide (CT b p v.base<v.z1)) _ _ _ [j8 v] _ xP ?_ ?_) ?_);exact HS.zo.exts ae;exact(fun w' i d cs he hd hR=>UD.zo w' cs (af.trans ae he) (by match i,hd with|0,hd=>(cases hd;exact hR)) (fun j u hu=>af.cell he (sw (by simp[go_sem]) (by simp[go_sem]) (by simp[go_sem]) (by simp[go_sem]) j u hu)) (af.cell he (by simp[go_sem])));rw[HAN.zo];rintro e w' ⟨rfl,x9,rfl⟩))
  go_ret;rw[HF.zo];exact⟨rfl,ae⟩
 |true=>
 cases t2 with
 |false=>
  go_enter func81,ntmps81;go_wp2_with (first|((with_reducible refine ag (AB b _ _ _ [p] _ ?_) ?_);exact HP.zo.exts ae;rw[HVB.zo];rintro e w' ⟨rfl,x7,rfl⟩)|((with_reducible refine ag (wD v _ zC.zo h0 h1 h2 _ _ _ ?_) ?_);exact HS.zo.exts ae;rintro e w' ⟨rfl,x8,rfl⟩)|((with_reducible refine ag (kU 175 #[.pointer (some ⟨w.heap.size,0,none⟩),.pointer (some ⟨w.heap.size+1,0,none⟩)] (fun _=>decide (CT b p v.base<v.z1)) _ _ _ [j8 v] _ xP ?_ ?_) ?_);exact HS.zo.exts ae;exact(fun w' i d cs he hd hR=>UD.zo w' cs (af.trans ae he) (by match i,hd with|0,hd=>(cases hd;exact hR)) (fun j u hu=>af.cell he (sw (by simp[go_sem]) (by simp[go_sem]) (by simp[go_sem]) (by simp[go_sem]) j u hu)) (af.cell he (by simp[go_sem])));rw[HAN.zo];rintro e w' ⟨rfl,x9,rfl⟩))
  go_ret;rw[HF.zo];exact⟨rfl,ae⟩
 |true=>
  have hb:kt b=true/\Az p=true:=by
   have:=HVB.zo;simpa[AA]using this
  have UD:=aa (fun(w':World)(cs:zv)(he:af w w')(hR:(Pr).R w' cs (j8 v)) hb1 hb2=>acL b p v hb.1 hb.2 hr w.heap.size (w.heap.size+1) po pc cs w' hR (HP.zo.exts he) hb1 hb2);obtain⟨z,hz⟩:∃z,decide (CT b p v.base<v.z1)=z:=⟨_,rfl⟩;have HAN:=aa (show([j8 v].any fun _=>decide (CT b p v.base<v.z1))=z by rw[<-hz];simp);clear hb hr;rw[hz]at HF;clear hz;cases z<;>(
   go_enter func81,ntmps81;go_wp2_with (first|((with_reducible refine ag (AB b _ _ _ [p] _ ?_) ?_);exact HP.zo.exts ae;rw[HVB.zo];rintro e w' ⟨rfl,x7,rfl⟩)|((with_reducible refine ag (wD v _ zC.zo h0 h1 h2 _ _ _ ?_) ?_);exact HS.zo.exts ae;rintro e w' ⟨rfl,x8,rfl⟩)|((with_reducible refine ag (kU 175 #[.pointer (some ⟨w.heap.size,0,none⟩),.pointer (some ⟨w.heap.size+1,0,none⟩)] (fun _=>decide (CT b p v.base<v.z1)) _ _ _ [j8 v] _ xP ?_ ?_) ?_);exact HS.zo.exts ae;exact(fun w' i d cs he hd hR=>UD.zo w' cs (af.trans ae he) (by match i,hd with|0,hd=>(cases hd;exact hR)) (fun j u hu=>af.cell he (sw (by simp[go_sem]) (by simp[go_sem]) (by simp[go_sem]) (by simp[go_sem]) j u hu)) (af.cell he (by simp[go_sem])));rw[HAN.zo];rintro e w' ⟨rfl,x9,rfl⟩))
   go_ret;rw[HF.zo];exact⟨rfl,ae⟩)
theorem VN(s:jH)(r:Rule)(v:gR)(ur rcs vcs:zv)(w:World)(h:(jO).R w ur s)(hr:(aw).R w rcs r)(hv:(iD).R w vcs v):Calls prog 84 #[.agg ur.toArray,.agg rcs.toArray,.agg vcs.toArray] w (cX (.bool (s.cC.built.any (pQ s.d.lot v r.uses r.other r.n))) w):=by
 obtain⟨dK,dL,dp,dt,dA,dB,dC,dD,dM,dN,dE,dF,dW,dX,gW,gX,gJ,gK,gY,gZ,gL,gM,ic,ie,gA,gB,ig,ij,gC,gD,ng,nh,ly,lC,rfl,zD,zE,zF,zG,zH,zI,zJ,zK,A9,Ba,sx,rH,sA,rI,rJ,ql,rK,rL,rM,sB,rN⟩:=h;obtain⟨cN,cO,dY,dZ,ej,ek,rfl,Bb,Bc,Bd,Bf,Bg,Bh,Bi,zL,zM,zN,rO,rP,sD,sF,sG⟩:=hr;obtain⟨rfl,aeW,aeX,aeY,aeZ,ae0,ae1,ae2,ae3⟩:=hv;have HB:=aa rH;clear zD zE zF zG zH zI zJ zK A9 Ba sx rH sA rI rJ ql rK rL rM sB rN Bb Bc Bd Bf Bg Bh Bi zL zM zN rO rP sD sF sG aeW aeX aeY aeZ ae0 ae1 ae2 ae3;go_enter func84,ntmps84;go_wp2_with ((with_reducible refine ag (GX 178 #[.pointer (some ⟨w.heap.size,0,none⟩),.pointer (some ⟨w.heap.size+1+1,0,none⟩),.pointer (some ⟨w.heap.size+1,0,none⟩)] (pQ s.d.lot v r.uses r.other r.n) _ _ _ s.cC.built _ Nz ?_ ?_) ?_);exact HB.zo.exts ae;exact(fun w' i d cs he hd hR=>acI s.d.lot v r.uses r.other r.n d w.heap.size (w.heap.size+1+1) (w.heap.size+1) cs w' hR (af.cell he (by simp[go_sem])) (af.cell he (by simp[go_sem])) (fun w2 he2=>pg (cs:= [.int .i64 v.base.x0,.int .i64 v.base.y0,.int .i64 v.base.x1,.int .i64 v.base.y1]) rfl (fun j u hu=>af.cell (af.trans he he2) (by rw[Nat.zero_add];exact sw (by simp[go_sem]) (by simp[go_sem]) (by simp[go_sem]) (by simp[go_sem]) j u hu))) (af.cell he (by simp[go_sem])) (af.cell he (by simp[go_sem])) (af.cell he (by simp[go_sem])));rintro e w' ⟨rfl,x7,rfl⟩)
 go_ret;exact⟨rfl,ae⟩
theorem QZ:Enters 83:=fun a w=>by rfl
theorem Ra:Enters 82:=fun a w=>by rfl
theorem Rb:Enters 80:=fun a w=>by rfl
theorem Re:Enters 28:=fun a w=>by rfl
theorem ae4(s:jH)(r:Rule)(v:gR)(bS bR:Nat)(cs ur rcs:zv)(w:World)(hR:(iD).R w cs v)(hS:(jO).R w ur s)(hr:(aw).R w rcs r)(hS0:bS<w.heap.size)(hr0:bR<w.heap.size)
 (hlS:∀w',af w w'->(jf 88 ⟨bS,0,none⟩).run prog w'=.ok (.agg ur.toArray) w') (hlR:∀w',af w w'->(jf 52 ⟨bR,0,none⟩).run prog w'=.ok (.agg rcs.toArray) w'):
 Calls prog 83 (#[.agg cs.toArray]++ #[.pointer (some ⟨bS,0,none⟩),.pointer (some ⟨bR,0,none⟩)]) w (cX (.bool (s.cC.built.any (pQ s.d.lot v r.uses r.other r.n))) w):=by
 have HR:=aa hR;have HS:=aa hS;have Hr:=aa hr;obtain⟨rfl,_⟩:=hR;clear hS hr;show Calls prog 83 #[.agg #[.int .i64 v.base.x0,.int .i64 v.base.y0,.int .i64 v.base.x1,.int .i64 v.base.y1,.int .i64 v.z0,.int .i64 v.z1,.int .i64 v.use,.int .i64 v.units,.bool v.extra],.pointer (some ⟨bS,0,none⟩),.pointer (some ⟨bR,0,none⟩)] w _;obtain⟨res,hres⟩:∃x,s.cC.built.any (pQ s.d.lot v r.uses r.other r.n)=x:=⟨_,rfl⟩;have aD:=aa hres;rw[hres];clear hres;go_enter func83,ntmps83;go_wp2_with ((with_reducible refine ag (VN s r v ur rcs _ _ ?_ ?_ ?_) ?_);exact(jO).exts HS.zo ae;exact(aw).exts Hr.zo ae;exact(iD).exts HR.zo ae;rw[aD.zo];rintro e w' ⟨rfl,x7,rfl⟩)
 go_ret;exact⟨rfl,ae⟩
def LU(uses u:Int):Bool:=bits BinOp.and .i64 uses (if u=0 then 1 else if u=1 then 2 else if u=2 then 4 else if u=3 then 8 else if u=4 then 16 else 32)==0
theorem ae6(uses:Int)(v:gR)(hv:iE v=true)(bR:Nat)(cs:zv)(w:World)(hR:(iD).R w cs v)(c17:w.cell? ⟨bR,17,none⟩=some (.int .i64 uses)):
 Calls prog 82 (#[.agg cs.toArray]++ #[.pointer (some ⟨bR,0,none⟩)]) w (cX (.bool (LU uses v.use)) w):=by
 obtain⟨rfl,_⟩:=hR;have lR:=bP c17;have hu:=mS hv;obtain⟨vb,z0,z1,us,un,ex⟩:=v;have hus:us=0∨us=1∨us=2∨us=3∨us=4∨us=5:=by
  dsimp only at hu;omega
 clear hv hu;dsimp only at*
 show Calls prog 82 #[.agg #[.int .i64 vb.x0,.int .i64 vb.y0,.int .i64 vb.x1,.int .i64 vb.y1,.int .i64 z0,.int .i64 z1,.int .i64 us,.int .i64 un,.bool ex],.pointer (some ⟨bR,0,none⟩)] w _;rcases hus with rfl|rfl|rfl|rfl|rfl|rfl
 ·go_enter func82,ntmps82
  go_wp2;refine bI ?_;intro W0 hW0;have HW0:=aa (show af w W0 by rw[hW0];exact ae);have d0:=af.cell HW0.zo c17;have d1:W0.cell? ⟨w.heap.size,6,none⟩=some (.int .i64 0):=by rw[hW0];simp[go_sem]
  have e0:=bP d0;have e1:=bP d1;clear hW0 c17 lR;first|refine eK ?_|refine eJ ?_
  repeat (go_big_quiet_step (fail))
  refine eM fun xq=> ?_
  go_wp2;go_ret;exact⟨rfl,HW0.zo.trans ae⟩
 ·go_enter func82,ntmps82
  go_wp2;refine bI ?_;intro W0 hW0;have HW0:=aa (show af w W0 by rw[hW0];exact ae);have d0:=af.cell HW0.zo c17;have d1:W0.cell? ⟨w.heap.size,6,none⟩=some (.int .i64 1):=by rw[hW0];simp[go_sem]
  have e0:=bP d0;have e1:=bP d1;clear hW0 c17 lR;first|refine eK ?_|refine eJ ?_
  repeat (go_big_quiet_step (fail))
  refine eM fun xq=> ?_
  go_wp2;go_ret;exact⟨rfl,HW0.zo.trans ae⟩
 ·go_enter func82,ntmps82
  go_wp2;refine bI ?_;intro W0 hW0;have HW0:=aa (show af w W0 by rw[hW0];exact ae);have d0:=af.cell HW0.zo c17;have d1:W0.cell? ⟨w.heap.size,6,none⟩=some (.int .i64 2):=by rw[hW0];simp[go_sem]
  have e0:=bP d0;have e1:=bP d1;clear hW0 c17 lR;first|refine eK ?_|refine eJ ?_
  repeat (go_big_quiet_step (fail))
  refine eM fun xq=> ?_
  go_wp2;go_ret;exact⟨rfl,HW0.zo.trans ae⟩
 ·go_enter func82,ntmps82
  go_wp2;refine bI ?_;intro W0 hW0;have HW0:=aa (show af w W0 by rw[hW0];exact ae);have d0:=af.cell HW0.zo c17;have d1:W0.cell? ⟨w.heap.size,6,none⟩=some (.int .i64 3):=by rw[hW0];simp[go_sem]
  have e0:=bP d0;have e1:=bP d1;clear hW0 c17 lR;first|refine eK ?_|refine eJ ?_
  repeat (go_big_quiet_step (fail))
  refine eM fun xq=> ?_
  go_wp2;go_ret;exact⟨rfl,HW0.zo.trans ae⟩
 ·go_enter func82,ntmps82
  go_wp2;refine bI ?_;intro W0 hW0;have HW0:=aa (show af w W0 by rw[hW0];exact ae);have d0:=af.cell HW0.zo c17;have d1:W0.cell? ⟨w.heap.size,6,none⟩=some (.int .i64 4):=by rw[hW0];simp[go_sem]
  have e0:=bP d0;have e1:=bP d1;clear hW0 c17 lR;first|refine eK ?_|refine eJ ?_
  repeat (go_big_quiet_step (fail))
  refine eM fun xq=> ?_
  go_wp2;go_ret;exact⟨rfl,HW0.zo.trans ae⟩
 ·go_enter func82,ntmps82
  go_wp2;refine bI ?_;intro W0 hW0;have HW0:=aa (show af w W0 by rw[hW0];exact ae);have d0:=af.cell HW0.zo c17;have d1:W0.cell? ⟨w.heap.size,6,none⟩=some (.int .i64 5):=by rw[hW0];simp[go_sem]
  have e0:=bP d0;have e1:=bP d1;clear hW0 c17 lR;first|refine eK ?_|refine eJ ?_
  repeat (go_big_quiet_step (fail))
  refine eM fun xq=> ?_
  go_wp2;go_ret;exact⟨rfl,HW0.zo.trans ae⟩
end Go.Proofs.YtomgpelfmgkknaaGreatDoor
