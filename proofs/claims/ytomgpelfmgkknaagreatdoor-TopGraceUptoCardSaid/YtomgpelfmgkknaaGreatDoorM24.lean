/- Lemmas for the law. No conditions. -/
import Derived.Test.YtomgpelfmgkknaaGreatDoorM21
import Derived.LaidMore
import Derived.Stop.Joined
import Derived.Lib.LaidU8
import Derived.MakeChecks
namespace Go.Proofs.YtomgpelfmgkknaaGreatDoor
open Go.RowKit Go.Maps
open Go.Proofs.Tryz
set_option maxRecDepth 100000
set_option maxHeartbeats 40000000
set_option linter.unusedVariables false
set_option linter.unusedSimpArgs false
section
theorem oQ:Enters 95:=fun a w=>by rfl
theorem SB:Enters 98:=fun a w=>by rfl
theorem SC:Enters 99:=fun a w=>by rfl
theorem Oq:Enters 102:=fun a w=>by rfl
theorem Ei:Enters 118:=fun a w=>by rfl
theorem Ot:Enters 119:=fun a w=>by rfl
theorem KL(d:Rule)(s:ByteArray)(bp:Nat)(cs:zv)(w:World)(h:(aw).R w cs d)(c0:w.cell? ⟨bp,0,none⟩=some (.string s)):Calls prog 95 (#[.agg cs.toArray]++ #[.pointer (some ⟨bp,0,none⟩)]) w (cX (.bool (iL s d)) w):=by
 obtain⟨cu,cy,fW,fX,fq,fu,rfl,q0,q1,q2,q3,q4,q5,q6,q7,q8,q9,q10,q11,q12,q13,pV⟩:=h;have lb:=bP c0;clear q0 q1 q2 q3 q4 q5 q6 q7 q8 q9 q10 q11 q12 q13 pV;show Calls prog 95 #[.agg #[.string d.name,.slice cu d.zones.length cy,.slice fW d.exc.length fX,.int .i64 d.start,.int .i64 d.stop,.int .i64 d.bM,.bool d.vary,.int .i64 d.kind,.int .i64 d.test.op,.int .i64 d.test.num,.string d.test.str,.string d.test.key,.slice fq d.test.args.length fu,.int .i64 d.ah.side,.int .i64 d.ah.base,.int .i64 d.ah.num,.int .i64 d.ah.den,.int .i64 d.uses,.int .i64 d.other,.int .i64 d.n],.pointer (some ⟨bp,0,none⟩)] w _;go_enter func95,ntmps95;go_wp2;go_ret;exact⟨rfl,ae⟩
theorem afx(d:Rule)(cs:zv)(w:World)(h:(aw).R w cs d):Calls prog 98 (#[.agg cs.toArray]++ #[]) w (cX (.bool false) w):=by
 obtain⟨cu,cy,fW,fX,fq,fu,rfl,q0,q1,q2,q3,q4,q5,q6,q7,q8,q9,q10,q11,q12,q13,pV⟩:=h;clear q0 q1 q2 q3 q4 q5 q6 q7 q8 q9 q10 q11 q12 q13 pV;show Calls prog 98 #[.agg #[.string d.name,.slice cu d.zones.length cy,.slice fW d.exc.length fX,.int .i64 d.start,.int .i64 d.stop,.int .i64 d.bM,.bool d.vary,.int .i64 d.kind,.int .i64 d.test.op,.int .i64 d.test.num,.string d.test.str,.string d.test.key,.slice fq d.test.args.length fu,.int .i64 d.ah.side,.int .i64 d.ah.base,.int .i64 d.ah.num,.int .i64 d.ah.den,.int .i64 d.uses,.int .i64 d.other,.int .i64 d.n]] w _;go_enter func98,ntmps98;go_wp2;go_ret;exact⟨rfl,ae⟩
theorem KM(s:ByteArray)(w:World):Calls prog 94 #[.string s] w fun e w'=> ∃b,e=.returned (.func (.func 95) #[] #[.pointer (some ⟨b,0,none⟩)])/\af w w'/\w'.cell? ⟨b,0,none⟩=some (.string s):=by
 go_enter func94,ntmps94;go_wp2;go_ret;exact⟨_,rfl,ae,by simp[go_sem]⟩
theorem Yn(d:Cap)(s:ByteArray)(bp:Nat)(cs:zv)(w:World)(h:(iR).R w cs d)(c0:w.cell? ⟨bp,1,none⟩=some (.string s)):Calls prog 118 (#[.agg cs.toArray]++ #[.pointer (some ⟨bp,0,none⟩)]) w (cX (.bool (CZ s d)) w):=by
 obtain⟨aV,aW,rfl,q0,q1,q2,q3⟩:=h;have lb:=bP c0;clear q0 q1 q2 q3;show Calls prog 118 #[.agg #[.string d.name,.int .i64 d.load,.int .i64 d.limit,.slice aV d.corners.length aW],.pointer (some ⟨bp,0,none⟩)] w _;go_enter func118,ntmps118;go_wp2;go_ret;exact⟨rfl,ae⟩
section
variable {T:Type}{L:Lay T}{D:Nat->Prop}{base:Nat}{e:TypeId}{w:World}{g n c k off:Nat}{l:List T}{d d':T}
theorem bL.adx{u:Value}(hO:bL D L base e w (.slice (some ⟨g,0,none⟩) n c) l)(hn:l.length=n)(hd:l[k]?=some d)(hoff:off+1<=L.k)
 (hl:∀w2 cs,L.R w2 cs d->L.R w2 (oY cs off [u]) d'):bL D L base e (w.setCell ⟨g,k*L.k+off,none⟩ u) (.slice (some ⟨g,0,none⟩) n c) (l.set k d'):=by
 obtain⟨g',cur,hg',hb,hgl,hgc,hcs⟩:=hO.form hn (by have:=(bw hd).1;omega);simp only[Option.some.injEq,Addr.mk.injEq,and_true]at hg';subst hg';have hlt:=uJ (K:=L.k) hd hn;refine bL.ZN (j:=off) (vs:= [u]) (i:=k) (d:=d) hO hn (bW _ _ _ _) (fun KC h2 _=> ?_) hoff hd fun cs h w2 ho=>hl w2 cs (h w2 ho)
 rw[heap_setCell_same _ g _ KC e _ h2];congr 2;apply Array.ext_getElem?;intro q;rw[Array.getElem?_setIfInBounds];have hfit:k*L.k+off+ [u].length<=KC.toList.length:=by
  rw[h2]at hgc;cases hgc;simp;omega
 rw[List.getElem?_toArray (xs:=oY _ _ _),oL hfit];simp at hfit;by_cases h1:k*L.k+off=q
 ·subst h1
  simp;omega
 ·rw[if_neg h1]
  split
  ·simp
  ·rw[if_neg (by simp;omega)]
   simp
theorem bL.afy{vs:zv}(hO:bL D L base e w (.slice (some ⟨g,0,none⟩) n c) l)(hn:l.length=n)(hd:l[k]?=some d)(hoff:off+vs.length<=L.k)
 (hl:∀cs,jg (NB D (.slice (some ⟨g,0,none⟩) n c)) w L cs d->jg (NB D (.slice (some ⟨g,0,none⟩) n c)) w L (oY cs off vs) d'):bL D L base e (w.setRow g (xD (rowOf w g) (k*L.k+off) vs)) (.slice (some ⟨g,0,none⟩) n c) (l.set k d'):=by
 obtain⟨g',cur,hg',hb,hgl,hgc,hcs⟩:=hO.form hn (by have:=(bw hd).1;omega);simp only[Option.some.injEq,Addr.mk.injEq,and_true]at hg';subst hg';refine bL.ZN (j:=off) (vs:=vs) (i:=k) (d:=d) hO hn ?_ (fun KC h2 _=> ?_) hoff hd hl
 ·refine⟨rfl,rfl,rfl,by simp[World.setRow],fun b hb hne=> ?_⟩
  unfold World.setRow;simp only;rw[Array.getElem?_modify,if_neg (fun h0=>hne (by rw[h0]))]
 ·rw[h2]at hgc
  cases hgc;unfold World.setRow;simp only;rw[Array.getElem?_modify,if_pos rfl,h2,gI h2];rfl
theorem FL(w:World)(g:Nat)(cs:Array Value):w.grownBy (w.setRow g cs) (some g):=by
 refine⟨rfl,rfl,rfl,by simp[World.setRow],fun b hb hne=> ?_⟩;unfold World.setRow;simp only;rw[Array.getElem?_modify,if_neg (fun h0=>hne (by rw[h0]))]
theorem bL.cel(hO:bL D L base e w (.slice (some ⟨g,0,none⟩) n c) l)(hn:l.length=n)(hd:l[k]?=some d):∃cur,w.heap[g]?=some (.cells cur e (0,0))/\k*L.k+L.k<=cur.size/\∀j,j<cur.size->∃u,w.cell? ⟨g,j,none⟩=some u:=by
 obtain⟨g',cur,hg',hb,hgl,hgc,hcs⟩:=hO.form hn (by have:=(bw hd).1;omega);simp only[Option.some.injEq,Addr.mk.injEq,and_true]at hg';subst hg';have hlt:=uJ (K:=L.k) hd hn;refine⟨cur,hgc,by omega,fun j hj=>⟨cur[j],?_⟩⟩;rw[Bx.cell (show Bx w g cur.toList e by simpa[Bx]using hgc) j];simp[hj]
end
theorem ady{D:Nat->Prop}{base n c i g bp:Nat}{x:Int}{l:List Rule}{d:Rule}(w:World)(hO:bL D aw base 52 w (.slice (some ⟨g,0,none⟩) n c) l)(hn:l.length=n)(hd:l[i]?=some d)(c0:w.cell? ⟨bp,3,none⟩=some (.int .i64 x))(hx:I64 x):Calls prog 102 (#[.pointer (some ⟨g,i*20,none⟩)]++ #[.pointer (some ⟨bp,0,none⟩)]) w fun r w'=>r=.returned (.tuple #[])/\w.grownBy w' (some g)/\bL D aw base 52 w' (.slice (some ⟨g,0,none⟩) n c) (l.set i {d with stop:=x}):=by
 show Calls prog 102 #[.pointer (some ⟨g,i*20,none⟩),.pointer (some ⟨bp,0,none⟩)] w _;obtain⟨cur,hgc,hcs,hc⟩:=hO.cel hn hd;obtain⟨u0,C4⟩:=hc (i*20+4) (by have h1:i*20+20<=cur.size:=hcs;omega);have FZ:=fun i=>frozen_of_row w g i _ 52 hgc
 have HO:=aa hO;have HD:=aa hd;clear hO hd hgc hcs hc;go_enter func102,ntmps102;go_wp2;refine bodyPost_end (v:=.tuple #[]) (results_none rfl _ _ _) rfl ⟨rfl,bW _ _ _ _,HO.zo.adx (off:=4) hn HD.zo (by decide) fun w2 cs h=> ?_⟩;obtain⟨cu,cy,fW,fX,fq,fu,rfl,q0,q1,q2,q3,q4,q5,q6,q7,q8,q9,q10,q11,q12,q13,pV⟩:=h;exact⟨_,_,_,_,_,_,rfl,q0,q1,q2,q3,hx,q5,q6,q7,q8,q9,q10,q11,q12,q13,pV⟩
theorem adz{D:Nat->Prop}{base n c i g bp:Nat}{x:Int}{l:List Cap}{d:Cap}(w:World)(hO:bL D iR base 130 w (.slice (some ⟨g,0,none⟩) n c) l)(hn:l.length=n)(hd:l[i]?=some d)(c0:w.cell? ⟨bp,3,none⟩=some (.int .i64 x))(hx:I64 x):Calls prog 119 (#[.pointer (some ⟨g,i*4,none⟩)]++ #[.pointer (some ⟨bp,0,none⟩)]) w fun r w'=>r=.returned (.tuple #[])/\w.grownBy w' (some g)/\bL D iR base 130 w' (.slice (some ⟨g,0,none⟩) n c) (l.set i {d with limit:=x}):=by
 show Calls prog 119 #[.pointer (some ⟨g,i*4,none⟩),.pointer (some ⟨bp,0,none⟩)] w _;obtain⟨cur,hgc,hcs,hc⟩:=hO.cel hn hd;obtain⟨u0,C4⟩:=hc (i*4+2) (by have h1:i*4+4<=cur.size:=hcs;omega);have FZ:=fun i=>frozen_of_row w g i _ 130 hgc
 have HO:=aa hO;have HD:=aa hd;clear hO hd hgc hcs hc;go_enter func119,ntmps119;go_wp2;refine bodyPost_end (v:=.tuple #[]) (results_none rfl _ _ _) rfl ⟨rfl,bW _ _ _ _,HO.zo.adx (off:=2) hn HD.zo (by decide) fun w2 cs h=> ?_⟩;obtain⟨aV,aW,rfl,q0,q1,q2,q3⟩:=h;exact⟨_,_,rfl,q0,q1,hx,q3⟩
theorem afz{D:Nat->Prop}{base n c i g bp:Nat}{r:Rule}{l:List Rule}{d:Rule}{cs:zv}(w:World)(hO:bL D aw base 52 w (.slice (some ⟨g,0,none⟩) n c) l)(hn:l.length=n)(hd:l[i]?=some d)(hR:jg (NB D (.slice (some ⟨g,0,none⟩) n c)) w aw cs r)(hc4:∀j u,cs[j]?=some u->w.cell? ⟨bp,4+j,none⟩=some u):Calls prog 99 (#[.pointer (some ⟨g,i*20,none⟩)]++ #[.pointer (some ⟨bp,0,none⟩)]) w fun e w'=>e=.returned (.tuple #[])/\w.grownBy w' (some g)/\bL D aw base 52 w' (.slice (some ⟨g,0,none⟩) n c) (l.set i r):=by
 show Calls prog 99 #[.pointer (some ⟨g,i*20,none⟩),.pointer (some ⟨bp,0,none⟩)] w _;obtain⟨cur,hgc,hcs,hc⟩:=hO.cel hn hd;have hcs2:i*20+20<=cur.size:=hcs;have IR:isRow w g (rowOf w g).size:=⟨cur,_,hgc,by rw[gI hgc]⟩;have SZ:i*20+20<=(rowOf w g).size:=by rw[gI hgc];exact hcs2
 have len1:cs.length=20:=(aw).len hR.r;have one1:=List.all_eq_true.2 ((aw).one hR.r);have LD:(jf 52 ⟨bp,4,none⟩).run prog w=.ok (.agg cs.toArray) w:=yy len1 hc4;have HO:=aa hO;have HD:=aa hd;have HR:=aa hR;clear hO hd hgc hcs hc hcs2 hR hc4;go_enter func99,ntmps99;go_wp2;refine bodyPost_end (v:=.tuple #[]) (results_none rfl _ _ _) rfl ⟨rfl,FL _ _ _,HO.zo.afy (off:=0) hn HD.zo (by rw[len1];exact Nat.le_refl _) fun ds h=> ?_⟩;have h20:ds.length=20:=(aw).len h.r;have e1:oY ds 0 cs=cs:=by unfold oY;simp;omega
 rw[e1];exact HR.zo
end
theorem I6{S S':Nat->Prop}{k n:Nat}{w0 w:World}{v:Value}{xs ys:zv}{hw:af w0 w}(h:fB S k w v n xs)(h2:fB S' k w0 v n ys):xs=ys:=by
 obtain⟨h1,ao,cap,rfl,_,_,_,h5⟩:=h;obtain⟨g1,zx,cap2,hv,_,_,_,g5⟩:=h2;simp only[Value.slice.injEq,true_and]at hv;obtain⟨rfl,rfl⟩:=hv;apply List.ext_getElem?;intro t;rcases Nat.lt_or_ge t ys.length with ht|ht
 ·have hn:0<n:=by
   rw[g1]at ht;exact Nat.pos_of_ne_zero fun h0=>by subst h0;simp at ht
  obtain⟨b,off,rfl,_,_,hc⟩:=h5 hn;obtain⟨b2,off2,hb2,_,_,gc⟩:=g5 hn;cases hb2;have hx:t<xs.length:=by rw[h1,<-g1];exact ht
  have e1:=hw.cell (gc t _ (fZ ht));have e2:=hc t _ (fZ hx);rw[e1]at e2;rw[fZ ht,fZ hx,Option.some.inj e2]
 ·rw[List.getElem?_eq_none ht,List.getElem?_eq_none (by rw[h1,<-g1];exact ht)]
theorem I7{ao:Option Addr}{c:Nat}{l:List Rule}{w0:World}(w:World)(h:Sl aw w0 ao l.length c l)(hw:af w0 w)(hb:l.length<=1010):Calls prog 63 #[.slice ao l.length c] w fun e w'=> ∃ao' c',e=.returned (.slice ao' l.length c')/\af w w'/\bL (fun b=>b<w0.heap.size) aw w.heap.size 52 w' (.slice ao' l.length c') l:=by
 obtain⟨xs,hr,h1,h2⟩:=(h.exts hw).ones;obtain⟨ys,hs,g1,g2⟩:=h.ones;obtain rfl:xs=ys:=I6 (hw:=hw) hr hs;refine(yP _ l.length xs w hr h2 (by omega)).mono ?_;rintro e w' ⟨v',rfl,hx,ho⟩;obtain⟨ao',c',rfl⟩:=eC ho;exact⟨ao',c',rfl,hx,bL.of ho g1 (hw.trans hx) (fun b hb=>hb) hw.below.size⟩
theorem SD(sf ef:FuncId)(iO lG:Array Value)(p:Rule->Bool){ao:Option Addr}{c:Nat}{l:List Rule}{w0:World}(w:World)(hw:af w0 w)(hcs:Enters sf)(hce:Enters ef)(h:Sl aw w0 ao l.length c l)(hb:l.length<=1000)
 (hs:∀(w':World)(i:Nat)(d:Rule)(cs:zv),af w w'->l[i]?=some d->(aw).R w' cs d->Calls prog sf (#[.agg cs.toArray]++iO) w' fun e w''=>e=.returned (.bool (p d))/\af w' w'') {k:Nat} {d d':Rule} (m:Int) (hi:nZ p l=k) (hd:l[k]?=some d)
 (he:∀(D:Nat->Prop)(base g c':Nat)(w1:World),af w w1->(∀b,b<w0.heap.size->D b)->w.heap.size<=base->bL D aw base 52 w1 (.slice (some ⟨g,0,none⟩) l.length c') l->Calls prog ef (#[.pointer (some ⟨g,k*20,none⟩)]++lG) w1 fun e w2=>e=.returned (.tuple #[])/\w1.grownBy w2 (some g)/\bL D aw base 52 w2 (.slice (some ⟨g,0,none⟩) l.length c') (l.set k d')):
 Calls prog 97 #[.slice ao l.length c,.func (.func sf) #[] iO,.func (.func ef) #[] lG,.int .i64 m] w fun e w'=> ∃ao' c',e=.returned (.tuple #[.slice ao' l.length c',.int .i64 0])/\af w w'/\bL (fun b=>b<w0.heap.size) aw w.heap.size 52 w' (.slice ao' l.length c') (l.set k d'):=by
 have HH:=aa h;have HW:=aa hw;have HS:=aa hs;have HE:=aa he;have WB:=aa hi;have hkl:=(bw hd).1;have hp:(0:Int)<=(k:Int):=by omega
 have HD:=aa hd;clear hw h hs he hi hd;unfold Enters at hce;go_enter func97,ntmps97;go_wp2_with ((with_reducible refine ag (I7 _ HH.zo (HW.zo.trans ae) (by omega)) ?_);rintro e W1 ⟨E7,c1,rfl,hx1,ho1⟩;(have HX:=aa hx1);(have HO:=aa ho1);clear hx1 ho1)
 obtain⟨g,cur,rfl,hg1,hg2,hg3,hg4⟩:=HO.zo.form rfl (by omega);clear hg2 hg3 hg4;with_reducible refine ag (pZ sf iO p _ _ _ l _ hcs (HO.zo.sl rfl) ?_) ?_
 ·intro w' i d cs he hd hR
  exact HS.zo w' i d cs (HX.zo.trans he) hd hR
 rintro e w' ⟨rfl,⟨x5,rfl⟩⟩;rw[WB.zo];go_wp2_with fail
 with_reducible refine ag (HE.zo _ _ g _ _ (HX.zo.trans ae) (fun b hb=>hb) (Nat.le_refl _) (HO.zo.exts ae)) ?_
 rintro e w2 ⟨rfl,hgr,ho2⟩;have gm:=aa (aF (row:=some g) (HX.zo.trans (show af W1 _ from ae)) hgr (fun b hb=>by cases hb;exact hg1));have jY:=aa ho2;clear hgr ho2;go_wp2;refine bodyPost_ret (v:=.tuple #[.slice (some ⟨g,0,none⟩) l.length c1,.int .i64 0]) (by simp[results,go_sem]) rfl ⟨_,_,rfl,gm.zo,jY.zo⟩
theorem Cb(sf ef:FuncId)(iO lG:Array Value)(p:Rule->Bool){ao:Option Addr}{c:Nat}{l:List Rule}{w0:World}(w:World)(hw:af w0 w)(hcs:Enters sf)(h:Sl aw w0 ao l.length c l)(hb:l.length<=1000)
 (hs:∀(w':World)(i:Nat)(d:Rule)(cs:zv),af w w'->l[i]?=some d->(aw).R w' cs d->Calls prog sf (#[.agg cs.toArray]++iO) w' fun e w''=>e=.returned (.bool (p d))/\af w' w'') (hi:l.any p=false):Calls prog 101 #[.slice ao l.length c,.func (.func sf) #[] iO,.func (.func ef) #[] lG] w (cX (.tuple #[.slice none 0 0,.int .i64 4]) w):=by
 have HH:=aa h;have HW:=aa hw;have HS:=aa hs;have WB:=aa hi;clear hw h hs hi;go_enter func101,ntmps101;go_wp2_with fail
 with_reducible refine ag (qJ sf iO p _ _ _ l _ hcs (HH.zo.exts HW.zo) ?_) ?_
 ·intro w' i d cs he hd hR
  exact HS.zo w' i d cs he hd hR
 rintro e w' ⟨rfl,⟨x5,rfl⟩⟩;rw[WB.zo];go_wp2;refine bodyPost_ret (v:=.tuple #[.slice none 0 0,.int .i64 4]) (by simp[results,go_sem]) rfl ⟨rfl,ae⟩
theorem Cc(sf ef:FuncId)(iO lG:Array Value)(p:Rule->Bool){ao:Option Addr}{c:Nat}{l:List Rule}{w0:World}(w:World)(hw:af w0 w)(hcs:Enters sf)(hce:Enters ef)(h:Sl aw w0 ao l.length c l)(hb:l.length<=1000)
 (hs:∀(w':World)(i:Nat)(d:Rule)(cs:zv),af w w'->l[i]?=some d->(aw).R w' cs d->Calls prog sf (#[.agg cs.toArray]++iO) w' fun e w''=>e=.returned (.bool (p d))/\af w' w'') {k:Nat} {d d':Rule} (hi:nZ p l=k) (hd:l[k]?=some d) (ha:l.any p=true)
 (he:∀(D:Nat->Prop)(base g c':Nat)(w1:World),af w w1->(∀b,b<w0.heap.size->D b)->w.heap.size<=base->bL D aw base 52 w1 (.slice (some ⟨g,0,none⟩) l.length c') l->Calls prog ef (#[.pointer (some ⟨g,k*20,none⟩)]++lG) w1 fun e w2=>e=.returned (.tuple #[])/\w1.grownBy w2 (some g)/\bL D aw base 52 w2 (.slice (some ⟨g,0,none⟩) l.length c') (l.set k d')):
 Calls prog 101 #[.slice ao l.length c,.func (.func sf) #[] iO,.func (.func ef) #[] lG] w fun e w'=> ∃ao' c',e=.returned (.tuple #[.slice ao' l.length c',.int .i64 0])/\af w w'/\bL (fun b=>b<w0.heap.size) aw w.heap.size 52 w' (.slice ao' l.length c') (l.set k d'):=by
 have HH:=aa h;have HW:=aa hw;have HS:=aa hs;have HE:=aa he;have HA:=aa ha;have HP:=aa hi;have HD:=aa hd;clear hw h hs he ha hi hd;go_enter func101,ntmps101;go_wp2_with fail
 with_reducible refine ag (qJ sf iO p _ _ _ l _ hcs (HH.zo.exts HW.zo) ?_) ?_
 ·intro w' i d cs he hd hR
  exact HS.zo w' i d cs he hd hR
 rintro e w' ⟨rfl,⟨x5,rfl⟩⟩;rw[HA.zo];go_wp2_with fail
 with_reducible refine ag (SD sf ef iO lG p (d':=d') _ (HW.zo.trans ae) hcs hce HH.zo hb ?_ _ HP.zo HD.zo ?_) ?_
 ·intro w' i d cs he hd hR
  exact HS.zo w' i d cs ((show af w _ from ae).trans he) hd hR
 ·intro D base g c' w1 hx hD hb2 ho
  exact HE.zo D base g c' w1 ((show af w _ from ae).trans hx) hD (Nat.le_trans (by simp) hb2) ho
 rintro e w' ⟨ao',c',rfl,⟨x6,rfl⟩,hs'⟩;have HS':=aa hs';clear hs';go_wp2;refine bodyPost_ret (v:=.tuple #[.slice ao' l.length c',.int .i64 0]) (by simp[results,go_sem]) rfl ⟨_,_,rfl,ae,by have h2:=HS'.zo.lower (base':=w.heap.size) (by simp);first|exact h2|(rw[il]at h2;exact h2)⟩
theorem SE{ao:Option Addr}{c:Nat}{l:List Cap}{w0:World}(w:World)(h:Sl iR w0 ao l.length c l)(hw:af w0 w)(hb:l.length<=1010):Calls prog 64 #[.slice ao l.length c] w fun e w'=> ∃ao' c',e=.returned (.slice ao' l.length c')/\af w w'/\bL (fun b=>b<w0.heap.size) iR w.heap.size 130 w' (.slice ao' l.length c') l:=by
 obtain⟨xs,hr,h1,h2⟩:=(h.exts hw).ones;obtain⟨ys,hs,g1,g2⟩:=h.ones;obtain rfl:xs=ys:=I6 (hw:=hw) hr hs;refine(yQ _ l.length xs w hr h2 (by omega)).mono ?_;rintro e w' ⟨v',rfl,hx,ho⟩;obtain⟨ao',c',rfl⟩:=eC ho;exact⟨ao',c',rfl,hx,bL.of ho g1 (hw.trans hx) (fun b hb=>hb) hw.below.size⟩
theorem Ou(sf ef:FuncId)(iO lG:Array Value)(p:Cap->Bool){ao:Option Addr}{c:Nat}{l:List Cap}{w0:World}(w:World)(hw:af w0 w)(hcs:Enters sf)(hce:Enters ef)(h:Sl iR w0 ao l.length c l)(hb:l.length<=1000)
 (hs:∀(w':World)(i:Nat)(d:Cap)(cs:zv),af w w'->l[i]?=some d->(iR).R w' cs d->Calls prog sf (#[.agg cs.toArray]++iO) w' fun e w''=>e=.returned (.bool (p d))/\af w' w'') {k:Nat} {d d':Cap} (m:Int) (hi:nZ p l=k) (hd:l[k]?=some d)
 (he:∀(D:Nat->Prop)(base g c':Nat)(w1:World),af w w1->(∀b,b<w0.heap.size->D b)->w.heap.size<=base->bL D iR base 130 w1 (.slice (some ⟨g,0,none⟩) l.length c') l->Calls prog ef (#[.pointer (some ⟨g,k*4,none⟩)]++lG) w1 fun e w2=>e=.returned (.tuple #[])/\w1.grownBy w2 (some g)/\bL D iR base 130 w2 (.slice (some ⟨g,0,none⟩) l.length c') (l.set k d')):
 Calls prog 196 #[.slice ao l.length c,.func (.func sf) #[] iO,.func (.func ef) #[] lG,.int .i64 m] w fun e w'=> ∃ao' c',e=.returned (.tuple #[.slice ao' l.length c',.int .i64 0])/\af w w'/\bL (fun b=>b<w0.heap.size) iR w.heap.size 130 w' (.slice ao' l.length c') (l.set k d'):=by
 have HH:=aa h;have HW:=aa hw;have HS:=aa hs;have HE:=aa he;have WB:=aa hi;have hkl:=(bw hd).1;have hp:(0:Int)<=(k:Int):=by omega
 have HD:=aa hd;clear hw h hs he hi hd;unfold Enters at hce;go_enter func196,ntmps196;go_wp2_with ((with_reducible refine ag (SE _ HH.zo (HW.zo.trans ae) (by omega)) ?_);rintro e W1 ⟨E7,c1,rfl,hx1,ho1⟩;(have HX:=aa hx1);(have HO:=aa ho1);clear hx1 ho1)
 obtain⟨g,cur,rfl,hg1,hg2,hg3,hg4⟩:=HO.zo.form rfl (by omega);clear hg2 hg3 hg4;with_reducible refine ag (GV sf iO p _ _ _ l _ hcs (HO.zo.sl rfl) ?_) ?_
 ·intro w' i d cs he hd hR
  exact HS.zo w' i d cs (HX.zo.trans he) hd hR
 rintro e w' ⟨rfl,⟨x5,rfl⟩⟩;rw[WB.zo];go_wp2_with fail
 with_reducible refine ag (HE.zo _ _ g _ _ (HX.zo.trans ae) (fun b hb=>hb) (Nat.le_refl _) (HO.zo.exts ae)) ?_
 rintro e w2 ⟨rfl,hgr,ho2⟩;have gm:=aa (aF (row:=some g) (HX.zo.trans (show af W1 _ from ae)) hgr (fun b hb=>by cases hb;exact hg1));have jY:=aa ho2;clear hgr ho2;go_wp2;refine bodyPost_ret (v:=.tuple #[.slice (some ⟨g,0,none⟩) l.length c1,.int .i64 0]) (by simp[results,go_sem]) rfl ⟨_,_,rfl,gm.zo,jY.zo⟩
theorem Ce(sf ef:FuncId)(iO lG:Array Value)(p:Cap->Bool){ao:Option Addr}{c:Nat}{l:List Cap}{w0:World}(w:World)(hw:af w0 w)(hcs:Enters sf)(h:Sl iR w0 ao l.length c l)(hb:l.length<=1000)
 (hs:∀(w':World)(i:Nat)(d:Cap)(cs:zv),af w w'->l[i]?=some d->(iR).R w' cs d->Calls prog sf (#[.agg cs.toArray]++iO) w' fun e w''=>e=.returned (.bool (p d))/\af w' w'') (hi:l.any p=false):Calls prog 117 #[.slice ao l.length c,.func (.func sf) #[] iO,.func (.func ef) #[] lG] w (cX (.tuple #[.slice none 0 0,.int .i64 4]) w):=by
 have HH:=aa h;have HW:=aa hw;have HS:=aa hs;have WB:=aa hi;clear hw h hs hi;go_enter func117,ntmps117;go_wp2_with fail
 with_reducible refine ag (pj sf iO p _ _ _ l _ hcs (HH.zo.exts HW.zo) ?_) ?_
 ·intro w' i d cs he hd hR
  exact HS.zo w' i d cs he hd hR
 rintro e w' ⟨rfl,⟨x5,rfl⟩⟩;rw[WB.zo];go_wp2;refine bodyPost_ret (v:=.tuple #[.slice none 0 0,.int .i64 4]) (by simp[results,go_sem]) rfl ⟨rfl,ae⟩
theorem Cf(sf ef:FuncId)(iO lG:Array Value)(p:Cap->Bool){ao:Option Addr}{c:Nat}{l:List Cap}{w0:World}(w:World)(hw:af w0 w)(hcs:Enters sf)(hce:Enters ef)(h:Sl iR w0 ao l.length c l)(hb:l.length<=1000)
 (hs:∀(w':World)(i:Nat)(d:Cap)(cs:zv),af w w'->l[i]?=some d->(iR).R w' cs d->Calls prog sf (#[.agg cs.toArray]++iO) w' fun e w''=>e=.returned (.bool (p d))/\af w' w'') {k:Nat} {d d':Cap} (hi:nZ p l=k) (hd:l[k]?=some d) (ha:l.any p=true)
 (he:∀(D:Nat->Prop)(base g c':Nat)(w1:World),af w w1->(∀b,b<w0.heap.size->D b)->w.heap.size<=base->bL D iR base 130 w1 (.slice (some ⟨g,0,none⟩) l.length c') l->Calls prog ef (#[.pointer (some ⟨g,k*4,none⟩)]++lG) w1 fun e w2=>e=.returned (.tuple #[])/\w1.grownBy w2 (some g)/\bL D iR base 130 w2 (.slice (some ⟨g,0,none⟩) l.length c') (l.set k d')):
 Calls prog 117 #[.slice ao l.length c,.func (.func sf) #[] iO,.func (.func ef) #[] lG] w fun e w'=> ∃ao' c',e=.returned (.tuple #[.slice ao' l.length c',.int .i64 0])/\af w w'/\bL (fun b=>b<w0.heap.size) iR w.heap.size 130 w' (.slice ao' l.length c') (l.set k d'):=by
 have HH:=aa h;have HW:=aa hw;have HS:=aa hs;have HE:=aa he;have HA:=aa ha;have HP:=aa hi;have HD:=aa hd;clear hw h hs he ha hi hd;go_enter func117,ntmps117;go_wp2_with fail
 with_reducible refine ag (pj sf iO p _ _ _ l _ hcs (HH.zo.exts HW.zo) ?_) ?_
 ·intro w' i d cs he hd hR
  exact HS.zo w' i d cs he hd hR
 rintro e w' ⟨rfl,⟨x5,rfl⟩⟩;rw[HA.zo];go_wp2_with fail
 with_reducible refine ag (Ou sf ef iO lG p (d':=d') _ (HW.zo.trans ae) hcs hce HH.zo hb ?_ _ HP.zo HD.zo ?_) ?_
 ·intro w' i d cs he hd hR
  exact HS.zo w' i d cs ((show af w _ from ae).trans he) hd hR
 ·intro D base g c' w1 hx hD hb2 ho
  exact HE.zo D base g c' w1 ((show af w _ from ae).trans hx) hD (Nat.le_trans (by simp) hb2) ho
 rintro e w' ⟨ao',c',rfl,⟨x6,rfl⟩,hs'⟩;have HS':=aa hs';clear hs';go_wp2;refine bodyPost_ret (v:=.tuple #[.slice ao' l.length c',.int .i64 0]) (by simp[results,go_sem]) rfl ⟨_,_,rfl,ae,by have h2:=HS'.zo.lower (base':=w.heap.size) (by simp);first|exact h2|(rw[il]at h2;exact h2)⟩
def zR:Rule:=⟨⟨#[]⟩,[],[],0,0,0,false,0,.mk 0 0 ⟨#[]⟩ ⟨#[]⟩ [],⟨0,0,0,0⟩,0,0,0⟩
def zRs:zv:= [.string ⟨#[]⟩,.slice none 0 0,.slice none 0 0,.int .i64 0,.int .i64 0,.int .i64 0,.bool false,.int .i64 0,.int .i64 0,.int .i64 0,.string ⟨#[]⟩,.string ⟨#[]⟩,.slice none 0 0,.int .i64 0,.int .i64 0,.int .i64 0,.int .i64 0,.int .i64 0,.int .i64 0,.int .i64 0]
theorem afA(w:World):(aw).R w zRs zR:=by
 have i0:I64 0:=by constructor<;>omega
 have s0:gS ⟨#[]⟩:=by simp[gS,ByteArray.size]
 have n1:Sl fC w none 0 0 []:=(aq.made fC 0 0 w).sl rfl;have n2:Sl j7 w none 0 0 []:=(aq.made j7 0 0 w).sl rfl;exact⟨none,0,none,0,none,0,rfl,s0,n1,n1,i0,i0,i0,i0,⟨i0,i0,s0,s0,n2⟩,i0,i0,i0,i0,i0,i0,i0⟩
theorem Ov(sf ef:FuncId)(iO lG:Array Value)(p:Rule->Bool){ao:Option Addr}{c:Nat}{l:List Rule}{w0:World}(w:World)(hw:af w0 w)(hcs:Enters sf)(hce:Enters ef)(h:Sl aw w0 ao l.length c l)(hb:l.length<=1000)
 (hs:∀(w':World)(i:Nat)(d:Rule)(cs:zv),af w w'->l[i]?=some d->(aw).R w' cs d->Calls prog sf (#[.agg cs.toArray]++iO) w' fun e w''=>e=.returned (.bool (p d))/\af w' w'') {r:Rule} (m:Int) (hm:(l.length:Int)<m) (hi:nZ p l= -1)
 (he:∀(D:Nat->Prop)(base g c':Nat)(w1:World),af w w1->(∀b,b<w0.heap.size->D b)->w.heap.size<=base->bL D aw base 52 w1 (.slice (some ⟨g,0,none⟩) (l.length+1) c') (l++ [zR])->Calls prog ef (#[.pointer (some ⟨g,l.length*20,none⟩)]++lG) w1 fun e w2=>e=.returned (.tuple #[])/\w1.grownBy w2 (some g)/\bL D aw base 52 w2 (.slice (some ⟨g,0,none⟩) (l.length+1) c') ((l++ [zR]).set l.length r)):
 Calls prog 97 #[.slice ao l.length c,.func (.func sf) #[] iO,.func (.func ef) #[] lG,.int .i64 m] w fun e w'=> ∃ao' c',e=.returned (.tuple #[.slice ao' (l++ [r]).length c',.int .i64 0])/\af w w'/\bL (fun b=>b<w0.heap.size) aw w.heap.size 52 w' (.slice ao' (l++ [r]).length c') (l++ [r]):=by
 have HH:=aa h;have HW:=aa hw;have HS:=aa hs;have HE:=aa he;have WB:=aa hi;obtain⟨i0,hi,hz0,hz1,hz2⟩:=info_parts qh;clear hw h hs he;unfold Enters at hce;go_enter func97,ntmps97;go_wp2_with ((with_reducible refine ag (I7 _ HH.zo (HW.zo.trans ae) (by omega)) ?_);rintro e W1 ⟨E7,c1,rfl,hx1,ho1⟩;(have HX:=aa hx1);(have HO:=aa ho1);clear hx1 ho1)
 with_reducible refine ag (pZ sf iO p _ _ _ l _ hcs (HO.zo.sl rfl) ?_) ?_
 ·intro w' i d cs he hd hR
  exact HS.zo w' i d cs (HX.zo.trans he) hd hR
 rintro e w' ⟨rfl,⟨x5,rfl⟩⟩;rw[WB.zo];have hsz:=HX.zo.below.size;cases hmm:decide ((l.length:Int)>=m)with
 |true=>simp at hmm;omega
 |false=>
 go_wp2_with (at_builtin;refine fA rfl (.tmp 25) (.tmp 27) 25 rfl i0 _ 232 underlying25 hi hz0 hz1 hz2 rfl (by decide) rfl rfl (HO.zo.exts ae) _ 1 rfl (cs:=zRs) (d:=zR) (fun w2 _=>afA w2) (fun j u hu=>(Bx.mv rfl (by simp)).news j u hu) (by omega) (by omega) (by simp<;>omega) ?_;intro g c' w1 hown hgrow;(have HN:=aa hown);(have HG:=aa hgrow);clear hown hgrow)
 have jZ:=aa (aF (HX.zo.trans (show af W1 _ from ae)) HG.zo (fun b hb=>(HO.zo.lt hb).1));with_reducible refine ag (HE.zo _ _ g _ _ jZ.zo (fun b hb=>hb) (Nat.le_refl _) HN.zo) ?_
 rintro e w2 ⟨rfl,hgr,ho2⟩;have gm:=aa (aF (row:=some g) jZ.zo hgr (fun b hb=>by cases hb;exact(HN.zo.lt rfl).1));have e1:(l++ [zR]).set l.length r=l++ [r]:=by simp
 rw[e1]at ho2;have e2:(l++ [r]).length=l.length+1:=by simp
 have jY:=aa ho2;clear hgr ho2;go_wp2;refine bodyPost_ret (v:=.tuple #[.slice (some ⟨g,0,none⟩) (l.length+1) c',.int .i64 0]) (by simp[results,go_sem]) rfl ⟨_,_,by rw[e2],gm.zo,by rw[e2];exact jY.zo⟩
def zr(cs:zv):Prop:= ∃(o1:Option Addr)(n1 c1:Nat)(o2:Option Addr)(n2 c2:Nat)(o3:Option Addr)(n3 c3:Nat)(o4:Option Addr)(n4 c4:Nat)(o5:Option Addr)(n5 c5:Nat)(o6:Option Addr)(n6 c6:Nat)(o7:Option Addr)(n7 c7:Nat)(h:Int),cs= [.slice o1 n1 c1,.slice o2 n2 c2,.slice o3 n3 c3,.slice o4 n4 c4,.slice o5 n5 c5,.slice o6 n6 c6,.slice o7 n7 c7,.int .i64 h]
theorem On.three{w:World}{o1 o2 o3 p1 p2 p3:Obj}{x:Ex}:On (fun b=>b<w.heap.size∨w.heap.size+3<=b) (av (((w.alloc o1).alloc o2).alloc o3) x) (av (((w.alloc p1).alloc p2).alloc p3) x):=by
 exact⟨rfl,rfl,rfl,by simp,fun b hb hl=>by
 unfold av World.alloc;simp only;rcases hb with hb|hb
 ·rw[Array.getElem?_append_left (by simp;omega),Array.getElem?_append_left (by simp;omega),Array.getElem?_push_lt (by simp;omega),Array.getElem?_push_lt (by simp;omega)]
  simp[Array.getElem_push,hb,Nat.lt_succ_of_lt hb]
 ·rw[Array.getElem?_append_right (by simp;omega),Array.getElem?_append_right (by simp;omega)]
  simp only[Array.size_push]⟩
theorem WC{T:Type}{p:T->Bool}{l:List T}(h:l.any p=true):∃(k:Nat)(d:T),nZ p l=k/\l[k]?=some d:=by
 rcases oq p l with⟨_,h2⟩|⟨k,d,h1,h2,_⟩
 ·obtain⟨x,hx,hp⟩:=List.any_eq_true.1 h
  exact absurd hp (List.find?_eq_none.1 h2 x hx)
 ·exact⟨k,d,h1,h2⟩
theorem Cg{T:Type}{p:T->Bool}{l:List T}{k:Nat}{d:T}(h:nZ p l=k)(hd:l[k]?=some d):p d=true/\∀j x,j<k->l[j]?=some x->p x=false:=by
 unfold nZ at h;cases hf:l.findIdx? p with
 |none=>rw[hf]at h;simp only at h;omega
 |some i=>
  rw[hf]at h;simp only at h;obtain rfl:i=k:=by omega
  rw[List.findIdx?_eq_some_iff_getElem]at hf;obtain⟨hk,hp,ha⟩:=hf;obtain⟨_,e⟩:=bw hd;refine⟨by rw[<-e];exact hp,fun j x hj hx=> ?_⟩;obtain⟨_,e2⟩:=bw hx;have:=ha j hj;rw[e2]at this;simpa using this
theorem w7{T:Type}{p:T->Bool}{f:T->T}:∀{l:List T}{k:Nat}{d:T},l[k]?=some d->p d=true->(∀j x,j<k->l[j]?=some x->p x=false)->fx p f l=l.set k (f d)
 | [],k,d,h,_,_=>by simp at h
 |x::l,0,d,h,hp,_=>by
  simp at h;subst h;unfold fx;rw[if_pos hp];rfl
 |x::l,k+1,d,h,hp,ha=>by
  unfold fx;rw[if_neg (by rw[ha 0 x (by omega) rfl];simp),w7 (l:=l) (k:=k) (d:=d) (by simpa using h) hp fun j y hj hy=>ha (j+1) y (by omega) (by simpa using hy)];rfl
theorem xd{T:Type}{p:T->Bool}{f:T->T}{l:List T}{k:Nat}{d:T}(h:nZ p l=k)(hd:l[k]?=some d):fx p f l=l.set k (f d):=w7 hd (Cg h hd).1 (Cg h hd).2
theorem WG{A B C:zv}{j:Nat}{u:Value}(h:B[j]?=some u):(A++(B++C))[A.length+j]?=some u:=by
 rw[List.getElem?_append_right (by omega),Nat.add_sub_cancel_left,List.getElem?_append_left (bw h).1];exact h
theorem Ow(p:Plan)(e:fN)(cs ds:zv)(w:World)(h:(bq).R w cs p)(h2:(cY).R w ds e)(hk:e.kind=0)(hr:p.rules.length<200)(hc:p.caps.length<=1000):Calls prog 32 #[.agg cs.toArray,.agg ds.toArray] w fun r w'=> ∃(cs':zv),r=.returned (.tuple #[.agg cs'.toArray,.int .i64 (mJ p e)])/\af w w'/\zr cs'/\(mJ p e=0->(bq).R w' cs' (jR p e)):=by
 obtain⟨bF,bG,aN,aK,aX,aY,bH,bE,bN,bO,bj,aZ,cj,ck,rfl,q0,q1,q2,q3,q4,q5,q6,q7⟩:=h;obtain⟨az,aA,aT,aU,aL,aM,dg,dh,bA,bC,rfl,t0,t1,t2,t3,t4,t5,t6,t7,t8,t9,t10,t11,t12,t13,t14,t15,t16,t17,uw,t19,t20⟩:=h2;rw[hk];have Q0:=aa q0;have Q1:=aa q1;have Q2:=aa q2;have Q3:=aa q3;have Q4:=aa q4;have Q5:=aa q5;have Q6:=aa q6;have Q7:=aa q7;have T0:=aa t0;have T1:=aa t1;have T2:=aa t2;have T3:=aa t3;have T4:=aa t4;have T5:=aa t5;have T6:=aa t6;have T7:=aa t7;have T8:=aa t8;have T9:=aa t9;have T10:=aa t10;have T11:=aa t11;have T12:=aa t12;have T13:=aa t13;have RN:=aa t14;have T15:=aa t15;have RO:=aa t16;have RP:=aa t17;have RQ:=aa uw;have V9:=aa t19;have UG:=aa t20;have HK:=aa hk;clear hk q0 q1 q2 q3 q4 q5 q6 q7 t0 t1 t2 t3 t4 t5 t6 t7 t8 t9 t10 t11 t12 t13 t14 t15 t16 t17 uw t19 t20;obtain⟨r,hr1⟩:∃r,p.rules.any (iL e.rule.name)=r:=⟨_,rfl⟩;have HA:=aa hr1;clear hr1;cases r with
 |true=>
  have HE:=aa (show mJ p e=5 by unfold mJ;rw[if_pos HK.zo,if_pos HA.zo]);rw[HE.zo];go_enter func32,ntmps32;go_wp2;refine b9 (S:=fun w'=> ∃x,w'=av _ x) [0,2,3,4] [([1,5],6)] [] [7] (by kernel_rfl) (by kernel_rfl) ⟨_,by first|exact dx _|exact ai _ _⟩ ?_;try simp only[bX,pick,eh]
  try change wpQuiet _ _ _ _ (_::_) _
  repeat (go_big_quiet_step (fail))
  refine wpQuiet_nil ?_;try change wpQuiet _ _ _ _ (_::_) _
  repeat (go_big_quiet_step (fail))
  refine wpQuiet_nil ?_;try change wpList _ _ _ (_::_) _ _
  go_wp2_with ((with_reducible refine ag (KM _ _) ?_);rintro e w' ⟨b1,rfl,⟨x1,rfl⟩,hc1⟩;(try simp only[bf,au,ai]at hc1);(have GF:=aa hc1);clear hc1)
  refine dn (by first|exact⟨_,(cF _).symm⟩|exact⟨_,rfl⟩|exact ae) ?_;try simp only[bX,pick,eh]
  try change wpQuiet _ _ _ _ (_::_) _
  repeat (go_big_quiet_step (fail))
  refine wpQuiet_nil ?_;try change wpList _ _ _ (_::_) _ _
  go_wp2_with ((with_reducible refine ag (qJ 95 #[.pointer (some ⟨b1,0,none⟩)] (iL e.rule.name) _ _ _ p.rules _ oQ ?_ ?_) ?_);exact Q3.zo.exts ae;(intro w'' i d cs he hd hR;exact KL d _ _ cs w'' hR (((show af (av _ x1) _ from ae).trans he).cell GF.zo));rintro _ w' ⟨rfl,x2,rfl⟩;rw[HA.zo])
  refine cV ?_;go_wp2;refine bodyPost_ret (v:=.tuple #[.agg #[.slice bF p.defs.length bG,.slice aN p.tables.length aK,.slice aX p.zones.length aY,.slice bH p.rules.length bE,.slice bN p.caps.length bO,.slice bj p.views.length aZ,.slice cj p.eA.length ck,.int .i64 p.hours],.int .i64 5]) (by simp[results,go_sem]) rfl ⟨[.slice bF p.defs.length bG,.slice aN p.tables.length aK,.slice aX p.zones.length aY,.slice bH p.rules.length bE,.slice bN p.caps.length bO,.slice bj p.views.length aZ,.slice cj p.eA.length ck,.int .i64 p.hours],rfl,ae,⟨_,_,_,_,_,_,_,_,_,_,_,_,_,_,_,_,_,_,_,_,_,_,rfl⟩,fun h0=>by omega⟩
 |false=>
  have HE:=aa (show mJ p e=0 by unfold mJ;rw[if_pos HK.zo,if_neg (by rw[HA.zo];simp),if_neg (by omega)]);have HO:=aa (show jR p e={p with rules:=p.rules++ [e.rule]}by unfold jR;rw[if_pos HK.zo]);have HR:=aa (show(aw).R w [.string e.rule.name,.slice az e.rule.zones.length aA,.slice aT e.rule.exc.length aU,.int .i64 e.rule.start,.int .i64 e.rule.stop,.int .i64 e.rule.bM,.bool e.rule.vary,.int .i64 e.rule.kind,.int .i64 e.rule.test.op,.int .i64 e.rule.test.num,.string e.rule.test.str,.string e.rule.test.key,.slice aL e.rule.test.args.length aM,.int .i64 e.rule.ah.side,.int .i64 e.rule.ah.base,.int .i64 e.rule.ah.num,.int .i64 e.rule.ah.den,.int .i64 e.rule.uses,.int .i64 e.rule.other,.int .i64 e.rule.n] e.rule from⟨_,_,_,_,_,_,rfl,T4.zo,T5.zo,T6.zo,T7.zo,T8.zo,T9.zo,T10.zo,T11.zo,T12.zo,T13.zo,RN.zo,T15.zo,RO.zo,RP.zo,RQ.zo⟩);have HB:=aa (show Bx ((w.alloc (.cells #[.slice bF p.defs.length bG,.slice aN p.tables.length aK,.slice aX p.zones.length aY,.slice bH p.rules.length bE,.slice bN p.caps.length bO,.slice bj p.views.length aZ,.slice cj p.eA.length ck,.int .i64 p.hours] 30)).alloc (.cells #[.int .i64 0,.string e.name,.string e.key,.int .i64 e.n,.string e.rule.name,.slice az e.rule.zones.length aA,.slice aT e.rule.exc.length aU,.int .i64 e.rule.start,.int .i64 e.rule.stop,.int .i64 e.rule.bM,.bool e.rule.vary,.int .i64 e.rule.kind,.int .i64 e.rule.test.op,.int .i64 e.rule.test.num,.string e.rule.test.str,.string e.rule.test.key,.slice aL e.rule.test.args.length aM,.int .i64 e.rule.ah.side,.int .i64 e.rule.ah.base,.int .i64 e.rule.ah.num,.int .i64 e.rule.ah.den,.int .i64 e.rule.uses,.int .i64 e.rule.other,.int .i64 e.rule.n,.int .i64 e.body.op,.int .i64 e.body.num,.string e.body.str,.string e.body.key,.slice dg e.body.args.length dh,.slice bA e.corners.length bC] 55)) (w.heap.size+1) ([.int .i64 0,.string e.name,.string e.key,.int .i64 e.n]++([.string e.rule.name,.slice az e.rule.zones.length aA,.slice aT e.rule.exc.length aU,.int .i64 e.rule.start,.int .i64 e.rule.stop,.int .i64 e.rule.bM,.bool e.rule.vary,.int .i64 e.rule.kind,.int .i64 e.rule.test.op,.int .i64 e.rule.test.num,.string e.rule.test.str,.string e.rule.test.key,.slice aL e.rule.test.args.length aM,.int .i64 e.rule.ah.side,.int .i64 e.rule.ah.base,.int .i64 e.rule.ah.num,.int .i64 e.rule.ah.den,.int .i64 e.rule.uses,.int .i64 e.rule.other,.int .i64 e.rule.n]++ [.int .i64 e.body.op,.int .i64 e.body.num,.string e.body.str,.string e.body.key,.slice dg e.body.args.length dh,.slice bA e.corners.length bC])) 55 from Bx.mv rfl (by simp));rw[HE.zo,HO.zo];go_enter func32,ntmps32;go_wp2;refine b9 (S:=fun w'=> ∃x,w'=av _ x) [0,2,3,4] [([1,5],6)] [] [7] (by kernel_rfl) (by kernel_rfl) ⟨_,by first|exact dx _|exact ai _ _⟩ ?_;try simp only[bX,pick,eh]
  try change wpQuiet _ _ _ _ (_::_) _
  repeat (go_big_quiet_step (fail))
  refine wpQuiet_nil ?_;try change wpQuiet _ _ _ _ (_::_) _
  repeat (go_big_quiet_step (fail))
  refine wpQuiet_nil ?_;try change wpList _ _ _ (_::_) _ _
  go_wp2_with ((with_reducible refine ag (KM _ _) ?_);rintro e w' ⟨b1,rfl,⟨x1,rfl⟩,hc1⟩;(try simp only[bf,au,ai]at hc1);(have GF:=aa hc1);clear hc1)
  refine dn (by first|exact⟨_,(cF _).symm⟩|exact⟨_,rfl⟩|exact ae) ?_;try simp only[bX,pick,eh]
  try change wpQuiet _ _ _ _ (_::_) _
  repeat (go_big_quiet_step (fail))
  refine wpQuiet_nil ?_;try change wpList _ _ _ (_::_) _ _
  go_wp2_with ((with_reducible refine ag (qJ 95 #[.pointer (some ⟨b1,0,none⟩)] (iL e.rule.name) _ _ _ p.rules _ oQ ?_ ?_) ?_);exact Q3.zo.exts ae;(intro w'' i d cs he hd hR;exact KL d _ _ cs w'' hR (((show af (av _ x1) _ from ae).trans he).cell GF.zo));rintro _ w' ⟨rfl,x2,rfl⟩;rw[HA.zo])
  refine cV ?_;go_wp2_with fail
  with_reducible refine ag (Ov 98 99 #[] #[.pointer (some ⟨w.heap.size+1,0,none⟩)] (fun _=>false) (l:=p.rules) (r:=e.rule) (w0:=w) _ ae SB SC Q3.zo (by omega) ?_ _ (by omega) (nR fun _ _ _=>rfl) ?_) ?_
  ·intro w'' i d cs he hd hR
   exact afx d cs w'' hR
  ·intro D base g c' w1 hx hD hb ho
   have hx2:=(show af w (av _ _)from ae).trans hx;refine afz w1 ho (by simp) (d:=zR) (by simp) (jg.of HR.zo hx2 fun b hb1=>⟨hD b hb1,fun h0=> ?_⟩) fun j u hu=> ?_
   ·have h1:=(ho.lt h0).1
    simp at hb;omega
   ·rw[(HB.zo.exts ((show af _ (av _ _)from ae).trans hx)).cell (4+j)]
    exact WG hu
  rintro _ w' ⟨ao',c',rfl,⟨x3,rfl⟩,hs⟩;try simp only[bf,au,ai,il]at hs
  have HS:=aa hs;clear hs;go_wp2;have e1:(p.rules++ [e.rule]).length=p.rules.length+1:=by simp
  have HS2:=aa (fun(p1 p2 p3:Obj)=>HS.zo.at ((On.three (p1:=p1) (p2:=p2) (p3:=p3)).mono fun b hb=>by
   rcases hb with hb|hb
   ·exact .inl hb
   ·have:=(HS.zo.lt hb).1
    simp at this;exact .inr (by omega)))
  refine bodyPost_ret (v:=.tuple #[.agg #[.slice bF p.defs.length bG,.slice aN p.tables.length aK,.slice aX p.zones.length aY,.slice ao' (p.rules.length+1) c',.slice bN p.caps.length bO,.slice bj p.views.length aZ,.slice cj p.eA.length ck,.int .i64 p.hours],.int .i64 0]) (by simp[results,go_sem]) rfl ⟨[.slice bF p.defs.length bG,.slice aN p.tables.length aK,.slice aX p.zones.length aY,.slice ao' (p.rules.length+1) c',.slice bN p.caps.length bO,.slice bj p.views.length aZ,.slice cj p.eA.length ck,.int .i64 p.hours],rfl,ae,⟨_,_,_,_,_,_,_,_,_,_,_,_,_,_,_,_,_,_,_,_,_,_,rfl⟩,fun _=>⟨_,_,_,_,_,_,_,_,_,_,_,_,_,_,by rw[<-e1],Q0.zo.exts ae,Q1.zo.exts ae,Q2.zo.exts ae,((HS2.zo _ _ _).sl rfl),Q4.zo.exts ae,Q5.zo.exts ae,Q6.zo.exts ae,Q7.zo⟩⟩
theorem Ox(p:Plan)(e:fN)(cs ds:zv)(w:World)(h:(bq).R w cs p)(h2:(cY).R w ds e)(hk:e.kind=5)(hr:p.rules.length<200)(hc:p.caps.length<=1000):Calls prog 32 #[.agg cs.toArray,.agg ds.toArray] w fun r w'=> ∃(cs':zv),r=.returned (.tuple #[.agg cs'.toArray,.int .i64 (mJ p e)])/\af w w'/\zr cs'/\(mJ p e=0->(bq).R w' cs' (jR p e)):=by
 obtain⟨bF,bG,aN,aK,aX,aY,bH,bE,bN,bO,bj,aZ,cj,ck,rfl,q0,q1,q2,q3,q4,q5,q6,q7⟩:=h;obtain⟨az,aA,aT,aU,aL,aM,dg,dh,bA,bC,rfl,t0,t1,t2,t3,t4,t5,t6,t7,t8,t9,t10,t11,t12,t13,t14,t15,t16,t17,uw,t19,t20⟩:=h2;rw[hk];have Q0:=aa q0;have Q1:=aa q1;have Q2:=aa q2;have Q3:=aa q3;have Q4:=aa q4;have Q5:=aa q5;have Q6:=aa q6;have Q7:=aa q7;have T0:=aa t0;have T1:=aa t1;have T2:=aa t2;have T3:=aa t3;have T4:=aa t4;have T5:=aa t5;have T6:=aa t6;have T7:=aa t7;have T8:=aa t8;have T9:=aa t9;have T10:=aa t10;have T11:=aa t11;have T12:=aa t12;have T13:=aa t13;have RN:=aa t14;have T15:=aa t15;have RO:=aa t16;have RP:=aa t17;have RQ:=aa uw;have V9:=aa t19;have UG:=aa t20;have HK:=aa hk;clear hk q0 q1 q2 q3 q4 q5 q6 q7 t0 t1 t2 t3 t4 t5 t6 t7 t8 t9 t10 t11 t12 t13 t14 t15 t16 t17 uw t19 t20;have HB:=aa (show Bx ((w.alloc (.cells #[.slice bF p.defs.length bG,.slice aN p.tables.length aK,.slice aX p.zones.length aY,.slice bH p.rules.length bE,.slice bN p.caps.length bO,.slice bj p.views.length aZ,.slice cj p.eA.length ck,.int .i64 p.hours] 30)).alloc (.cells #[.int .i64 5,.string e.name,.string e.key,.int .i64 e.n,.string e.rule.name,.slice az e.rule.zones.length aA,.slice aT e.rule.exc.length aU,.int .i64 e.rule.start,.int .i64 e.rule.stop,.int .i64 e.rule.bM,.bool e.rule.vary,.int .i64 e.rule.kind,.int .i64 e.rule.test.op,.int .i64 e.rule.test.num,.string e.rule.test.str,.string e.rule.test.key,.slice aL e.rule.test.args.length aM,.int .i64 e.rule.ah.side,.int .i64 e.rule.ah.base,.int .i64 e.rule.ah.num,.int .i64 e.rule.ah.den,.int .i64 e.rule.uses,.int .i64 e.rule.other,.int .i64 e.rule.n,.int .i64 e.body.op,.int .i64 e.body.num,.string e.body.str,.string e.body.key,.slice dg e.body.args.length dh,.slice bA e.corners.length bC] 55)) (w.heap.size+1) [.int .i64 5,.string e.name,.string e.key,.int .i64 e.n,.string e.rule.name,.slice az e.rule.zones.length aA,.slice aT e.rule.exc.length aU,.int .i64 e.rule.start,.int .i64 e.rule.stop,.int .i64 e.rule.bM,.bool e.rule.vary,.int .i64 e.rule.kind,.int .i64 e.rule.test.op,.int .i64 e.rule.test.num,.string e.rule.test.str,.string e.rule.test.key,.slice aL e.rule.test.args.length aM,.int .i64 e.rule.ah.side,.int .i64 e.rule.ah.base,.int .i64 e.rule.ah.num,.int .i64 e.rule.ah.den,.int .i64 e.rule.uses,.int .i64 e.rule.other,.int .i64 e.rule.n,.int .i64 e.body.op,.int .i64 e.body.num,.string e.body.str,.string e.body.key,.slice dg e.body.args.length dh,.slice bA e.corners.length bC] 55 from Bx.mv rfl (by simp));cases hr1:p.caps.any (CZ e.name)with
 |false=>
  have HA:=aa hr1;have HE:=aa (show mJ p e=4 by unfold mJ;rw[if_neg (by rw[HK.zo];omega),if_neg (by rw[HK.zo];omega),if_neg (by rw[HA.zo];simp)]);rw[HE.zo];clear hr1;go_enter func32,ntmps32;go_wp2_with fail
  with_reducible refine ag (Ce 118 119 #[.pointer (some ⟨w.heap.size+1,0,none⟩)] #[.pointer (some ⟨w.heap.size+1,0,none⟩)] (CZ e.name) (l:=p.caps) (w0:=w) _ ae Ei Q4.zo hc ?_ HA.zo) ?_
  ·intro w'' i d cs he hd hR
   exact Yn d _ _ cs w'' hR ((HB.zo.exts ((show af _ ((World.alloc _ _).alloc _)from ae).trans he)).cell 1)
  rintro _ w' ⟨rfl,⟨x3,rfl⟩⟩;go_wp2;refine bodyPost_ret (v:=.tuple #[.agg #[.slice bF p.defs.length bG,.slice aN p.tables.length aK,.slice aX p.zones.length aY,.slice bH p.rules.length bE,.slice none 0 0,.slice bj p.views.length aZ,.slice cj p.eA.length ck,.int .i64 p.hours],.int .i64 4]) (by simp[results,go_sem]) rfl ⟨[.slice bF p.defs.length bG,.slice aN p.tables.length aK,.slice aX p.zones.length aY,.slice bH p.rules.length bE,.slice none 0 0,.slice bj p.views.length aZ,.slice cj p.eA.length ck,.int .i64 p.hours],rfl,ae,⟨_,_,_,_,_,_,_,_,_,_,_,_,_,_,_,_,_,_,_,_,_,_,rfl⟩,fun h0=>by omega⟩
 |true=>
  have HA:=aa hr1;obtain⟨k,d,hk,hd⟩:=WC HA.zo;have HD:=aa hd;have HP:=aa hk;have HE:=aa (show mJ p e=0 by unfold mJ;rw[if_neg (by rw[HK.zo];omega),if_neg (by rw[HK.zo];omega),if_pos HA.zo]);have HO:=aa (show jR p e={p with caps:=p.caps.set k {d with limit:=e.n}}by unfold jR;rw[if_neg (by rw[HK.zo];omega),if_neg (by rw[HK.zo];omega),xd (f:=fun c=>{c with limit:=e.n}) HP.zo HD.zo]);rw[HE.zo,HO.zo];clear hr1 hk hd;go_enter func32,ntmps32;go_wp2_with fail
  with_reducible refine ag (Cf 118 119 #[.pointer (some ⟨w.heap.size+1,0,none⟩)] #[.pointer (some ⟨w.heap.size+1,0,none⟩)] (CZ e.name) (l:=p.caps) (d':={d with limit:=e.n}) (w0:=w) _ ae Ei Ot Q4.zo hc ?_ HP.zo HD.zo HA.zo ?_) ?_
  ·intro w'' i d cs he hd hR
   exact Yn d _ _ cs w'' hR ((HB.zo.exts ((show af _ ((World.alloc _ _).alloc _)from ae).trans he)).cell 1)
  ·intro D base g c' w1 hx hD hb ho
   exact adz w1 ho rfl HD.zo ((HB.zo.exts ((show af _ ((World.alloc _ _).alloc _)from ae).trans hx)).cell 3) T3.zo
  rintro _ w' ⟨ao',c',rfl,⟨x3,rfl⟩,hs⟩;try simp only[bf,au,ai,il]at hs
  have HS:=aa hs;clear hs;go_wp2;have HS2:=aa (fun(p1 p2 p3:Obj)=>HS.zo.at ((On.three (p1:=p1) (p2:=p2) (p3:=p3)).mono fun b hb=>by
   rcases hb with hb|hb
   ·exact .inl hb
   ·have:=(HS.zo.lt hb).1
    simp at this;exact .inr (by omega)))
  have e1:(p.caps.set k {d with limit:=e.n}).length=p.caps.length:=by simp
  refine bodyPost_ret (v:=.tuple #[.agg #[.slice bF p.defs.length bG,.slice aN p.tables.length aK,.slice aX p.zones.length aY,.slice bH p.rules.length bE,.slice ao' p.caps.length c',.slice bj p.views.length aZ,.slice cj p.eA.length ck,.int .i64 p.hours],.int .i64 0]) (by simp[results,go_sem]) rfl ⟨[.slice bF p.defs.length bG,.slice aN p.tables.length aK,.slice aX p.zones.length aY,.slice bH p.rules.length bE,.slice ao' p.caps.length c',.slice bj p.views.length aZ,.slice cj p.eA.length ck,.int .i64 p.hours],rfl,ae,⟨_,_,_,_,_,_,_,_,_,_,_,_,_,_,_,_,_,_,_,_,_,_,rfl⟩,fun _=>⟨_,_,_,_,_,_,_,_,_,_,_,_,_,_,by rw[<-e1],Q0.zo.exts ae,Q1.zo.exts ae,Q2.zo.exts ae,Q3.zo.exts ae,by rw[e1];exact(HS2.zo _ _ _).sl e1,Q5.zo.exts ae,Q6.zo.exts ae,Q7.zo⟩⟩
theorem Oy(p:Plan)(e:fN)(cs ds:zv)(w:World)(h:(bq).R w cs p)(h2:(cY).R w ds e)(hk:e.kind=1)(hr:p.rules.length<200)(hc:p.caps.length<=1000):Calls prog 32 #[.agg cs.toArray,.agg ds.toArray] w fun r w'=> ∃(cs':zv),r=.returned (.tuple #[.agg cs'.toArray,.int .i64 (mJ p e)])/\af w w'/\zr cs'/\(mJ p e=0->(bq).R w' cs' (jR p e)):=by
 obtain⟨bF,bG,aN,aK,aX,aY,bH,bE,bN,bO,bj,aZ,cj,ck,rfl,q0,q1,q2,q3,q4,q5,q6,q7⟩:=h;obtain⟨az,aA,aT,aU,aL,aM,dg,dh,bA,bC,rfl,t0,t1,t2,t3,t4,t5,t6,t7,t8,t9,t10,t11,t12,t13,t14,t15,t16,t17,uw,t19,t20⟩:=h2;rw[hk];have Q0:=aa q0;have Q1:=aa q1;have Q2:=aa q2;have Q3:=aa q3;have Q4:=aa q4;have Q5:=aa q5;have Q6:=aa q6;have Q7:=aa q7;have T0:=aa t0;have T1:=aa t1;have T2:=aa t2;have T3:=aa t3;have T4:=aa t4;have T5:=aa t5;have T6:=aa t6;have T7:=aa t7;have T8:=aa t8;have T9:=aa t9;have T10:=aa t10;have T11:=aa t11;have T12:=aa t12;have T13:=aa t13;have RN:=aa t14;have T15:=aa t15;have RO:=aa t16;have RP:=aa t17;have RQ:=aa uw;have V9:=aa t19;have UG:=aa t20;have HK:=aa hk;clear hk q0 q1 q2 q3 q4 q5 q6 q7 t0 t1 t2 t3 t4 t5 t6 t7 t8 t9 t10 t11 t12 t13 t14 t15 t16 t17 uw t19 t20;have HB:=aa (show Bx ((w.alloc (.cells #[.slice bF p.defs.length bG,.slice aN p.tables.length aK,.slice aX p.zones.length aY,.slice bH p.rules.length bE,.slice bN p.caps.length bO,.slice bj p.views.length aZ,.slice cj p.eA.length ck,.int .i64 p.hours] 30)).alloc (.cells #[.int .i64 1,.string e.name,.string e.key,.int .i64 e.n,.string e.rule.name,.slice az e.rule.zones.length aA,.slice aT e.rule.exc.length aU,.int .i64 e.rule.start,.int .i64 e.rule.stop,.int .i64 e.rule.bM,.bool e.rule.vary,.int .i64 e.rule.kind,.int .i64 e.rule.test.op,.int .i64 e.rule.test.num,.string e.rule.test.str,.string e.rule.test.key,.slice aL e.rule.test.args.length aM,.int .i64 e.rule.ah.side,.int .i64 e.rule.ah.base,.int .i64 e.rule.ah.num,.int .i64 e.rule.ah.den,.int .i64 e.rule.uses,.int .i64 e.rule.other,.int .i64 e.rule.n,.int .i64 e.body.op,.int .i64 e.body.num,.string e.body.str,.string e.body.key,.slice dg e.body.args.length dh,.slice bA e.corners.length bC] 55)) (w.heap.size+1) [.int .i64 1,.string e.name,.string e.key,.int .i64 e.n,.string e.rule.name,.slice az e.rule.zones.length aA,.slice aT e.rule.exc.length aU,.int .i64 e.rule.start,.int .i64 e.rule.stop,.int .i64 e.rule.bM,.bool e.rule.vary,.int .i64 e.rule.kind,.int .i64 e.rule.test.op,.int .i64 e.rule.test.num,.string e.rule.test.str,.string e.rule.test.key,.slice aL e.rule.test.args.length aM,.int .i64 e.rule.ah.side,.int .i64 e.rule.ah.base,.int .i64 e.rule.ah.num,.int .i64 e.rule.ah.den,.int .i64 e.rule.uses,.int .i64 e.rule.other,.int .i64 e.rule.n,.int .i64 e.body.op,.int .i64 e.body.num,.string e.body.str,.string e.body.key,.slice dg e.body.args.length dh,.slice bA e.corners.length bC] 55 from Bx.mv rfl (by simp));rcases oq (iL e.name) p.rules with⟨h1,h2⟩|⟨k,d,h1,h2,h3⟩
 ·have HP:=aa h1
  have HE:=aa (show mJ p e=4 by unfold mJ;rw[if_neg (by rw[HK.zo];omega),if_pos HK.zo,h2]);rw[HE.zo];have HA:=aa (show p.rules.any (iL e.name)=false by rw[<-n9,h1];rfl);clear h1 h2;go_enter func32,ntmps32;go_wp2;refine b9 (S:=fun w'=> ∃x,w'=av _ x) [0,2,3] [([1,4],5)] [] [6,7] (by kernel_rfl) (by kernel_rfl) ⟨_,by first|exact dx _|exact ai _ _⟩ ?_;try simp only[bX,pick,eh]
  try change wpQuiet _ _ _ _ (_::_) _
  repeat (go_big_quiet_step (fail))
  refine wpQuiet_nil ?_;try change wpQuiet _ _ _ _ (_::_) _
  repeat (go_big_quiet_step (fail))
  refine wpQuiet_nil ?_;try change wpList _ _ _ (_::_) _ _
  go_wp2_with ((with_reducible refine ag (KM _ _) ?_);rintro e w' ⟨b1,rfl,⟨x1,rfl⟩,hc1⟩;(try simp only[bf,au,ai,il]at hc1);(have GF:=aa hc1);clear hc1)
  refine dn (by first|exact⟨_,(cF _).symm⟩|exact⟨_,rfl⟩|exact ae) ?_;try simp only[bX,pick,eh]
  try change wpQuiet _ _ _ _ (_::_) _
  repeat (go_big_quiet_step (fail))
  refine wpQuiet_nil ?_;try change wpList _ _ _ (_::_) _ _
  go_wp2_with ((with_reducible refine ag (pZ 95 #[.pointer (some ⟨b1,0,none⟩)] (iL e.name) _ _ _ p.rules _ oQ ?_ ?_) ?_);exact Q3.zo.exts ae;(intro w'' i d cs he hd hR;exact KL d _ _ cs w'' hR (((show af (av _ x1) _ from ae).trans he).cell GF.zo));rintro _ w' ⟨rfl,x2,rfl⟩;rw[HP.zo])
  refine cV ?_;go_wp2;first|refine eK ?_|refine eJ ?_
  repeat (go_big_quiet_step (fail))
  refine eM fun xq=> ?_
  go_wp2;refine zl (S:=fun w'=> ∃x,w'=av _ x) [0,2,3] [([1,4,6],5),([],7)] [] [8,9,10,11] [12,13] (by kernel_rfl) (by kernel_rfl) (by kernel_rfl) ⟨_,by first|exact dx _|exact ai _ _⟩ ?_;try simp only[bX,pick,eh]
  try change wpQuiet _ _ _ _ (_::_) _
  repeat (go_big_quiet_step (fail))
  refine wpQuiet_nil ?_;try change wpQuiet _ _ _ _ (_::_) _
  repeat (go_big_quiet_step (fail))
  refine wpQuiet_nil ?_;try change wpList _ _ _ (_::_) _ _
  go_wp2_with ((with_reducible refine ag (KM _ _) ?_);rintro e w' ⟨b2,rfl,⟨x3,rfl⟩,hc2⟩;(try simp only[bf,au,ai,il]at hc2);(have HC2:=aa hc2);clear hc2)
  refine dn (by first|exact⟨_,(cF _).symm⟩|exact⟨_,rfl⟩|exact ae) ?_;try simp only[bX,pick,eh]
  try change wpQuiet _ _ _ _ (_::_) _
  repeat (go_big_quiet_step (fail))
  refine wpQuiet_nil ?_;try change wpList _ _ _ (_::_) _ _
  go_wp2_with fail
  with_reducible refine ag (Cb 95 102 #[.pointer (some ⟨b2,0,none⟩)] #[.pointer (some ⟨w.heap.size+1,0,none⟩)] (iL e.name) (l:=p.rules) (w0:=w) _ ae oQ Q3.zo (by omega) ?_ HA.zo) ?_
  ·intro w'' i d cs he hd hR
   exact KL d _ _ cs w'' hR (((show af (av _ _) (av _ _)from ae).trans he).cell HC2.zo)
  rintro _ w' ⟨rfl,⟨x4,rfl⟩⟩;go_wp2;refine dn (by first|exact⟨_,(cF _).symm⟩|exact⟨_,rfl⟩|exact ae) ?_;try simp only[bX,pick,eh]
  try change wpQuiet _ _ _ _ (_::_) _
  repeat (go_big_quiet_step (fail))
  refine wpQuiet_nil ?_;try change wpList _ _ _ (_::_) _ _
  go_wp2;refine cV ?_;go_wp2;refine bodyPost_ret (v:=.tuple #[.agg #[.slice bF p.defs.length bG,.slice aN p.tables.length aK,.slice aX p.zones.length aY,.slice none 0 0,.slice bN p.caps.length bO,.slice bj p.views.length aZ,.slice cj p.eA.length ck,.int .i64 p.hours],.int .i64 4]) (by simp[results,go_sem]) rfl ⟨[.slice bF p.defs.length bG,.slice aN p.tables.length aK,.slice aX p.zones.length aY,.slice none 0 0,.slice bN p.caps.length bO,.slice bj p.views.length aZ,.slice cj p.eA.length ck,.int .i64 p.hours],rfl,ae,⟨_,_,_,_,_,_,_,_,_,_,_,_,_,_,_,_,_,_,_,_,_,_,rfl⟩,fun h0=>by omega⟩
 ·obtain⟨rb,ro,cs,rfl,lb,hR,hld⟩:=Q3.zo.ld h2
  have HP:=aa h1;have HD:=aa h2;have hkl:=(bw h2).1;have C3:∀w',af w w'->w'.cell? ⟨rb,ro+k*20+3,none⟩=some (.int .i64 d.start):=fun w' he=>by
   obtain⟨b2,o2,_,_,_,_,_,_,e2,_,_,_,_,c3,_⟩:=PR Q3.zo h2;cases e2;exact he.cell c3
  cases hdd:decide (e.n<=d.start)with
  |true=>
   have HE:=aa (show mJ p e=20 by unfold mJ;rw[if_neg (by rw[HK.zo];omega),if_pos HK.zo,h3];simp only;rw[if_pos (of_decide_eq_true hdd)]);rw[HE.zo];go_enter func32,ntmps32;go_wp2;refine b9 (S:=fun w'=> ∃x,w'=av _ x) [0,2,3] [([1,4],5)] [] [6,7] (by kernel_rfl) (by kernel_rfl) ⟨_,by first|exact dx _|exact ai _ _⟩ ?_;try simp only[bX,pick,eh]
   try change wpQuiet _ _ _ _ (_::_) _
   repeat (go_big_quiet_step (fail))
   refine wpQuiet_nil ?_;try change wpQuiet _ _ _ _ (_::_) _
   repeat (go_big_quiet_step (fail))
   refine wpQuiet_nil ?_;try change wpList _ _ _ (_::_) _ _
   go_wp2_with ((with_reducible refine ag (KM _ _) ?_);rintro e w' ⟨b1,rfl,⟨x1,rfl⟩,hc1⟩;(try simp only[bf,au,ai,il]at hc1);(have GF:=aa hc1);clear hc1)
   refine dn (by first|exact⟨_,(cF _).symm⟩|exact⟨_,rfl⟩|exact ae) ?_;try simp only[bX,pick,eh]
   try change wpQuiet _ _ _ _ (_::_) _
   repeat (go_big_quiet_step (fail))
   refine wpQuiet_nil ?_;try change wpList _ _ _ (_::_) _ _
   go_wp2_with ((with_reducible refine ag (pZ 95 #[.pointer (some ⟨b1,0,none⟩)] (iL e.name) _ _ _ p.rules _ oQ ?_ ?_) ?_);exact Q3.zo.exts ae;(intro w'' i d cs he hd hR;exact KL d _ _ cs w'' hR (((show af (av _ x1) _ from ae).trans he).cell GF.zo));rintro _ w' ⟨rfl,x2,rfl⟩;rw[HP.zo])
   refine cV ?_;go_wp2;first|refine eK ?_|refine eJ ?_
   repeat (go_big_quiet_step (fail))
   refine eM fun xq=> ?_
   go_wp2;refine bodyPost_ret (v:=.tuple #[.agg #[.slice bF p.defs.length bG,.slice aN p.tables.length aK,.slice aX p.zones.length aY,.slice (some ⟨rb,ro,none⟩) p.rules.length bE,.slice bN p.caps.length bO,.slice bj p.views.length aZ,.slice cj p.eA.length ck,.int .i64 p.hours],.int .i64 20]) (by simp[results,go_sem]) rfl ⟨[.slice bF p.defs.length bG,.slice aN p.tables.length aK,.slice aX p.zones.length aY,.slice (some ⟨rb,ro,none⟩) p.rules.length bE,.slice bN p.caps.length bO,.slice bj p.views.length aZ,.slice cj p.eA.length ck,.int .i64 p.hours],rfl,ae,⟨_,_,_,_,_,_,_,_,_,_,_,_,_,_,_,_,_,_,_,_,_,_,rfl⟩,fun h0=>by omega⟩
  |false=>
   have HE:=aa (show mJ p e=0 by unfold mJ;rw[if_neg (by rw[HK.zo];omega),if_pos HK.zo,h3];simp only;rw[if_neg (of_decide_eq_false hdd)]);have HO:=aa (show jR p e={p with rules:=p.rules.set k {d with stop:=e.n}}by unfold jR;rw[if_neg (by rw[HK.zo];omega),if_pos HK.zo,xd (f:=fun r=>{r with stop:=e.n}) HP.zo HD.zo]);have HA:=aa (show p.rules.any (iL e.name)=true by rw[<-n9,h1];simp);rw[HE.zo,HO.zo];clear h1 h2 h3;go_enter func32,ntmps32;go_wp2;refine b9 (S:=fun w'=> ∃x,w'=av _ x) [0,2,3] [([1,4],5)] [] [6,7] (by kernel_rfl) (by kernel_rfl) ⟨_,by first|exact dx _|exact ai _ _⟩ ?_;try simp only[bX,pick,eh]
   try change wpQuiet _ _ _ _ (_::_) _
   repeat (go_big_quiet_step (fail))
   refine wpQuiet_nil ?_;try change wpQuiet _ _ _ _ (_::_) _
   repeat (go_big_quiet_step (fail))
   refine wpQuiet_nil ?_;try change wpList _ _ _ (_::_) _ _
   go_wp2_with ((with_reducible refine ag (KM _ _) ?_);rintro e w' ⟨b1,rfl,⟨x1,rfl⟩,hc1⟩;(try simp only[bf,au,ai,il]at hc1);(have GF:=aa hc1);clear hc1)
   refine dn (by first|exact⟨_,(cF _).symm⟩|exact⟨_,rfl⟩|exact ae) ?_;try simp only[bX,pick,eh]
   try change wpQuiet _ _ _ _ (_::_) _
   repeat (go_big_quiet_step (fail))
   refine wpQuiet_nil ?_;try change wpList _ _ _ (_::_) _ _
   go_wp2_with ((with_reducible refine ag (pZ 95 #[.pointer (some ⟨b1,0,none⟩)] (iL e.name) _ _ _ p.rules _ oQ ?_ ?_) ?_);exact Q3.zo.exts ae;(intro w'' i d cs he hd hR;exact KL d _ _ cs w'' hR (((show af (av _ x1) _ from ae).trans he).cell GF.zo));rintro _ w' ⟨rfl,x2,rfl⟩;rw[HP.zo])
   refine cV ?_;go_wp2;first|refine eK ?_|refine eJ ?_
   repeat (go_big_quiet_step (fail))
   refine eM fun xq=> ?_
   go_wp2;refine zl (S:=fun w'=> ∃x,w'=av _ x) [0,2,3] [([1,4,6],5),([],7)] [] [8,9,10,11] [12,13] (by kernel_rfl) (by kernel_rfl) (by kernel_rfl) ⟨_,by first|exact dx _|exact ai _ _⟩ ?_;try simp only[bX,pick,eh]
   try change wpQuiet _ _ _ _ (_::_) _
   repeat (go_big_quiet_step (fail))
   refine wpQuiet_nil ?_;try change wpQuiet _ _ _ _ (_::_) _
   repeat (go_big_quiet_step (fail))
   refine wpQuiet_nil ?_;try change wpList _ _ _ (_::_) _ _
   go_wp2_with ((with_reducible refine ag (KM _ _) ?_);rintro e w' ⟨b2,rfl,⟨x3,rfl⟩,hc2⟩;(try simp only[bf,au,ai,il]at hc2);(have HC2:=aa hc2);clear hc2)
   refine dn (by first|exact⟨_,(cF _).symm⟩|exact⟨_,rfl⟩|exact ae) ?_;try simp only[bX,pick,eh]
   try change wpQuiet _ _ _ _ (_::_) _
   repeat (go_big_quiet_step (fail))
   refine wpQuiet_nil ?_;try change wpList _ _ _ (_::_) _ _
   go_wp2_with fail
   with_reducible refine ag (Cc 95 102 #[.pointer (some ⟨b2,0,none⟩)] #[.pointer (some ⟨w.heap.size+1,0,none⟩)] (iL e.name) (l:=p.rules) (d':={d with stop:=e.n}) (w0:=w) _ ae oQ Oq Q3.zo (by omega) ?_ HP.zo HD.zo HA.zo ?_) ?_
   ·intro w'' i d cs he hd hR
    exact KL d _ _ cs w'' hR (((show af (av _ _) (av _ _)from ae).trans he).cell HC2.zo)
   ·intro D base g c' w1 hx hD hb ho
    exact ady w1 ho rfl HD.zo ((HB.zo.exts ((show af _ (av _ _)from ae).trans hx)).cell 3) T3.zo
   rintro _ w' ⟨ao',c',rfl,⟨x4,rfl⟩,hs⟩;try simp only[bf,au,ai,il]at hs
   have HS:=aa hs;clear hs;go_wp2;refine dn (by first|exact⟨_,(cF _).symm⟩|exact⟨_,rfl⟩|exact ae) ?_;try simp only[bX,pick,eh]
   try change wpQuiet _ _ _ _ (_::_) _
   repeat (go_big_quiet_step (fail))
   refine wpQuiet_nil ?_;try change wpList _ _ _ (_::_) _ _
   go_wp2;refine cV ?_;go_wp2;have HS2:=aa (fun(p1 p2 p3:Obj)=>HS.zo.at ((On.three (p1:=p1) (p2:=p2) (p3:=p3)).mono fun b hb=>by
    rcases hb with hb|hb
    ·exact .inl hb
    ·have:=(HS.zo.lt hb).1
     simp at this;exact .inr (by omega)))
   have e1:(p.rules.set k {d with stop:=e.n}).length=p.rules.length:=by simp
   refine bodyPost_ret (v:=.tuple #[.agg #[.slice bF p.defs.length bG,.slice aN p.tables.length aK,.slice aX p.zones.length aY,.slice ao' p.rules.length c',.slice bN p.caps.length bO,.slice bj p.views.length aZ,.slice cj p.eA.length ck,.int .i64 p.hours],.int .i64 0]) (by simp[results,go_sem]) rfl ⟨[.slice bF p.defs.length bG,.slice aN p.tables.length aK,.slice aX p.zones.length aY,.slice ao' p.rules.length c',.slice bN p.caps.length bO,.slice bj p.views.length aZ,.slice cj p.eA.length ck,.int .i64 p.hours],rfl,ae,⟨_,_,_,_,_,_,_,_,_,_,_,_,_,_,_,_,_,_,_,_,_,_,rfl⟩,fun _=>⟨_,_,_,_,_,_,_,_,_,_,_,_,_,_,by rw[<-e1],Q0.zo.exts ae,Q1.zo.exts ae,Q2.zo.exts ae,by rw[e1];exact(HS2.zo _ _ _).sl e1,Q4.zo.exts ae,Q5.zo.exts ae,Q6.zo.exts ae,Q7.zo⟩⟩
section
structure Bar(w:World)(b:Nat):Prop where
 str:∀i s,w.cell? ⟨b,i,none⟩≠some (.string s)
 two:∀i x y,w.cell? ⟨b,i,none⟩=some (.int .i64 x)->w.cell? ⟨b,i+1,none⟩≠some (.int .i64 y)
def Sharp(cs:zv):Prop:=(∃s,cs[0]?=some (.string s))∨∃x y,cs[0]?=some (.int .i64 x)/\cs[1]?=some (.int .i64 y)
section
variable {w w1:World}{b0 k n:Nat}{v:Value}{xs:zv}
theorem fB.kept(h:fB (fun _=>True) k w v n xs)(hb:Bar w b0)(ho:On (fun b=>b≠b0) w w1)(hs:0<n->Sharp ((xs.drop (0*k)).take k)):fB (fun _=>True) k w1 v n xs:=by
 obtain⟨q1,ao,cap,hv,q2,q3,q4,q5⟩:=h;refine⟨q1,ao,cap,hv,q2,q3,q4,fun hn=> ?_⟩;obtain⟨b,off,e,ht,hl,hc⟩:=q5 hn;have up:∀j u,((xs.drop (0*k)).take k)[j]?=some u->xs[j]?=some u:=fun j u hu=>by
  rw[List.getElem?_take]at hu;split at hu
  ·rw[List.getElem?_drop]at hu
   simpa using hu
  ·cases hu
 have hne:b≠b0:=by
  rintro rfl;rcases hs hn with⟨s,h0⟩|⟨x,y,h0,h1⟩
  ·exact hb.str _ _ (hc 0 _ (up 0 _ h0))
  ·exact hb.two _ _ _ (hc 0 _ (up 0 _ h0)) (hc 1 _ (up 1 _ h1))
 exact⟨b,off,e,ht,Nat.lt_of_lt_of_le hl ho.size,fun t c hx=>ho.cell hne (hc t c hx)⟩
theorem Sl.kept{T:Type}{L:Lay T}{ao:Option Addr}{c:Nat}{l:List T}(h:Sl L w ao n c l)(hb:Bar w b0)(ho:On (fun b=>b≠b0) w w1)(hs:∀cs d,L.R w cs d->Sharp cs)(he:∀cs d,L.R w cs d->L.R w1 cs d):Sl L w1 ao n c l:=by
 obtain⟨h1,xs,h2,h3⟩:=h;exact⟨h1,xs,h2.kept hb ho fun hn=>hs _ _ (h3 0 l[0] (fZ (by omega))),fun i d hd=>he _ _ (h3 i d hd)⟩
theorem Ej{cs:zv}{d:Xp}(h:iP w cs d):Sharp cs:=by
 cases h;exact .inr ⟨_,_,rfl,rfl⟩
theorem iP.kept{cs:zv}{d:Xp}(h:iP w cs d)(hb:Bar w b0)(ho:On (fun b=>b≠b0) w w1):iP w1 cs d:=by
 induction h with
 |mk op num str key args ao c xs h1 h2 h3 h4 hr h ih=>exact .mk op num str key args ao c xs h1 h2 h3 h4 (hr.kept hb ho fun hn=>Ej (h 0 args[0] (fZ hn))) ih
theorem yv.kept{ao:Option Addr}{c:Nat}{e:Xp}(h:yv w ao c e)(hb:Bar w b0)(ho:On (fun b=>b≠b0) w w1):yv w1 ao c e:=⟨h.1,h.2.1,h.2.2.1,h.2.2.2.1,h.2.2.2.2.kept hb ho (fun cs d h=>Ej h) fun cs d h=>iP.kept h hb ho⟩
theorem Sl.qz{T:Type}{L:Lay T}{ao:Option Addr}{c:Nat}{l:List T}(h:Sl L w ao n c l)(hb:Bar w b0)(ho:On (fun b=>b≠b0) w w1)(hs:∀cs d,L.R w cs d->Sharp cs/\L.R w1 cs d):Sl L w1 ao n c l:=h.kept hb ho (fun cs d h=>(hs cs d h).1) fun cs d h=>(hs cs d h).2
theorem yg{cs:zv}{p:Plan}(h:(bq).R w cs p)(hb:Bar w b0)(ho:On (fun b=>b≠b0) w w1):(bq).R w1 cs p:=by
 have hp3:∀cs d,(yw).R w cs d->Sharp cs/\(yw).R w1 cs d:=fun cs d h=>by
  obtain⟨rfl,q0,q1,q2⟩:=h;exact⟨.inr ⟨_,_,rfl,rfl⟩,rfl,q0,q1,q2⟩
 have hpt:∀cs d,(zV).R w cs d->Sharp cs/\(zV).R w1 cs d:=fun cs d h=>by
  obtain⟨rfl,q0,q1⟩:=h;exact⟨.inr ⟨_,_,rfl,rfl⟩,rfl,q0,q1⟩
 have hst:∀cs d,(fC).R w cs d->Sharp cs/\(fC).R w1 cs d:=fun cs d h=>by
  obtain⟨rfl,q0⟩:=h;exact⟨.inl ⟨_,rfl⟩,rfl,q0⟩
 have hen:∀cs d,(eY).R w cs d->Sharp cs/\(eY).R w1 cs d:=fun cs d h=>by
  obtain⟨rfl,q0,q1⟩:=h;exact⟨.inl ⟨_,rfl⟩,rfl,q0,q1⟩
 obtain⟨o1,c1,o2,c2,o3,c3,o4,c4,o5,c5,o6,c6,o7,c7,rfl,q1,q2,q3,q4,q5,q6,q7,q8⟩:=h;refine⟨o1,c1,o2,c2,o3,c3,o4,c4,o5,c5,o6,c6,o7,c7,rfl,q1.qz hb ho ?_,q2.qz hb ho ?_,q3.qz hb ho ?_,q4.qz hb ho ?_,q5.qz hb ho ?_,q6.qz hb ho ?_,q7.qz hb ho hp3,q8⟩
 ·rintro cs d ⟨o,c,rfl,t0,t1⟩
  exact⟨.inl ⟨_,rfl⟩,o,c,rfl,t0,t1.kept hb ho⟩
 ·rintro cs d ⟨o,c,rfl,t0,t1,t2⟩
  exact⟨.inl ⟨_,rfl⟩,o,c,rfl,t0,t1.qz hb ho hen,t2⟩
 ·rintro cs d ⟨o,c,rfl,t0,t1⟩
  exact⟨.inl ⟨_,rfl⟩,o,c,rfl,t0,t1.qz hb ho hpt⟩
 ·rintro cs d ⟨oz,cz,oe,ce,ot,ct,rfl,t0,t1,t2,t3,t4,t5,t6,t7,t8⟩
  exact⟨.inl ⟨_,rfl⟩,oz,cz,oe,ce,ot,ct,rfl,t0,t1.qz hb ho hst,t2.qz hb ho hst,t3,t4,t5,t6,t7.kept hb ho,t8⟩
 ·rintro cs d ⟨o,c,rfl,t0,t1,t2,t3⟩
  exact⟨.inl ⟨_,rfl⟩,o,c,rfl,t0,t1,t2,t3.qz hb ho hpt⟩
 ·rintro cs d ⟨o,c,rfl,t0,t1,t2,t3,t4,t5⟩
  exact⟨.inl ⟨_,rfl⟩,o,c,rfl,t0,t1,t2,t3,t4,t5.qz hb ho hp3⟩
theorem Bar.of{cs:zv}{t:TypeId}(h:Bx w b0 cs t)(hc:zr cs):Bar w b0:=by
 obtain⟨o1,n1,c1,o2,n2,c2,o3,n3,c3,o4,n4,c4,o5,n5,c5,o6,n6,c6,o7,n7,c7,hh,rfl⟩:=hc;refine⟨fun i s=> ?_,fun i x y hx=> ?_⟩
 ·rw[h.cell]
  match i with
  |0|1|2|3|4|5|6|7=>simp
  |i+8=>simp
 ·rw[h.cell]at hx ⊢
  match i,hx with
  |0,hx|1,hx|2,hx|3,hx|4,hx|5,hx|6,hx=>simp at hx
  |7,hx=>simp
  |i+8,hx=>simp at hx
end
end
section
open Go.ChangeShapes Go.WideShapes Go.ChangeAt Go.WideMaps Go.WideElems Go.RowKit
def Cz:List (List UInt8):= [[60,61],[61,61],[59],[44],[58],[61],[60],[43],[45],[42],[47],[37],[40],[41]]
theorem Ul:prog.globalNamed "greenbelt/lex.signs" =some 0:=by kernel_rfl
theorem aaX:(prog.globals[0]?).map (·.type)=some 311:=by kernel_rfl
abbrev YM:List (String×DataW Unit):= [("unicode.White_Space",Rows.laid_unicode_White_Space),("strings.asciiSpace",Rows.laid_strings_asciiSpace),("greenbelt/lex.signs",Rows.laid_greenbelt_lex_signs)]
theorem door_met(os:Os)(args:Array Value):laidMetH prog YM ((World.doorLaid prog 38 os).forCall (fun _ _=>0) ⟨#[],args,[]⟩).memory:=
 laidMetH_of_parts3 (fuel:=8) (laidMet_of_run' 8 (by kernel_rfl) (by kernel_rfl)) (by kernel_rfl) (by kernel_rfl)
theorem aaY{H:Type}:(Rows.laid_greenbelt_lex_signs:DataW H)=.agg (Cz.map fun x=> .lit (.string x)):=rfl
theorem JE{W:World}(h:laidMetH prog YM W):qA W:=by
 rw[MakeChecks.laidMetH_plain _ _ _ (by kernel_rfl)]at h;obtain⟨g0,t0,cs0,f0,p0,hg0,ht0,hv0,hd0⟩:=Lib.laidMet.reads h (.tail _ (.tail _ (.head _)));obtain rfl:=Option.some.inj (Ul.symm.trans hg0);obtain rfl:=Option.some.inj (aaX.symm.trans ht0);have c9:prog.cellsOf 9=1:=by kernel_rfl
 have c44:prog.cellsOf 311=14:=by kernel_rfl
 obtain⟨xs,m,_,hx,hlen,hn,hel⟩:=DataW.trod_array underlying311 hd0;rw[c9]at hel;rw[c44]at hlen;simp only[Prod.mk.injEq]at hx;have hxs:=hx.1;rw[aaY,DataW.agg.injEq]at hxs;have key:∀(i:Nat)(x:List UInt8),Cz[i]?=some x->cs0.toList[i]?=some (.string ⟨x.toArray⟩):=by
  intro i x hi;have ahe:i<14:=(bw hi).1;have h1:=hel i ahe;have h2:xs[i]?=some (xs[i]'(by omega)):=fZ (by omega);rw[h2]at h1;obtain⟨s,e1,e2,_⟩:=DataW.trod_string underlying9 h1;have h3:(Cz.map fun x=>(DataW.lit (.string x):DataW Unit))[i]?=(xs.map (·.1))[i]?:=by rw[hxs]
  rw[List.getElem?_map,hi,List.getElem?_map,h2,e2]at h3;simp only[Option.map_some,Option.some.injEq,DataW.lit.injEq,Lit.string.injEq]at h3;rw[Nat.mul_one]at e1;have h4:(cs0.toList.drop i)[0]?=some (.string s):=by
   have:((cs0.toList.drop i).take 1)[0]?=some (.string s):=by rw[e1];rfl
   rw[List.getElem?_take]at this;simpa using this
  rw[List.getElem?_drop,Nat.add_zero]at h4;rw[h4,h3]
 have hcs:cs0=sV:=by
  apply Array.toList_inj.1;apply List.ext_getElem?;intro i;cases hi:Cz[i]? with
  |some x=>
   rw[key i x hi];have:sV.toList=Cz.map fun x=>Value.string ⟨x.toArray⟩:=rfl
   rw[this,List.getElem?_map,hi];rfl
  |none=>
   have:14<=i:=List.getElem?_eq_none_iff.1 hi;rw[List.getElem?_eq_none (by omega),List.getElem?_eq_none (by simpa using this)]
 simp only[World.var?,Ul,Option.bind_some]at hv0;split at hv0
 ·rename_i cs t fr hh
  simp only[Option.some.injEq]at hv0;subst hv0;exact⟨t,fr,by rw[hh,hcs]⟩
 ·cases hv0
theorem YN{W:World}(h:W.ShapedOpen prog):Gl W:=by
 obtain⟨h1,_⟩:=h;obtain⟨cs,hc,hs,hk⟩:=h1 2 #[.int .i64 0] 3 (of_decide_eq_true (by kernel_rfl)) (by kernel_rfl);obtain⟨ts,ht,_,hcell⟩:=hk (by kernel_rfl);have hts:prog.cellTypes prog.depth 3=some [3]:=by kernel_rfl
 obtain rfl:=Option.some.inj (ht.symm.trans hts);have hs1:cs.size=1:=hs;have hv:cs[0]?=some cs[0]:=Array.getElem?_eq_getElem (by omega);obtain⟨u,hu,hok⟩:=hcell 0 _ hv;obtain rfl:3=u:=by simpa using hu
 unfold Cell.ok at hok;rw[underlying3]at hok;cases hx:cs[0]with
 |int k m=>
  rw[hx]at hok hv;obtain⟨rfl,_⟩:=hok;refine⟨m,?_⟩;simp[World.cell?,hc,hv]
 |_=>rw[hx]at hok;exact absurd hok (by simp)
end
end Go.Proofs.YtomgpelfmgkknaaGreatDoor
