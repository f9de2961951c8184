/- Lemmas for the law. No conditions. -/
import Derived.Test.YtomgpelfmgkknaaGreatDoorM25
namespace Go.Proofs.YtomgpelfmgkknaaGreatDoor
open Go.RowKit Go.Maps
open Go.Proofs.Tryz
set_option maxRecDepth 100000
set_option maxHeartbeats 40000000
set_option linter.unusedVariables false
set_option linter.unusedSimpArgs false
def uk(day:Int)(r:Rule):Bool:=decide ((1:Int)<=r.start)&&(decide (r.start<=day)&&decide (day - r.start<r.bM))
def jT(day:Int)(l:List Rule):List Int:=(l.filter (uk day)).map fun r=>r.start - 1
theorem JF{day:Int}{l:List Rule}{k:Nat}{r:Rule}(h:l[k]?=some r):jT day (l.take (k+1))=jT day (l.take k)++if uk day r then [r.start - 1]else []:=by
 unfold jT;rw[List.take_add_one,h,Option.toList_some,List.filter_append,List.map_append];cases q:uk day r<;>simp[List.filter_cons,q]
theorem Ph(day:Int)(l:List Rule):(jT day l).length<=l.length:=by
 unfold jT;rw[List.length_map];exact List.length_filter_le _ _
def rV(l:List Rule)(day:Int):List Int:=(kG (fL (day::jT day l))).reverse
theorem XD{w:World}{a:Int}(ha:I64 a):aq dv w.heap.size 3 (w.alloc (.cells #[.int .i64 a] 3)) (.slice (some ⟨w.heap.size,0,none⟩) 1 1) [a]:=
 ⟨[.int .i64 a],World.ownsRow_lit w #[.int .i64 a] 1 (Nat.le_refl _) (by unfold maxLen;omega) rfl,fun i d hd=>by
  match i,hd with
  |0,hd=>(cases hd;exact⟨rfl,ha⟩)⟩
theorem Un(p:Plan)(cs:zv)(day:Int)(w:World)(h:(bq).R w cs p)(hd:0<=day/\day<=1152921504606846976)(hn:p.rules.length<=1000):Calls prog 14 #[.agg cs.toArray,.int .i64 day] w fun e w'=> ∃ao c,e=.returned (.slice ao (rV p.rules day).length c)/\af w w'/\Sl dv w' ao (rV p.rules day).length c (rV p.rules day):=by
 obtain⟨i0,hi,hz0,hz1,hz2⟩:=info_parts na;obtain⟨o1,c1,o2,c2,o3,c3,o4,c4,o5,c5,o6,c6,o7,c7,rfl,p0,p1,p2,p3,p4,p5,p6,p7⟩:=h;have HR:=aa p3;obtain⟨d0,d1⟩:=hd;clear p0 p1 p2 p3 p4 p5 p6 p7;go_enter func14,ntmps14;go_wp2;go_loopw [5,13] (fun o i wr=> ∃(k:Nat)(oo:Option Addr)(oc:Nat),k<=p.rules.length/\i=.int .i64 k/\o=.slice oo (day::jT day (p.rules.take k)).length oc/\af (w.alloc (.cells #[.slice o1 p.defs.length c1,.slice o2 p.tables.length c2,.slice o3 p.zones.length c3,.slice o4 p.rules.length c4,.slice o5 p.caps.length c5,.slice o6 p.views.length c6,.slice o7 p.eA.length c7,.int .i64 p.hours] 30)) wr/\aq dv (w.heap.size+1) 3 wr (.slice oo (day::jT day (p.rules.take k)).length oc) (day::jT day (p.rules.take k))) (fun _ i _=>p.rules.length - (intOf i).toNat)
 case atStart=>exact⟨0,_,_,by omega,rfl,rfl,ae,by simpa[jT]using XD (w:=w.alloc (.cells #[.slice o1 p.defs.length c1,.slice o2 p.tables.length c2,.slice o3 p.zones.length c3,.slice o4 p.rules.length c4,.slice o5 p.caps.length c5,.slice o6 p.views.length c6,.slice o7 p.eA.length c7,.int .i64 p.hours] 30)) (show I64 day by constructor<;>omega)⟩
 case round=>
  obtain⟨k,oo,oc,hk,rfl,rfl,hx,ho⟩:=hrel;have HX:=aa hx;have HO:=aa ho;have hsz:w.heap.size+1<=wr.heap.size:=by have:=hx.below.size;simpa using this
  have hpl:=Ph day (p.rules.take k);rw[List.length_take]at hpl;clear hx ho;by_cases hlt:k<p.rules.length
  ·obtain⟨d,hd⟩:=HR.zo.ex hlt
   obtain⟨b,off,cs,rfl,lb,hRR,cZ⟩:=HR.zo.ld hd;obtain⟨e1,f1,e2,f2,e3,f3,rfl,_⟩:=hRR;have hld:∀w',af wr w'->_:=fun w' he=>cZ w' ((show af w (w.alloc _)from(af.refl w).alloc _).trans (HX.zo.trans he))
   have HS:=aa (JF (day:=day) hd);have HIG:=aa (show uk day d=(decide ((1:Int)<=d.start)&&(decide (d.start<=day)&&decide (day - d.start<d.bM)))from rfl);obtain⟨F,hF⟩:∃F,jT day (p.rules.take k)=F:=⟨_,rfl⟩;rw[hF]at HS HO hpl ⊢;clear hd cZ hF;cases t0:decide ((1:Int)<=d.start)with
   |false=>
    have HE:=aa (show jT day (p.rules.take (k+1))=F by rw[HS.zo,HIG.zo,t0];simp);go_wp2;refine⟨⟨k+1,oo,oc,by omega,by go_num,by rw[HE.zo],HX.zo.trans ae,by rw[HE.zo];exact HO.zo.exts ae⟩,?_⟩;simp[intOf];omega
   |true=>
   cases t1:decide (d.start<=day)with
   |false=>
    have HE:=aa (show jT day (p.rules.take (k+1))=F by rw[HS.zo,HIG.zo,t0,t1];simp);go_wp2;refine⟨⟨k+1,oo,oc,by omega,by go_num,by rw[HE.zo],HX.zo.trans ae,by rw[HE.zo];exact HO.zo.exts ae⟩,?_⟩;simp[intOf];omega
   |true=>
   have b0:=of_decide_eq_true t0;have b1:=of_decide_eq_true t1;cases t2:decide (day - d.start<d.bM)with
   |false=>
    have HE:=aa (show jT day (p.rules.take (k+1))=F by rw[HS.zo,HIG.zo,t0,t1,t2];simp);go_wp2;refine⟨⟨k+1,oo,oc,by omega,by go_num,by rw[HE.zo],HX.zo.trans ae,by rw[HE.zo];exact HO.zo.exts ae⟩,?_⟩;simp[intOf];omega
   |true=>
    have HE:=aa (show day::jT day (p.rules.take (k+1))=(day::F)++ [d.start - 1]by rw[HS.zo,HIG.zo,t0,t1,t2];rfl);have HI:=aa (show I64 (d.start - 1)by constructor<;>omega);go_wp2_with (at_builtin;refine dz rfl (.tmp 35) (.tmp 39) 66 rfl dv (w.heap.size+1) 3 eZ.turn i0 _ 8 underlying66 hi hz0 hz1 hz2 rfl (by decide) (day::F) (d.start - 1) [.int .i64 (d.start - 1)] _ _ _ rfl rfl HO.zo ae _ 1 rfl ⟨rfl,HI.zo⟩ (jw (by simp[go_sem])) (by simp<;>omega) (by omega) (by simp<;>omega) ?_;intro ao' c' w1 hown hgrow;(have HN:=aa hown);(have HG:=aa hgrow);clear hown hgrow)
    refine⟨⟨k+1,ao',c',by omega,by go_num,by rw[HE.zo,dG];rfl,HG.zo _ (HX.zo.trans ae) (by simp),by rw[HE.zo,dG];exact HN.zo⟩,?_⟩;simp[intOf];omega
  ·obtain rfl:p.rules.length=k:=by omega
   rw[show p.rules.take p.rules.length=p.rules from dQ (Nat.le_refl _)]at HO hpl ⊢;have Yi:=aa (show rV p.rules day=(kG (fL (day::jT day p.rules))).reverse from rfl);obtain⟨L,hL⟩:∃L,day::jT day p.rules=L:=⟨_,rfl⟩;have hLl:L.length<=1001:=by rw[<-hL];simp;omega
   rw[hL]at HO Yi ⊢;have uB:=aa (show af w wr from af.trans ae HX.zo);have HSL:=aa (gO L);have UD:=aa (sq (fL L));clear hL;go_wp2_with (first|((with_reducible refine ag (xH (w0:=w) (base:=w.heap.size+1) (l:=L) ?_ rfl ?_ (by omega) (by omega)) ?_);exact HO.zo.exts ae;exact uB.zo.trans ae;rintro e W2 ⟨rfl,hx2,ho2⟩;(have gm:=aa hx2);(have jY:=aa ho2);clear hx2 ho2)|((with_reducible refine ag (tJ (w0:=w) (base:=w.heap.size+1) (l:=fL L) ?_ HSL.zo ?_ (by omega) (by omega)) ?_);exact jY.zo.exts ae;exact gm.zo.trans ae;rintro e W3 ⟨rfl,hx3,ho3⟩;(have iU:=aa hx3);(have my:=aa ho3);clear hx3 ho3)|((with_reducible refine ag (M4 (w0:=w) (base:=w.heap.size+1) (l:=kG (fL L)) ?_ rfl ?_ (by omega) (by have:=UD.zo;rw[HSL.zo]at this;omega)) ?_);exact my.zo.exts ae;exact iU.zo.trans ae;rintro e W4 ⟨rfl,hx4,Ca⟩;(have nv:=aa hx4);(have zA:=aa Ca);clear hx4 Ca))
   go_ret;rw[Yi.zo];exact⟨_,_,by rw[List.length_reverse];rfl,nv.zo.trans ae,by rw[List.length_reverse];exact(zA.zo.sl (List.length_reverse)).exts ae⟩
theorem aem(p:Plan)(cs:zv)(day choice:Int)(w:World)(h:(bq).R w cs p)(hd:0<=day/\day<=1152921504606846976)(hn:p.rules.length<=1000):Calls prog 13 #[.agg cs.toArray,.int .i64 day,.int .i64 choice] w (cX (.bool ((rV p.rules day).any (Ap choice))) w):=by
 have HP:=aa h;obtain⟨o1,c1,o2,c2,o3,c3,o4,c4,o5,c5,o6,c6,o7,c7,rfl,_⟩:=h;have HD:=aa hd;obtain⟨D,hD⟩:∃D,rV p.rules day=D:=⟨_,rfl⟩;have Yi:=aa hD;rw[hD];clear hd hD;go_enter func13,ntmps13;go_wp2_with (first|((with_reducible refine ag (Un p _ day _ ?_ HD.zo hn) ?_);exact(bq).exts HP.zo ae;rw[Yi.zo];rintro e w' ⟨ao,c,rfl,hx,hs⟩;(have HX:=aa (af.trans ae hx:af w w'));(have HS:=aa hs);clear hx hs)|((with_reducible refine ag (sK choice _ _ _ D _ ?_) ?_);exact HS.zo.exts ae;rintro e w' ⟨rfl,x9,rfl⟩))
 go_ret;exact⟨rfl,HX.zo.trans ae⟩
theorem MA(d:Array Int)(m:Nat):∀i,i<m->d[i]!∈Lib.compactUpTo d m
 |0,h=>by
  unfold Lib.compactUpTo;exact List.mem_map.2 ⟨0,List.mem_filter.2 ⟨List.mem_range.2 h,by simp[Lib.keeps]⟩,rfl⟩
 |i+1,h=>by
  by_cases hk:Lib.keeps d (i+1)=true
  ·unfold Lib.compactUpTo
   exact List.mem_map.2 ⟨i+1,List.mem_filter.2 ⟨List.mem_range.2 h,hk⟩,rfl⟩
  ·have:d[i+1]! =d[i]!:=by
    simp only[Lib.keeps,decide_eq_true_eq,not_or,Decidable.not_not]at hk;exact hk.2
   rw[this];exact MA d m i (by omega)
theorem Uo{l:List Int}{x:Int}(h:x∈l):x∈kG l:=by
 obtain⟨i,hi⟩:=List.getElem?_of_mem h;have hl:=(bw hi).1;have h1:=MA l.toArray l.length i hl;have h2:l.toArray[i]! =x:=by
  rw[getElem!_pos l.toArray i (by simpa using hl)];simpa using(bw hi).2
 rw[h2]at h1;exact h1
theorem JG{l:List Rule}{day x:Int}(h:x=day∨∃r∈l,uk day r=true/\x=r.start - 1):x∈rV l day:=by
 unfold rV;rw[List.mem_reverse];refine Uo (xG.2 ?_);rcases h with rfl|⟨r,hr,hg,rfl⟩
 ·exact List.mem_cons_self
 ·refine List.mem_cons_of_mem _ ?_
  unfold jT;exact List.mem_map.2 ⟨r,List.mem_filter.2 ⟨hr,hg⟩,rfl⟩
theorem Pj{l:List Rule}{r:Rule}{more:Int}(h1:1<=r.start)(h2:more<r.bM)(h0:0<=more):(rV (l++ [r]) (r.start+more)).any (Ap (r.start - 1))=true:=by
 refine List.any_eq_true.2 ⟨r.start - 1,JG (.inr ⟨r,by simp,?_,rfl⟩),by simp[Ap]⟩;unfold uk;rw[zdt h1,zdt (show r.start<=r.start+more by omega),zdt (show r.start+more - r.start<r.bM by omega)];rfl
theorem Lv(l:List Rule)(day:Int):0<(rV l day).length:=List.length_pos_of_mem (JG (.inl rfl))
theorem JH{r:Rule}(h:jq r=true):0<=r.start/\r.start<=1073741824:=by
 unfold jq Kz at h;simp[inB]at h;omega
theorem Pk{day:Int}{p:Plan}{e:fN}(hk:e.kind=0)(hd:day<e.rule.start):kq day p (jR p e):=BC (kq.refl day p) (.inr (.inl ⟨hk,hd⟩))
def yr(V:World):Lay Rule:=⟨20,fun _ c d=>(aw).R V c d,fun h=>(aw).len h,fun h _=>h,fun h=>(aw).one h⟩
theorem zw(V:World):Flat (yr V):=fun _ _ _ _ h=>h
theorem Pl{V w:World}{ao:Option Addr}{n c:Nat}{l:List Rule}(h:Sl (yr V) w ao n c l)(he:af V w):Sl aw w ao n c l:=by
 obtain⟨h1,xs,h2,h3⟩:=h;exact⟨h1,xs,h2,fun i d hd=>(aw).exts (h3 i d hd) he⟩
theorem aq.boxed{T:Type}{L:Lay T}{e:TypeId}{A:World}{o p:Obj}{x:Ex}{v:Value}{l:List T}(hf:Flat L)(h:aq L (A.heap.size+1) e (av (A.alloc o) x) v l):aq L (A.heap.size+1) e (av (A.alloc p) x) v l:=by
 obtain⟨xs,⟨h0,h1⟩,h2⟩:=h;refine⟨xs,⟨h0,?_⟩,fun i d hd=>hf _ _ _ _ (h2 i d hd)⟩;rcases h1 with h1|⟨g,cap,cur,h3,h4,h5,h6⟩
 ·exact .inl h1
 ·refine .inr ⟨g,cap,cur,h3,h4,?_,h6⟩
  rw[<-h5];simp only[av,World.alloc,Array.getElem?_append,Array.size_push];by_cases hg:g<A.heap.size+1
  ·omega
  ·rw[if_neg hg,if_neg hg]
def kF(day:Int)(l:List Rule)(m:Nat):List Rule:=(l.take m).filter fun r=>decide (r.start<=day)
theorem Gz{day:Int}{l:List Rule}{m:Nat}{r:Rule}(h:l[m]?=some r):kF day l (m+1)=kF day l m++if decide (r.start<=day)then [r]else []:=by
 unfold kF;rw[List.take_add_one,h,Option.toList_some,List.filter_append];cases q:decide (r.start<=day)<;>simp[List.filter_cons,q]
theorem Lx(day:Int)(l:List Rule)(m:Nat):(kF day l m).length<=m:=by
 unfold kF;have:=List.length_filter_le (fun r:Rule=>decide (r.start<=day)) (l.take m);rw[List.length_take]at this;omega
theorem Lz{w:World}{p:Plan}{u1 u2 u3 u4 u5 u6 u7:Option Addr}{v1 z1 v2 z2 v3 z3 v4 z4 v5 z5 v6 z6 v7 z7:Nat}{h4:Int}(h:(bq).R w [.slice u1 v1 z1,.slice u2 v2 z2,.slice u3 v3 z3,.slice u4 v4 z4,.slice u5 v5 z5,.slice u6 v6 z6,.slice u7 v7 z7,.int .i64 h4] p):v4=p.rules.length/\Sl aw w u4 p.rules.length z4 p.rules:=by
 obtain⟨a1,b1,a2,b2,a3,b3,a4,b4,a5,b5,a6,b6,a7,b7,hcs,q0,q1,q2,q3,q4,q5,q6,q7⟩:=h;simp only[List.cons.injEq,Value.slice.injEq,Value.int.injEq,true_and,and_true]at hcs;obtain⟨_,_,_,⟨rfl,rfl,rfl⟩,_⟩:=hcs;exact⟨rfl,q3⟩
theorem LA{w:World}{p:Plan}{u1 u2 u3 u4 u5 u6 u7 oo:Option Addr}{v1 z1 v2 z2 v3 z3 v4 z4 v5 z5 v6 z6 v7 z7 oc:Nat}{h4:Int}(h:(bq).R w [.slice u1 v1 z1,.slice u2 v2 z2,.slice u3 v3 z3,.slice u4 v4 z4,.slice u5 v5 z5,.slice u6 v6 z6,.slice u7 v7 z7,.int .i64 h4] p){l:List Rule}(hl:Sl aw w oo l.length oc l):(bq).R w [.slice u1 v1 z1,.slice u2 v2 z2,.slice u3 v3 z3,.slice oo l.length oc,.slice u5 v5 z5,.slice u6 v6 z6,.slice u7 v7 z7,.int .i64 h4] {p with rules:=l}:=by
 obtain⟨a1,b1,a2,b2,a3,b3,a4,b4,a5,b5,a6,b6,a7,b7,hcs,q0,q1,q2,q3,q4,q5,q6,q7⟩:=h;simp only[List.cons.injEq,Value.slice.injEq,Value.int.injEq,true_and,and_true]at hcs;obtain⟨⟨rfl,rfl,rfl⟩,⟨rfl,rfl,rfl⟩,⟨rfl,rfl,rfl⟩,_,⟨rfl,rfl,rfl⟩,⟨rfl,rfl,rfl⟩,⟨rfl,rfl,rfl⟩,rfl⟩:=hcs;exact⟨_,_,_,_,_,_,_,_,_,_,_,_,_,_,rfl,q0,q1,q2,hl,q4,q5,q6,q7⟩
theorem mA.sub{n:Nat}{q:Plan}(h:mA n q)(f:Rule->Bool):mA n {q with rules:=q.rules.filter f}:=
 ⟨h.defs,h.tables,h.zones,Nat.le_trans (List.length_filter_le _ _) h.rules,h.caps,h.views,h.eA,h.rows,h.zone,fun i r hi=>by
  obtain⟨j,hj⟩:=List.getElem?_of_mem (List.mem_filter.1 (gH hi)).1;exact h.rule j r hj,h.cap,h.view⟩
theorem XE{w:World}{r:Rule}{cN dY ej:Option Addr}{cO dZ ek:Nat}(h:(aw).R w [.string r.name,.slice cN r.zones.length cO,.slice dY r.exc.length dZ,.int .i64 r.start,.int .i64 r.stop,.int .i64 r.bM,.bool r.vary,.int .i64 r.kind,.int .i64 r.test.op,.int .i64 r.test.num,.string r.test.str,.string r.test.key,.slice ej r.test.args.length ek,.int .i64 r.ah.side,.int .i64 r.ah.base,.int .i64 r.ah.num,.int .i64 r.ah.den,.int .i64 r.uses,.int .i64 r.other,.int .i64 r.n] r):(cY).R w [.int .i64 0,.string ⟨#[]⟩,.string ⟨#[]⟩,.int .i64 0,.string r.name,.slice cN r.zones.length cO,.slice dY r.exc.length dZ,.int .i64 r.start,.int .i64 r.stop,.int .i64 r.bM,.bool r.vary,.int .i64 r.kind,.int .i64 r.test.op,.int .i64 r.test.num,.string r.test.str,.string r.test.key,.slice ej r.test.args.length ek,.int .i64 r.ah.side,.int .i64 r.ah.base,.int .i64 r.ah.num,.int .i64 r.ah.den,.int .i64 r.uses,.int .i64 r.other,.int .i64 r.n,.int .i64 0,.int .i64 0,.string ⟨#[]⟩,.string ⟨#[]⟩,.slice none 0 0,.slice none 0 0] (aj r):=by
 obtain⟨a0,a1,a2,a3,a4,a5,hcs,t0,t1,t2,t3,t4,t5,t6,t7,t8,t9,t10,t11,t12,t13,t14⟩:=h;simp only[List.cons.injEq,Value.slice.injEq,Value.int.injEq,Value.string.injEq,Value.bool.injEq,true_and,and_true]at hcs;obtain⟨⟨rfl,rfl⟩,⟨rfl,rfl⟩,rfl,rfl⟩:=hcs;exact⟨_,_,_,_,_,_,none,0,none,0,rfl,kH,Nat.zero_le _,Nat.zero_le _,kH,t0,t1,t2,t3,t4,t5,t6,t7,t8,t9,t10,t11,t12,t13,t14,Wa _,Sl.nil _ _⟩
theorem aa6(t:mD)(d:rW)(r:Rule)(more:Int)(ts ds rs:zv)(w:World)(hg:Gl w)(hsg:qA w)(h:(gg).R w ts t)(h2:(e6).R w ds d)(h3:(aw).R w rs r)(hm:0<=more/\more<=255)(hold:∀x∈t.land,x.old.length<=1048576):Calls prog 4 #[.agg ts.toArray,.agg ds.toArray,.agg rs.toArray,.int .u8 more] w (cX (.bool true) w):=by
 obtain⟨i0,hi,hz0,hz1,hz2⟩:=info_parts qh;have HG:=aa hg;have za:=aa hsg;have HT:=aa h;have HD:=aa h2;have HR:=aa h3;have HM:=aa hm;have HOLD:=aa hold;obtain⟨aO,aP,ax,ay,aG,aH,aB,aC,aQ,aR,aI,aJ,bk,bm,cG,cH,bQ,bU,cI,cJ,bY,bZ,cL,cM,rfl,q0,q1,q2,q3,q4,q5,q6,q7,q8,q9,q10,q11,q12⟩:=h;obtain⟨cQ,cR,rfl,u0,u1⟩:=h2;obtain⟨cN,cO,dY,dZ,ej,ek,rfl,y0,y1,y2,y3,y4,y5,y6,y7,y8,y9,y10,y11,y12,y13,y14⟩:=h3;have HT8:=aa q8;have HT9:=aa q9;have Pb:=aa q10;have Pc:=aa q11;have Pd:=aa q12;have HP:=aa (show(bq).R w [.slice aO t.plan.defs.length aP,.slice ax t.plan.tables.length ay,.slice aG t.plan.zones.length aH,.slice aB t.plan.rules.length aC,.slice aQ t.plan.caps.length aR,.slice aI t.plan.views.length aJ,.slice bk t.plan.eA.length bm,.int .i64 t.plan.hours] t.plan from⟨aO,aP,ax,ay,aG,aH,aB,aC,aQ,aR,aI,aJ,bk,bm,rfl,q0,q1,q2,q3,q4,q5,q6,q7⟩);have e0:IntKind.i64.wrap more=more:=ji (by omega) (by omega);clear hg hsg hold hm q0 q1 q2 q3 q4 q5 q6 q7 q8 q9 q10 q11 q12 u0 u1 y0 y1 y2 y3 y4 y5 y6 y7 y8 y9 y10 y11 y12 y13 y14;go_enter func4,ntmps4;go_wp2_with fail
 with_reducible refine ag (TT _ ?_ ?_) ?_
 ·exact HG.zo.exts ae
 ·exact za.zo.exts ae
 rintro e w' ⟨rfl,⟨x1,rfl⟩⟩;go_wp2_with fail
 with_reducible refine ag (ad3 t d _ _ _ ?_ ?_) ?_
 ·exact(gg).exts HT.zo ae
 ·exact(e6).exts HD.zo ae
 rintro e w' ⟨b6,rfl,hb6,⟨x2,rfl⟩⟩;cases b6 with
 |false=>
  go_wp2;go_ret;exact⟨rfl,ae⟩
 |true=>
 have HF:=aa (hb6 rfl);clear hb6;go_wp2_with fail
 with_reducible refine ag (KB r _ _ ?_) ?_
 ·exact(aw).exts HR.zo ae
 rintro e w' ⟨b7,rfl,hb7,⟨x3,rfl⟩⟩;cases b7 with
 |false=>
  go_wp2;go_ret;exact⟨rfl,ae⟩
 |true=>
 have HRS:=aa (show oN (aj r).rule from hb7 rfl);have HPW:=aa HF.zo.plan.w;have hkk:zi (aj r):=Or.inl rfl;clear hb7;go_wp2_with fail
 with_reducible refine ag (Yu t.plan (aj r) _ _ _ 5 ?_ ?_ ?_ hkk HPW.zo (by decide) HRS.zo) ?_
 ·exact HG.zo.exts ae
 ·exact(bq).exts HP.zo ae
 ·exact XE ((aw).exts HR.zo ae)
 rintro e W3 ⟨c3,rfl,⟨x4,rfl⟩,⟨u1,v1,z1,u2,v2,z2,u3,v3,z3,u4,v4,z4,u5,v5,z5,u6,v6,z6,u7,v7,z7,h4,rfl⟩,hr3⟩;by_cases hce:qx t.plan (aj r)=0
 case neg=>
  have qce:(qx t.plan (aj r)==0)=false:=beq_eq_false_iff_ne.2 hce;go_wp2_with fail
  go_ret;exact⟨rfl,ae⟩
 rw[hce];have hr3:=hr3 hce;try simp only[bf,au,ai]at hr3
 have HR3:=aa hr3;obtain⟨hrp,hed⟩:=En hce;have aa7:=JH (Ee (e:=aj r) rfl hed);have aa7:0<=r.start/\r.start<=1073741824:=aa7;have HRP:=aa hrp;clear hr3 hce hrp hed;have hmm:=HM.zo;have e1:IntKind.i64.wrap (r.start+more)=r.start+more:=ji (by omega) (by omega);by_cases h1:r.start<1
 ·have q1:decide (r.start<1)=true:=zdt h1
  go_wp2_with fail
  go_ret;exact⟨rfl,ae⟩
 have q1:decide (r.start<1)=false:=jE h1;by_cases h2:r.bM<=more
 ·have q2:decide (r.bM<=more)=true:=zdt h2
  go_wp2_with fail
  go_ret;exact⟨rfl,ae⟩
 have q2:decide (r.bM<=more)=false:=jE h2;have e2:IntKind.i64.wrap (r.start - 1)=r.start - 1:=ji (by omega) (by omega);obtain⟨q,hq⟩:∃q,jR t.plan (aj r)=q:=⟨_,rfl⟩;have hqr:q.rules=t.plan.rules++ [r]:=by rw[<-hq];rfl
 have YL:mA 6 q:=by rw[<-hq];exact Fy HPW.zo HRS.zo
 have hqd:q.defs=t.plan.defs:=by rw[<-hq];exact ya _ _
 have hlat:kq (r.start - 1) t.plan q:=by rw[<-hq];exact Pk (e:=aj r) rfl (by show r.start - 1<r.start;omega)
 rw[hq]at HR3;have hta:=JC HF.zo HOLD.zo HRP.zo;have htb:=ui HF.zo HOLD.zo YL (by decide) hqd HRP.zo;have HTB:=aa htb;have HQW:=aa YL;have HQD:=aa hqd;obtain⟨la,hla⟩:∃x,gG t d (r.start - 1)=x:=⟨_,rfl⟩;have hma:gG {t with plan:=q} d (r.start - 1)=la:=(pR hlat t d).trans hla;have A1:=aa (show∀ts ds w,Gl w->(gg).R w ts t->(e6).R w ds d->Calls prog 9 #[.agg ts.toArray,.agg ds.toArray,.int .i64 (r.start - 1)] w (xn la w)from fun ts ds w h1 h2 h3=>by rw[<-hla];exact mq t d _ ts ds w h1 h2 h3 hta);have A2:=aa (show∀ts ds w,Gl w->(gg).R w ts {t with plan:=q}->(e6).R w ds d->Calls prog 9 #[.agg ts.toArray,.agg ds.toArray,.int .i64 (r.start - 1)] w (xn la w)from fun ts ds w h1 h2 h3=>by rw[<-hma];exact mq _ d _ ts ds w h1 h2 h3 htb);obtain⟨la,ca⟩:=la;have ahf:=aa (show(rV q.rules (r.start+more)).any (Ap (r.start - 1))=true by rw[hqr];exact Pj (by omega) (by omega) hmm.1);have Uq:=aa (Lv q.rules (r.start+more));have HQN:=aa (show q.rules.length<=6 from YL.rules);clear hla hma hlat hqr YL hqd hta htb hq;go_wp2_with fail
 with_reducible refine ag (A1.zo _ _ _ ?_ ?_ ?_) ?_
 ·exact HG.zo.exts ae
 ·exact(gg).exts HT.zo ae
 ·exact(e6).exts HD.zo ae
 rintro e W4 ⟨o4,k4,rfl,⟨y4,rfl⟩,hs4⟩;try simp only[bf,au,ai]at hs4
 have X7:=aa hs4;clear hs4;go_wp2_with fail
 with_reducible refine ag (A2.zo _ _ _ ?_ ?_ ?_) ?_
 ·exact HG.zo.exts ae
 ·exact xr ((bq).exts HR3.zo ae) (HT8.zo.exts ae) (HT9.zo.exts ae) (Pb.zo.exts ae) (Pc.zo.exts ae) (Pd.zo.exts ae)
 ·exact(e6).exts HD.zo ae
 rintro e W5 ⟨o5,k5,rfl,⟨y5,rfl⟩,hs5⟩;try simp only[bf,au,ai]at hs5
 have HS5:=aa hs5;clear hs5;go_wp2_with fail
 with_reducible refine ag (aem q _ _ _ _ ?_ ?_ ?_) ?_
 ·exact(bq).exts HR3.zo ae
 ·constructor<;>omega
 ·exact Nat.le_trans HQN.zo (by decide)
 rintro e W6 ⟨rfl,⟨y6,rfl⟩⟩;rw[ahf.zo];go_wp2_with fail
 with_reducible refine ag (Aj _ _ _ _ _ la _ ?_ ?_) ?_
 ·exact X7.zo.exts ae
 ·exact HS5.zo.exts ae
 rintro e W7 ⟨rfl,⟨y7,rfl⟩⟩;go_wp2_with fail
 with_reducible refine ag (Un q _ _ _ ?_ ?_ ?_) ?_
 ·exact(bq).exts HR3.zo ae
 ·constructor<;>omega
 ·exact Nat.le_trans HQN.zo (by decide)
 rintro e W8 ⟨o8,k8,rfl,⟨y8,rfl⟩,hs8⟩;try simp only[bf,au,ai]at hs8
 have HS8:=aa hs8;clear hs8;go_wp2_with fail
 refine bI ?_;intro V hV;have xe:af w V:=by rw[hV];exact ae
 have HDB:Hid (Bx V (w.heap.size+1) [.int .i64 d.lot,.slice cQ d.phases.length cR] 40):=aa (by rw[hV];repeat (first|exact Bx.mv rfl (by simp<;>omega)|refine Bx.up ?_ _|refine Bx.exts ?_ ⟨_,rfl⟩));have HQB:Hid (Bx V (w.heap.size+1+1+1+x1.bs.size+x2.bs.size+x3.bs.size+x4.bs.size) [.slice u1 v1 z1,.slice u2 v2 z2,.slice u3 v3 z3,.slice u4 v4 z4,.slice u5 v5 z5,.slice u6 v6 z6,.slice u7 v7 z7,.int .i64 h4] 30):=aa (by rw[hV];repeat (first|exact Bx.mv rfl (by simp<;>omega)|refine Bx.up ?_ _|refine Bx.exts ?_ ⟨_,rfl⟩));have HUB:Hid (Bx V (w.heap.size+1+1+1+x1.bs.size+x2.bs.size+x3.bs.size+x4.bs.size+1) [.slice u1 v1 z1,.slice u2 v2 z2,.slice u3 v3 z3,.slice u4 v4 z4,.slice u5 v5 z5,.slice u6 v6 z6,.slice u7 v7 z7,.int .i64 h4,.slice cG t.land.length cH,.slice bQ t.dH.length bU,.slice cI t.wins.length cJ,.slice bY t.built.length bZ,.slice cL t.base.length cM] 37):=aa (by rw[hV];repeat (first|exact Bx.mv rfl (by simp<;>omega)|refine Bx.up ?_ _|refine Bx.exts ?_ ⟨_,rfl⟩));have HVG:=aa (HG.zo.exts xe);have HVQ:Hid ((bq).R V [.slice u1 v1 z1,.slice u2 v2 z2,.slice u3 v3 z3,.slice u4 v4 z4,.slice u5 v5 z5,.slice u6 v6 z6,.slice u7 v7 z7,.int .i64 h4] q):=aa (by rw[hV];exact(bq).exts HR3.zo ae);have HVU:Hid ((gg).R V [.slice u1 v1 z1,.slice u2 v2 z2,.slice u3 v3 z3,.slice u4 v4 z4,.slice u5 v5 z5,.slice u6 v6 z6,.slice u7 v7 z7,.int .i64 h4,.slice cG t.land.length cH,.slice bQ t.dH.length bU,.slice cI t.wins.length cJ,.slice bY t.built.length bZ,.slice cL t.base.length cM] {t with plan:=q}):=aa (by rw[hV];exact xr ((bq).exts HR3.zo ae) (HT8.zo.exts ae) (HT9.zo.exts ae) (Pb.zo.exts ae) (Pc.zo.exts ae) (Pd.zo.exts ae));have HVD:=aa ((e6).exts HD.zo xe);have ahg:=aa (HT8.zo.exts xe);have ahh:=aa (HT9.zo.exts xe);have aen:=aa (Pb.zo.exts xe);have aeo:=aa (Pc.zo.exts xe);have aep:=aa (Pd.zo.exts xe);obtain⟨DL,hDL⟩:∃l,rV q.rules (r.start+more)=l:=⟨_,rfl⟩;have Tu:Hid (Sl dv V o8 DL.length k8 DL):=aa (by rw[hV,<-hDL];exact HS8.zo.exts ae);rw[hDL]at Uq ⊢;obtain⟨hv4,hrl⟩:=Lz HVQ.zo;subst hv4;have Pz:=aa hrl;obtain⟨qb,hqb⟩:∃b,w.heap.size+1+1+1+x1.bs.size+x2.bs.size+x3.bs.size+x4.bs.size=b:=⟨_,rfl⟩;rw[hqb]at HQB HUB ⊢;have wH:=aa xe;have hm8:=Tu.zo.nle;have hmr:=Pz.zo.nle;unfold maxLen at hm8 hmr;have C1:=aa (show∀dd,∃l2 c2,(∀ts ds w,Gl w->(gg).R w ts {t with plan:=q}->(e6).R w ds d->Calls prog 9 #[.agg ts.toArray,.agg ds.toArray,.int .i64 dd] w (xn (l2,c2) w))/\(∀ts ds w,Gl w->(gg).R w ts {t with plan:={q with rules:=q.rules.filter fun r=>decide (r.start<=dd)}}->(e6).R w ds d->Calls prog 9 #[.agg ts.toArray,.agg ds.toArray,.int .i64 dd] w (xn (l2,c2) w))from fun dd=>⟨(gG {t with plan:=q} d dd).1,(gG {t with plan:=q} d dd).2,fun ts ds w h1 h2 h3=>mq _ d _ ts ds w h1 h2 h3 HTB.zo,fun ts ds w h1 h2 h3=>by
  have h4:=mq _ d dd ts ds w h1 h2 h3 (ui HF.zo HOLD.zo (HQW.zo.sub _) (by decide) HQD.zo HRP.zo);rw[BB]at h4;exact h4⟩)
 clear hV xe hDL hrl hqb hmm e0 e1 e2 q1 q2 h1 h2 aa7;go_loopw [19] (fun i wr=> ∃(k:Nat),k<=DL.length/\i=.int .i64 k/\af V wr) (fun i _=>DL.length - (intOf i).toNat)
 case atStart=>exact⟨0,by omega,rfl,af.refl _⟩
 case round=>
  obtain⟨k,hk,rfl,hx⟩:=hrel;have HX:=aa hx;by_cases hlt:k<DL.length
  ·obtain⟨dd,hdd⟩:=Tu.zo.ex hlt
   obtain⟨b8,p8,rfl,lb8,cd,idd⟩:=dV Tu.zo hdd;obtain⟨l2,c2,hc1,hc2⟩:=C1.zo dd;have GF:=aa hc1;have HC2:=aa hc2;have hUB:∀wz,af wr wz->(jf 37 ⟨qb+1,0,none⟩).run prog wz=.ok (.agg #[.slice u1 v1 z1,.slice u2 v2 z2,.slice u3 v3 z3,.slice u4 q.rules.length z4,.slice u5 v5 z5,.slice u6 v6 z6,.slice u7 v7 z7,.int .i64 h4,.slice cG t.land.length cH,.slice bQ t.dH.length bU,.slice cI t.wins.length cJ,.slice bY t.built.length bZ,.slice cL t.base.length cM]) wz:=fun wz he=>PX (cs:= [.slice u1 v1 z1,.slice u2 v2 z2,.slice u3 v3 z3,.slice u4 q.rules.length z4,.slice u5 v5 z5,.slice u6 v6 z6,.slice u7 v7 z7,.int .i64 h4,.slice cG t.land.length cH,.slice bQ t.dH.length bU,.slice cI t.wins.length cJ,.slice bY t.built.length bZ,.slice cL t.base.length cM]) rfl fun j u hu=>by rw[Nat.zero_add];exact((HUB.zo.exts (HX.zo.trans he)).cell j).trans hu
   have HCD:=aa cd;clear hdd hc1 hc2 hx cd;go_wp2_with fail
   go_loopw [21] (fun j wz=> ∃(m:Nat)(oo:Option Addr)(oc:Nat)(y:Ex),m<=q.rules.length/\j=.int .i64 m/\wz=av (wr.alloc (.cells #[.slice u1 v1 z1,.slice u2 v2 z2,.slice u3 v3 z3,.slice oo (kF dd q.rules m).length oc,.slice u5 v5 z5,.slice u6 v6 z6,.slice u7 v7 z7,.int .i64 h4,.slice cG t.land.length cH,.slice bQ t.dH.length bU,.slice cI t.wins.length cJ,.slice bY t.built.length bZ,.slice cL t.base.length cM] 37)) y/\aq (yr V) (wr.heap.size+1) 52 wz (.slice oo (kF dd q.rules m).length oc) (kF dd q.rules m)) (fun j _=>q.rules.length - (intOf j).toNat)
   case atStart=>exact⟨0,none,0,⟨#[],_⟩,by omega,rfl,(cF _).symm,aq.made _ _ _ _⟩
   case round=>
    obtain⟨m,oo,oc,y,hm,rfl,rfl,ho⟩:=hrel;have HO:=aa ho;clear ho;by_cases hlt2:m<q.rules.length
    ·obtain⟨r2,hr2⟩:=Pz.zo.ex hlt2
     obtain⟨rb,ro,xs,hro,lrb,hR2,hcl⟩:=Pz.zo.at hr2;subst hro;have HR2:=aa hR2;have UD:=aa hcl;obtain⟨vC,vD,CA,CB,yt,yu,rfl,xq0,xq1,xq2,xq3,xq4,xq5,xq6,xq7,xq8,xq9,ahi,ahj,ahk,ahl,ahm⟩:=hR2;have HSC:=aa (Gz (day:=dd) hr2);have hle:=Lx dd q.rules m;have hq6:=HQN.zo;obtain⟨L,hL⟩:∃L,kF dd q.rules m=L:=⟨_,rfl⟩;rw[hL]at HO HSC hle ⊢;refine bI ?_;intro U hU;have HU:=aa hU;have HWU:=aa (show af (wr.alloc (.cells #[.slice u1 v1 z1,.slice u2 v2 z2,.slice u3 v3 z3,.slice oo L.length oc,.slice u5 v5 z5,.slice u6 v6 z6,.slice u7 v7 z7,.int .i64 h4,.slice cG t.land.length cH,.slice bQ t.dH.length bU,.slice cI t.wins.length cJ,.slice bY t.built.length bZ,.slice cL t.base.length cM] 37)) U by rw[hU];exact ae);have qD:=aa (show af V U from HX.zo.trans (af.trans ae HWU.zo));have Rs:=aa (show aq (yr V) (wr.heap.size+1) 52 U (.slice oo L.length oc) L by rw[hU];exact HO.zo);have cq:∀wz,af U wz->wz.cell? ⟨qb,3,none⟩=some (.slice (some ⟨rb,ro,none⟩) q.rules.length z4):=fun wz he=>((HQB.zo.exts (qD.zo.trans he)).cell 3).trans rfl
     have cs2:∀wz,af U wz->wz.cell? ⟨rb,ro+m*20+3,none⟩=some (.int .i64 r2.start):=fun wz he=>af.cell (qD.zo.trans he) (by rw[Nat.add_assoc];exact UD.zo 3 _ rfl)
     have cd2:∀wz,af U wz->wz.cell? ⟨b8,p8+k,none⟩=some (.int .i64 dd):=fun wz he=>af.cell (qD.zo.trans he) HCD.zo
     clear hU hL hr2 hcl xq0 xq1 xq2 xq3 xq4 xq5 xq6 xq7 xq8 xq9 ahi ahj ahk ahl ahm;cases t0:decide (r2.start<=dd)with
     |false=>
      have HE:=aa (show kF dd q.rules (m+1)=L by rw[HSC.zo,t0];simp);go_wp2_with fail
      first|refine eK ?_|refine eJ ?_
      repeat (go_big_quiet_step (fail))
      refine eM fun xq=> ?_
      go_wp2;refine⟨⟨m+1,oo,oc,y.and xq,by omega,by go_num,by rw[HE.zo,HU.zo];exact bf _ _ _,by rw[HE.zo];exact Rs.zo.exts ae⟩,?_⟩;simp[intOf];omega
     |true=>
      have HE:=aa (show kF dd q.rules (m+1)=L++ [r2]by rw[HSC.zo,t0];rfl);go_wp2_with fail
      first|refine eK ?_|refine eJ ?_
      repeat (go_big_quiet_step (fail))
      refine eM fun xq=> ?_
      go_wp2_with fail
      refine bI ?_;intro U2 KN;have gm:=aa (show af U U2 by rw[KN];exact ae);have hsz:wr.heap.size+1<=U2.heap.size:=by have:=(HWU.zo.trans gm.zo).below.size;simpa using this
      have ahn:=aa (Rs.zo.exts gm.zo);have cq2:∀wz,af U2 wz->wz.cell? ⟨qb,3,none⟩=some (.slice (some ⟨rb,ro,none⟩) q.rules.length z4):=fun wz he=>cq wz (gm.zo.trans he)
      have cw2:∀wz,af U2 wz->wz.cell? ⟨wr.heap.size,3,none⟩=some (.slice oo L.length oc):=fun wz he=>(((Bx.new wr [.slice u1 v1 z1,.slice u2 v2 z2,.slice u3 v3 z3,.slice oo L.length oc,.slice u5 v5 z5,.slice u6 v6 z6,.slice u7 v7 z7,.int .i64 h4,.slice cG t.land.length cH,.slice bQ t.dH.length bU,.slice cI t.wins.length cJ,.slice bY t.built.length bZ,.slice cL t.base.length cM] 37).exts (HWU.zo.trans (gm.zo.trans he))).cell 3).trans rfl
      have ld2:∀wz,af U2 wz->(jf 52 ⟨rb,ro+m*20,none⟩).run prog wz=.ok (.agg #[.string r2.name,.slice vC r2.zones.length vD,.slice CA r2.exc.length CB,.int .i64 r2.start,.int .i64 r2.stop,.int .i64 r2.bM,.bool r2.vary,.int .i64 r2.kind,.int .i64 r2.test.op,.int .i64 r2.test.num,.string r2.test.str,.string r2.test.key,.slice yt r2.test.args.length yu,.int .i64 r2.ah.side,.int .i64 r2.ah.base,.int .i64 r2.ah.num,.int .i64 r2.ah.den,.int .i64 r2.uses,.int .i64 r2.other,.int .i64 r2.n]) wz:=fun wz he=>yy (cs:= [.string r2.name,.slice vC r2.zones.length vD,.slice CA r2.exc.length CB,.int .i64 r2.start,.int .i64 r2.stop,.int .i64 r2.bM,.bool r2.vary,.int .i64 r2.kind,.int .i64 r2.test.op,.int .i64 r2.test.num,.string r2.test.str,.string r2.test.key,.slice yt r2.test.args.length yu,.int .i64 r2.ah.side,.int .i64 r2.ah.base,.int .i64 r2.ah.num,.int .i64 r2.ah.den,.int .i64 r2.uses,.int .i64 r2.other,.int .i64 r2.n]) rfl fun j u hu=>by rw[Nat.add_assoc];exact af.cell (qD.zo.trans (gm.zo.trans he)) (UD.zo j u hu)
      clear KN cq cs2 cd2;refine b9 (S:=fun w'=> ∃y:Ex,w'=av U2 y) [] [([0,1,2,3,4,5,6,7],8)] [] [9,10,11,12] (by kernel_rfl) (by kernel_rfl) (show af U2 _ from ae) ?_;try simp only[bX,pick,eh]
      refine wpQuiet_nil ?_;try change wpQuiet _ _ _ _ (_::_) _
      repeat (go_big_quiet_step (fail))
      refine wpQuiet_nil ?_;try change wpList _ _ _ (_::_) _ _
      go_wp2_with fail
      refine dn (show af U2 _ from ae) ?_;try simp only[bX,pick,eh]
      try change wpList _ _ _ (_::_) _ _
      go_wp2_with (at_builtin;refine dz rfl (.tmp 136) (.tmp 142) 25 rfl (yr V) (wr.heap.size+1) 52 (zw V).turn i0 _ 232 underlying25 hi hz0 hz1 hz2 rfl (show 0<20 by decide) L r2 [.string r2.name,.slice vC r2.zones.length vD,.slice CA r2.exc.length CB,.int .i64 r2.start,.int .i64 r2.stop,.int .i64 r2.bM,.bool r2.vary,.int .i64 r2.kind,.int .i64 r2.test.op,.int .i64 r2.test.num,.string r2.test.str,.string r2.test.key,.slice yt r2.test.args.length yu,.int .i64 r2.ah.side,.int .i64 r2.ah.base,.int .i64 r2.ah.num,.int .i64 r2.ah.den,.int .i64 r2.uses,.int .i64 r2.other,.int .i64 r2.n] L.length oo oc rfl rfl ahn.zo ae _ 1 rfl HR2.zo (fun j u hu=>(Bx.mv rfl (by simp)).news j u hu) (by omega) (by decide) (by simp<;>omega) ?_;intro ao' c' w1 hown hgrow;obtain⟨y3,rfl⟩:=hgrow (wr.alloc (.cells #[.slice u1 v1 z1,.slice u2 v2 z2,.slice u3 v3 z3,.slice oo L.length oc,.slice u5 v5 z5,.slice u6 v6 z6,.slice u7 v7 z7,.int .i64 h4,.slice cG t.land.length cH,.slice bQ t.dH.length bU,.slice cI t.wins.length cJ,.slice bY t.built.length bZ,.slice cL t.base.length cM] 37)) (HWU.zo.trans (af.trans gm.zo ae)) (by simp);(have HN:=aa hown);clear hown hgrow)
      refine cV ?_;go_wp2;refine⟨⟨m+1,ao',c',y3,by omega,by go_num,by rw[HE.zo,dG];rfl,by rw[HE.zo,dG];exact HN.zo.boxed (zw V)⟩,?_⟩;simp[intOf];omega
    ·obtain rfl:m=q.rules.length:=by omega
     have hf:kF dd q.rules q.rules.length=q.rules.filter fun r=>decide (r.start<=dd):=by unfold kF;rw[List.take_length]
     rw[hf]at HO ⊢;obtain⟨F,hF⟩:∃F,(q.rules.filter fun r=>decide (r.start<=dd))=F:=⟨_,rfl⟩;rw[hF]at HO HC2 ⊢;refine bI ?_;intro U hU;have HWU:=aa (show af (wr.alloc (.cells #[.slice u1 v1 z1,.slice u2 v2 z2,.slice u3 v3 z3,.slice oo F.length oc,.slice u5 v5 z5,.slice u6 v6 z6,.slice u7 v7 z7,.int .i64 h4,.slice cG t.land.length cH,.slice bQ t.dH.length bU,.slice cI t.wins.length cJ,.slice bY t.built.length bZ,.slice cL t.base.length cM] 37)) U by rw[hU];exact ae);have qD:=aa (show af V U from HX.zo.trans (af.trans ae HWU.zo));have Rs:=aa (show aq (yr V) (wr.heap.size+1) 52 U (.slice oo F.length oc) F by rw[hU];exact HO.zo);have HSL:=aa (Pl (Rs.zo.sl rfl) qD.zo);have Yq:=aa (HVG.zo.exts qD.zo);have HTU:=aa ((gg).exts HVU.zo qD.zo);have HTW:=aa (show(gg).R U [.slice u1 v1 z1,.slice u2 v2 z2,.slice u3 v3 z3,.slice oo F.length oc,.slice u5 v5 z5,.slice u6 v6 z6,.slice u7 v7 z7,.int .i64 h4,.slice cG t.land.length cH,.slice bQ t.dH.length bU,.slice cI t.wins.length cJ,.slice bY t.built.length bZ,.slice cL t.base.length cM] {t with plan:={q with rules:=F}}from xr (LA ((bq).exts HVQ.zo qD.zo) HSL.zo) (ahg.zo.exts qD.zo) (ahh.zo.exts qD.zo) (aen.zo.exts qD.zo) (aeo.zo.exts qD.zo) (aep.zo.exts qD.zo));have Zq:=aa ((e6).exts HVD.zo qD.zo);have cq:∀wz,af U wz->wz.cell? ⟨qb,3,none⟩=some (.slice u4 q.rules.length z4):=fun wz he=>((HQB.zo.exts (qD.zo.trans he)).cell 3).trans rfl
     have cd2:∀wz,af U wz->wz.cell? ⟨b8,p8+k,none⟩=some (.int .i64 dd):=fun wz he=>af.cell (qD.zo.trans he) HCD.zo
     have ah4:∀wz,af U wz->(jf 37 ⟨qb+1,0,none⟩).run prog wz=.ok (.agg #[.slice u1 v1 z1,.slice u2 v2 z2,.slice u3 v3 z3,.slice u4 q.rules.length z4,.slice u5 v5 z5,.slice u6 v6 z6,.slice u7 v7 z7,.int .i64 h4,.slice cG t.land.length cH,.slice bQ t.dH.length bU,.slice cI t.wins.length cJ,.slice bY t.built.length bZ,.slice cL t.base.length cM]) wz:=fun wz he=>PX (cs:= [.slice u1 v1 z1,.slice u2 v2 z2,.slice u3 v3 z3,.slice u4 q.rules.length z4,.slice u5 v5 z5,.slice u6 v6 z6,.slice u7 v7 z7,.int .i64 h4,.slice cG t.land.length cH,.slice bQ t.dH.length bU,.slice cI t.wins.length cJ,.slice bY t.built.length bZ,.slice cL t.base.length cM]) rfl fun j u hu=>by rw[Nat.zero_add];exact((HUB.zo.exts (qD.zo.trans he)).cell j).trans hu
     have ah5:∀wz,af U wz->(jf 37 ⟨wr.heap.size,0,none⟩).run prog wz=.ok (.agg #[.slice u1 v1 z1,.slice u2 v2 z2,.slice u3 v3 z3,.slice oo F.length oc,.slice u5 v5 z5,.slice u6 v6 z6,.slice u7 v7 z7,.int .i64 h4,.slice cG t.land.length cH,.slice bQ t.dH.length bU,.slice cI t.wins.length cJ,.slice bY t.built.length bZ,.slice cL t.base.length cM]) wz:=fun wz he=>PX (cs:= [.slice u1 v1 z1,.slice u2 v2 z2,.slice u3 v3 z3,.slice oo F.length oc,.slice u5 v5 z5,.slice u6 v6 z6,.slice u7 v7 z7,.int .i64 h4,.slice cG t.land.length cH,.slice bQ t.dH.length bU,.slice cI t.wins.length cJ,.slice bY t.built.length bZ,.slice cL t.base.length cM]) rfl fun j u hu=>by rw[Nat.zero_add];exact(((Bx.new wr [.slice u1 v1 z1,.slice u2 v2 z2,.slice u3 v3 z3,.slice oo F.length oc,.slice u5 v5 z5,.slice u6 v6 z6,.slice u7 v7 z7,.int .i64 h4,.slice cG t.land.length cH,.slice bQ t.dH.length bU,.slice cI t.wins.length cJ,.slice bY t.built.length bZ,.slice cL t.base.length cM] 37).exts (HWU.zo.trans he)).cell j).trans hu
     have l40:∀wz,af U wz->(jf 40 ⟨w.heap.size+1,0,none⟩).run prog wz=.ok (.agg #[.int .i64 d.lot,.slice cQ d.phases.length cR]) wz:=fun wz he=>abZ (cs:= [.int .i64 d.lot,.slice cQ d.phases.length cR]) rfl fun j u hu=>by rw[Nat.zero_add];exact((HDB.zo.exts (qD.zo.trans he)).cell j).trans hu
     clear hU hF hf HO;go_wp2_with fail
     refine b9 (S:=fun w'=> ∃y:Ex,w'=av U y) [] [([0,1,2,3,4,5],6)] [7,8,9,10] [11] (by kernel_rfl) (by kernel_rfl) (show af U _ from ae) ?_;try simp only[bX,pick,eh]
     refine wpQuiet_nil ?_;try change wpQuiet _ _ _ _ (_::_) _
     repeat (go_big_quiet_step (fail))
     refine wpQuiet_nil ?_;try change wpList _ _ _ (_::_) _ _
     go_wp2_with ((with_reducible refine ag (GF.zo _ _ _ ?_ ?_ ?_) ?_);exact Yq.zo.exts ae;exact(gg).exts HTU.zo ae;exact(e6).exts Zq.zo ae;rintro e w' ⟨o6,k6,rfl,⟨x6,rfl⟩,hs6⟩;(try simp only[bf,au,ai]at hs6);(have HS6:=aa hs6);clear hs6)
     refine dn (show af U _ from ae) ?_;try simp only[bX,pick,eh]
     try change wpQuiet _ _ _ _ (_::_) _
     repeat (go_big_quiet_step (fail))
     refine wpQuiet_nil ?_;try change wpList _ _ _ (_::_) _ _
     go_wp2_with fail
     refine cV ?_;go_wp2_with fail
     refine b9 (S:=fun w'=> ∃y:Ex,w'=av U y) [] [([0,1,2,3,4,5],6)] [7,8,9,10] [11] (by kernel_rfl) (by kernel_rfl) (show af U _ from ae) ?_;try simp only[bX,pick,eh]
     refine wpQuiet_nil ?_;try change wpQuiet _ _ _ _ (_::_) _
     repeat (go_big_quiet_step (fail))
     refine wpQuiet_nil ?_;try change wpList _ _ _ (_::_) _ _
     go_wp2_with ((with_reducible refine ag (HC2.zo _ _ _ ?_ ?_ ?_) ?_);exact Yq.zo.exts ae;exact(gg).exts HTW.zo ae;exact(e6).exts Zq.zo ae;rintro e w' ⟨o7,k7,rfl,⟨x7,rfl⟩,hs7⟩;(try simp only[bf,au,ai]at hs7);(have HS7:=aa hs7);clear hs7)
     refine dn (show af U _ from ae) ?_;try simp only[bX,pick,eh]
     try change wpQuiet _ _ _ _ (_::_) _
     repeat (go_big_quiet_step (fail))
     refine wpQuiet_nil ?_;try change wpList _ _ _ (_::_) _ _
     go_wp2_with fail
     refine cV ?_;go_wp2_with fail
     with_reducible refine ag (Aj _ _ _ _ _ l2 _ ?_ ?_) ?_
     ·exact HS6.zo.exts ae
     ·exact HS7.zo.exts ae
     rintro e w' ⟨rfl,⟨x9,rfl⟩⟩;go_wp2;exact⟨⟨k+1,by omega,by go_num,qD.zo.trans ae⟩,by simp[intOf];omega⟩
  ·obtain rfl:DL.length=k:=by omega
   have q9:decide ((0:Int)<(DL.length:Int))=true:=zdt (by have:=Uq.zo;omega);have q8:decide (0<DL.length)=true:=zdt Uq.zo;go_wp2_with fail
   go_ret;exact⟨rfl,wH.zo.trans (HX.zo.trans ae)⟩
end Go.Proofs.YtomgpelfmgkknaaGreatDoor
