/- Lemmas for the law. No conditions. -/
import Derived.Test.YtomgpelfmgkknaaGreatDoorM8
import Derived.Test.YtomgpelfmgkknaaGreatDoorM3
import Derived.Sort.LoopGhostIn
import Derived.TacticsInMore
import Derived.LoopIn
import Derived.Shelf.Abstract
import Derived.Shelf.RegionOpen
namespace Go.Proofs.YtomgpelfmgkknaaGreatDoor
open Go.RowKit Go.Maps
open Go.Proofs.Tryz
set_option maxRecDepth 100000
set_option maxHeartbeats 40000000
set_option linter.unusedVariables false
set_option linter.unusedSimpArgs false
theorem Vm{w:World}{b:Nat}{l:List ByteArray}(hl:l.length<=100000)(h0:0<l.length)(hb:b<w.heap.size)(hs:∀s∈l,gS s)(hc:∀(j:Nat)(s:ByteArray),l[j]?=some s->w.cell? ⟨b,j,none⟩=some (.string s)):Sl fC w (some ⟨b,0,none⟩) l.length l.length l:=by
 refine⟨rfl,l.map .string,⟨by rw[List.length_map];exact(Nat.mul_one _).symm,some ⟨b,0,none⟩,l.length,rfl,Nat.le_refl _,by unfold maxLen;omega,(fun h=>by cases h),fun _=>⟨b,0,rfl,trivial,hb,fun t u hu=> ?_⟩⟩,fun i x hx=> ?_⟩
 ·rw[Nat.zero_add]
  rw[List.getElem?_map]at hu;cases hq:l[t]? with
  |none=>rw[hq]at hu;cases hu
  |some s=>
   rw[hq]at hu;cases hu;exact hc t s hq
 ·obtain⟨hi,e⟩:=bw hx
  have e1:((l.map Value.string).drop (i*fC.k)).take fC.k= [.string x]:=by
   show((l.map Value.string).drop (i*1)).take 1=_;rw[Nat.mul_one,List.drop_eq_getElem_cons (by rw[List.length_map];exact hi),List.take_succ_cons,List.take_zero,List.getElem_map,e]
  rw[e1];exact⟨rfl,hs x (gH hx)⟩
def eI:List ByteArray:= [⟨#[97,114,101,97]⟩,⟨#[99,111,118,101,114]⟩,⟨#[102,108,111,111,114]⟩,⟨#[102,108,111,111,114,115]⟩,⟨#[104,101,105,103,104,116]⟩,⟨#[104,111,109,101,115]⟩,⟨#[114,117,110,111,102,102]⟩,⟨#[115,101,116,98,97,99,107]⟩,⟨#[116,114,97,102,102,105,99]⟩]
theorem AG:∀s∈eI,gS s:=by
 intro s hs;simp only[eI,List.mem_cons,List.not_mem_nil,or_false]at hs;rcases hs with rfl|rfl|rfl|rfl|rfl|rfl|rfl|rfl|rfl<;>(unfold gS;decide)
theorem G5(w:World):Calls prog 302 #[] w fun e w'=> ∃b,e=.returned (.slice (some ⟨b,0,none⟩) 9 9)/\af w w'/\Sl fC w' (some ⟨b,0,none⟩) 9 9 eI:=by
 go_enter func302,ntmps302;go_wp2;go_ret;refine⟨_,rfl,ae,Vm (l:=eI) (by decide) (by decide) (by simp) AG ?_⟩;intro j s hj
 match j,hj with
 |0,hj=>(cases hj;simp[go_sem])
 |1,hj=>(cases hj;simp[go_sem])
 |2,hj=>(cases hj;simp[go_sem])
 |3,hj=>(cases hj;simp[go_sem])
 |4,hj=>(cases hj;simp[go_sem])
 |5,hj=>(cases hj;simp[go_sem])
 |6,hj=>(cases hj;simp[go_sem])
 |7,hj=>(cases hj;simp[go_sem])
 |8,hj=>(cases hj;simp[go_sem])
theorem yL(c:Cap)(s:ByteArray)(nn:Int)(bp:Nat)(cs:zv)(w:World)(h:(iR).R w cs c)(c0:w.cell? ⟨bp,0,none⟩=some (.string s)):Calls prog 156 (#[.agg cs.toArray]++ #[.pointer (some ⟨bp,0,none⟩)]) w (cX (.bool (c.name.toList==s.toList)) w):=by
 obtain⟨o1,c1,rfl,_⟩:=h;have lb:=bP c0;show Calls prog 156 #[.agg #[.string c.name,.int .i64 c.load,.int .i64 c.limit,.slice o1 c.corners.length c1],.pointer (some ⟨bp,0,none⟩)] w _;go_enter func156,ntmps156;go_wp2;go_ret;exact⟨rfl,ae⟩
theorem DX:Enters 156:=fun a w=>by rfl
def dI(zs:List ByteArray)(day:Int)(r:Rule):Bool:=(decide (r.start<=day)&&(r.stop==0||decide (day<r.stop)))&&jD r zs
def NP(zs:List ByteArray)(day:Int)(l:List Rule)(i:Nat):Bool:=match l[i]? with|some r=>dI zs day r|none=>false
def di(zs:List ByteArray)(day:Int)(l:List Rule)(k:Nat):List Int:=((List.range k).filter (NP zs day l)).map fun(i:Nat)=>(i:Int)
theorem NQ{zs:List ByteArray}{day:Int}{l:List Rule}{k:Nat}:(di zs day l k).length<=k:=by
 unfold di;rw[List.length_map];exact Nat.le_trans (List.length_filter_le _ _) (by rw[List.length_range];exact Nat.le_refl _)
theorem yO{zs:List ByteArray}{day:Int}{l:List Rule}{k:Nat}{r:Rule}(h:l[k]?=some r):di zs day l (k+1)=di zs day l k++if dI zs day r then [(k:Int)]else []:=by
 unfold di;rw[List.range_succ,List.filter_append,List.map_append];have:NP zs day l k=dI zs day r:=by unfold NP;rw[h]
 cases q:dI zs day r<;>simp[List.filter_cons,this,q]
theorem VU(p:Plan)(cs:zv)(zs:List ByteArray)(zo:Option Addr)(m zc:Nat)(day:Int)(w:World)(h:(bq).R w cs p)(hz:Sl fC w zo m zc zs)(hn:p.rules.length<=1000):Calls prog 25 #[.agg cs.toArray,.slice zo m zc,.int .i64 day] w fun e w'=> ∃ao c,e=.returned (.slice ao (di zs day p.rules p.rules.length).length c)/\af w w'/\Sl dv w' ao (di zs day p.rules p.rules.length).length c (di zs day p.rules p.rules.length):=by
 obtain⟨i0,hi,hz0,hz1,hz2⟩:=info_parts na;obtain⟨o1,c1,o2,c2,o3,c3,o4,c4,o5,c5,o6,c6,o7,c7,rfl,q0,q1,q2,q3,q4,q5,q6,q7⟩:=h;have H:=aa q3;have HZ:=aa hz;clear q0 q1 q2 q3 q4 q5 q6 q7 hz;go_enter func25,ntmps25;go_wp2;go_loopw [7,13] (fun o i wr=> ∃(k:Nat)(oo:Option Addr)(oc:Nat),k<=p.rules.length/\i=.int .i64 k/\o=.slice oo (di zs day p.rules k).length oc/\af (w.alloc (.cells #[.slice o1 p.defs.length c1,.slice o2 p.tables.length c2,.slice o3 p.zones.length c3,.slice o4 p.rules.length c4,.slice o5 p.caps.length c5,.slice o6 p.views.length c6,.slice o7 p.eA.length c7,.int .i64 p.hours] 30)) wr/\aq dv (w.heap.size+1) 3 wr (.slice oo (di zs day p.rules k).length oc) (di zs day p.rules k)) (fun _ i _=>p.rules.length - (intOf i).toNat)
 case atStart=>exact⟨0,none,0,by omega,rfl,rfl,af.refl _,aq.made _ _ _ _⟩
 case round=>
  obtain⟨k,oo,oc,hk,rfl,rfl,hx,ho⟩:=hrel;have HX:=aa hx;by_cases hlt:k<p.rules.length
  ·obtain⟨d,hd⟩:=H.zo.ex hlt
   have hle:=NQ (zs:=zs) (day:=day) (l:=p.rules) (k:=k);have hsz:w.heap.size+1<=wr.heap.size:=by have:=HX.zo.below.size;simpa using this
   obtain⟨b,off,cs,rfl,lb,hR,cZ⟩:=H.zo.ld hd;obtain⟨nm,Ie,exs,st,sp,gr,va,ki,te,pl,us,ot,nn⟩:=d;by_cases s0:sp=0
   ·subst s0
    have HR:=aa hR;obtain⟨e1,f1,e2,f2,e3,f3,rfl,qq⟩:=hR;clear qq;have hld:∀w',af wr w'->(jf 52 ⟨b,off+k*20,none⟩).run prog w'=.ok (.agg #[.string nm,.slice e1 Ie.length f1,.slice e2 exs.length f2,.int .i64 st,.int .i64 0,.int .i64 gr,.bool va,.int .i64 ki,.int .i64 te.op,.int .i64 te.num,.string te.str,.string te.key,.slice e3 te.args.length f3,.int .i64 pl.side,.int .i64 pl.base,.int .i64 pl.num,.int .i64 pl.den,.int .i64 us,.int .i64 ot,.int .i64 nn]) w':=fun w' he=>cZ w' ((show af w (w.alloc _)from(af.refl w).alloc _).trans (HX.zo.trans he))
    have HW:=aa (show af w wr from((af.refl w).alloc _).trans HX.zo);obtain⟨xs,ho1,ho2⟩:=ho;have lv:=aa ho1;have jY:=aa ho2;have HS:=aa (yO (zs:=zs) (day:=day) hd);obtain⟨L,hL⟩:∃L,di zs day p.rules k=L:=⟨_,rfl⟩;rw[hL]at lv jY hle HS ⊢;obtain⟨cv,hcv⟩:∃b,jD ⟨nm,Ie,exs,st,0,gr,va,ki,te,pl,us,ot,nn⟩ zs=b:=⟨_,rfl⟩;have Ya:=aa hcv;have Hx:=aa (show dI zs day ⟨nm,Ie,exs,st,0,gr,va,ki,te,pl,us,ot,nn⟩=((decide (st<=day)&&((0:Int)==0||decide (day<(0:Int))))&&cv)by unfold dI;rw[hcv]);have stay:∀(hq:dI zs day ⟨nm,Ie,exs,st,0,gr,va,ki,te,pl,us,ot,nn⟩=false),di zs day p.rules (k+1)=L:=fun hq=>by rw[HS.zo,hq];simp
    have more:∀(hq:dI zs day ⟨nm,Ie,exs,st,0,gr,va,ki,te,pl,us,ot,nn⟩=true),di zs day p.rules (k+1)=L++ [(k:Int)]:=fun hq=>by rw[HS.zo,hq];simp
    clear hx ho1 ho2 hd cZ hL hcv;cases t0:decide (st<=day)with
    |false=>
     have HE:=aa (stay (by rw[Hx.zo,t0];rfl));clear stay more;go_wp2_with ((with_reducible refine ag (oH ⟨nm,Ie,exs,st,0,gr,va,ki,te,pl,us,ot,nn⟩ _ zs _ _ _ _ ?_ ?_) ?_);exact(aw).exts HR.zo (HW.zo.trans ae);exact HZ.zo.exts (HW.zo.trans ae);rintro e w' ⟨rfl,x9,rfl⟩;rw[Ya.zo])
     refine⟨⟨k+1,oo,oc,by omega,by go_num,by rw[HE.zo],HX.zo.trans ae,?_⟩,?_⟩
     ·rw[HE.zo]
      exact(show aq dv (w.heap.size+1) 3 wr (.slice oo L.length oc) L from⟨xs,lv.zo,jY.zo⟩).exts ae
     ·simp[intOf];omega
    |true=>
    cases t1:cv with
    |false=>
     have HE:=aa (stay (by rw[Hx.zo,t0,t1];rfl));clear stay more;go_wp2_with ((with_reducible refine ag (oH ⟨nm,Ie,exs,st,0,gr,va,ki,te,pl,us,ot,nn⟩ _ zs _ _ _ _ ?_ ?_) ?_);exact(aw).exts HR.zo (HW.zo.trans ae);exact HZ.zo.exts (HW.zo.trans ae);rintro e w' ⟨rfl,x9,rfl⟩;rw[Ya.zo])
     refine⟨⟨k+1,oo,oc,by omega,by go_num,by rw[HE.zo],HX.zo.trans ae,?_⟩,?_⟩
     ·rw[HE.zo]
      exact(show aq dv (w.heap.size+1) 3 wr (.slice oo L.length oc) L from⟨xs,lv.zo,jY.zo⟩).exts ae
     ·simp[intOf];omega
    |true=>
    have HE:=aa (more (by rw[Hx.zo,t0,t1];rfl));clear stay more;go_wp2_with (first|((with_reducible refine ag (oH ⟨nm,Ie,exs,st,0,gr,va,ki,te,pl,us,ot,nn⟩ _ zs _ _ _ _ ?_ ?_) ?_);exact(aw).exts HR.zo (HW.zo.trans ae);exact HZ.zo.exts (HW.zo.trans ae);rintro e w' ⟨rfl,x9,rfl⟩;rw[Ya.zo])|(at_builtin;refine wpList_append_own _ rfl (.tmp 38) (.tmp 40) 66 rfl (w.heap.size+1) 3 i0 _ 1 8 underlying66 hi hz0 hz1 hz2 rfl (by decide) _ L.length xs rfl (eX lv.zo ae) _ 1 1 [.int .i64 (k:Int)] rfl rfl (JO (by simp[go_sem])) (by simp[Value.oneCell']) (by unfold maxLen;omega) (by omega) (by simp<;>omega) ?_;intro v' w1 hown hgrow hnil))
    obtain⟨oo',oc',rfl⟩:=eC hown;have gm:=aF (W:=w.alloc (.cells #[.slice o1 p.defs.length c1,.slice o2 p.tables.length c2,.slice o3 p.zones.length c3,.slice (some ⟨b,off,none⟩) p.rules.length c4,.slice o5 p.caps.length c5,.slice o6 p.views.length c6,.slice o7 p.eA.length c7,.int .i64 p.hours] 30)) (HX.zo.trans ae) hgrow (fun b hb=>by have:=cm lv.zo b hb;simpa using this);refine⟨⟨k+1,oo',oc',by omega,by go_num,by rw[HE.zo,dG];rfl,gm,?_⟩,?_⟩
    ·rw[HE.zo]
     refine aq.snoc (cs:= [.int .i64 (k:Int)]) (by rw[dG];exact hown) lv.zo.1 (fun i z hz=>jY.zo i z hz) ⟨rfl,by constructor<;>omega⟩
    ·simp[intOf];omega
   ·have s1:(sp==0)=false:=by simp[s0]
    have HR:=aa hR;obtain⟨e1,f1,e2,f2,e3,f3,rfl,qq⟩:=hR;clear qq;have hld:∀w',af wr w'->(jf 52 ⟨b,off+k*20,none⟩).run prog w'=.ok (.agg #[.string nm,.slice e1 Ie.length f1,.slice e2 exs.length f2,.int .i64 st,.int .i64 sp,.int .i64 gr,.bool va,.int .i64 ki,.int .i64 te.op,.int .i64 te.num,.string te.str,.string te.key,.slice e3 te.args.length f3,.int .i64 pl.side,.int .i64 pl.base,.int .i64 pl.num,.int .i64 pl.den,.int .i64 us,.int .i64 ot,.int .i64 nn]) w':=fun w' he=>cZ w' ((show af w (w.alloc _)from(af.refl w).alloc _).trans (HX.zo.trans he))
    have HW:=aa (show af w wr from((af.refl w).alloc _).trans HX.zo);obtain⟨xs,ho1,ho2⟩:=ho;have lv:=aa ho1;have jY:=aa ho2;have HS:=aa (yO (zs:=zs) (day:=day) hd);obtain⟨L,hL⟩:∃L,di zs day p.rules k=L:=⟨_,rfl⟩;rw[hL]at lv jY hle HS ⊢;obtain⟨cv,hcv⟩:∃b,jD ⟨nm,Ie,exs,st,sp,gr,va,ki,te,pl,us,ot,nn⟩ zs=b:=⟨_,rfl⟩;have Ya:=aa hcv;have Hx:=aa (show dI zs day ⟨nm,Ie,exs,st,sp,gr,va,ki,te,pl,us,ot,nn⟩=((decide (st<=day)&&(sp==0||decide (day<sp)))&&cv)by unfold dI;rw[hcv]);have stay:∀(hq:dI zs day ⟨nm,Ie,exs,st,sp,gr,va,ki,te,pl,us,ot,nn⟩=false),di zs day p.rules (k+1)=L:=fun hq=>by rw[HS.zo,hq];simp
    have more:∀(hq:dI zs day ⟨nm,Ie,exs,st,sp,gr,va,ki,te,pl,us,ot,nn⟩=true),di zs day p.rules (k+1)=L++ [(k:Int)]:=fun hq=>by rw[HS.zo,hq];simp
    clear hx ho1 ho2 hd cZ hL hcv;cases t0:decide (st<=day)with
    |false=>
     have HE:=aa (stay (by rw[Hx.zo,s1,t0];rfl));clear stay more;go_wp2_with ((with_reducible refine ag (oH ⟨nm,Ie,exs,st,sp,gr,va,ki,te,pl,us,ot,nn⟩ _ zs _ _ _ _ ?_ ?_) ?_);exact(aw).exts HR.zo (HW.zo.trans ae);exact HZ.zo.exts (HW.zo.trans ae);rintro e w' ⟨rfl,x9,rfl⟩;rw[Ya.zo])
     refine⟨⟨k+1,oo,oc,by omega,by go_num,by rw[HE.zo],HX.zo.trans ae,?_⟩,?_⟩
     ·rw[HE.zo]
      exact(show aq dv (w.heap.size+1) 3 wr (.slice oo L.length oc) L from⟨xs,lv.zo,jY.zo⟩).exts ae
     ·simp[intOf];omega
    |true=>
    cases t1:decide (day<sp)with
    |false=>
     have HE:=aa (stay (by rw[Hx.zo,s1,t0,t1];rfl));clear stay more;go_wp2_with ((with_reducible refine ag (oH ⟨nm,Ie,exs,st,sp,gr,va,ki,te,pl,us,ot,nn⟩ _ zs _ _ _ _ ?_ ?_) ?_);exact(aw).exts HR.zo (HW.zo.trans ae);exact HZ.zo.exts (HW.zo.trans ae);rintro e w' ⟨rfl,x9,rfl⟩;rw[Ya.zo])
     refine⟨⟨k+1,oo,oc,by omega,by go_num,by rw[HE.zo],HX.zo.trans ae,?_⟩,?_⟩
     ·rw[HE.zo]
      exact(show aq dv (w.heap.size+1) 3 wr (.slice oo L.length oc) L from⟨xs,lv.zo,jY.zo⟩).exts ae
     ·simp[intOf];omega
    |true=>
    cases t2:cv with
    |false=>
     have HE:=aa (stay (by rw[Hx.zo,s1,t0,t1,t2];rfl));clear stay more;go_wp2_with ((with_reducible refine ag (oH ⟨nm,Ie,exs,st,sp,gr,va,ki,te,pl,us,ot,nn⟩ _ zs _ _ _ _ ?_ ?_) ?_);exact(aw).exts HR.zo (HW.zo.trans ae);exact HZ.zo.exts (HW.zo.trans ae);rintro e w' ⟨rfl,x9,rfl⟩;rw[Ya.zo])
     refine⟨⟨k+1,oo,oc,by omega,by go_num,by rw[HE.zo],HX.zo.trans ae,?_⟩,?_⟩
     ·rw[HE.zo]
      exact(show aq dv (w.heap.size+1) 3 wr (.slice oo L.length oc) L from⟨xs,lv.zo,jY.zo⟩).exts ae
     ·simp[intOf];omega
    |true=>
    have HE:=aa (more (by rw[Hx.zo,s1,t0,t1,t2];rfl));clear stay more;go_wp2_with (first|((with_reducible refine ag (oH ⟨nm,Ie,exs,st,sp,gr,va,ki,te,pl,us,ot,nn⟩ _ zs _ _ _ _ ?_ ?_) ?_);exact(aw).exts HR.zo (HW.zo.trans ae);exact HZ.zo.exts (HW.zo.trans ae);rintro e w' ⟨rfl,x9,rfl⟩;rw[Ya.zo])|(at_builtin;refine wpList_append_own _ rfl (.tmp 38) (.tmp 40) 66 rfl (w.heap.size+1) 3 i0 _ 1 8 underlying66 hi hz0 hz1 hz2 rfl (by decide) _ L.length xs rfl (eX lv.zo ae) _ 1 1 [.int .i64 (k:Int)] rfl rfl (JO (by simp[go_sem])) (by simp[Value.oneCell']) (by unfold maxLen;omega) (by omega) (by simp<;>omega) ?_;intro v' w1 hown hgrow hnil))
    obtain⟨oo',oc',rfl⟩:=eC hown;have gm:=aF (W:=w.alloc (.cells #[.slice o1 p.defs.length c1,.slice o2 p.tables.length c2,.slice o3 p.zones.length c3,.slice (some ⟨b,off,none⟩) p.rules.length c4,.slice o5 p.caps.length c5,.slice o6 p.views.length c6,.slice o7 p.eA.length c7,.int .i64 p.hours] 30)) (HX.zo.trans ae) hgrow (fun b hb=>by have:=cm lv.zo b hb;simpa using this);refine⟨⟨k+1,oo',oc',by omega,by go_num,by rw[HE.zo,dG];rfl,gm,?_⟩,?_⟩
    ·rw[HE.zo]
     refine aq.snoc (cs:= [.int .i64 (k:Int)]) (by rw[dG];exact hown) lv.zo.1 (fun i z hz=>jY.zo i z hz) ⟨rfl,by constructor<;>omega⟩
    ·simp[intOf];omega
  ·obtain rfl:k=p.rules.length:=by omega
   have HO:=aa (ho.sl rfl);have gm:=HX.zo;clear hx ho;go_wp2;go_ret;exact⟨_,_,rfl,((af.refl w).alloc _).trans HX.zo,HO.zo⟩
def findD(l:List Lot)(id:Int):Option Lot:=l.find? fun t=>t.id==id
theorem Rz{l:List Lot}{id:Int}{k:Nat}{d:Lot}(hd:l[k]?=some d)(h:(d.id==id)=true)(h2:∀(j:Nat)(x:Lot),j<k->l[j]?=some x->(x.id==id)=false):findD l id=some d:=by
 obtain⟨hk,e⟩:=bw hd;unfold findD;rw[List.find?_eq_some_iff_getElem];exact⟨h,k,hk,e,fun j hj=>by rw[h2 j _ hj (fZ (by omega))];rfl⟩
theorem Ks{l:List Lot}{id:Int}(h2:∀(j:Nat)(x:Lot),l[j]?=some x->(x.id==id)=false):findD l id=none:=by
 unfold findD;rw[List.find?_eq_none];intro x hx;obtain⟨j,hj⟩:=List.getElem?_of_mem hx;rw[h2 j x hj];simp
def acV(r:Option Lot)(w:World)(e:Ending)(w':World):Prop:=
 match r with
 |some t=> ∃(E7:Option Addr)(c1:Nat)(zx:Option Addr)(c2:Nat),e=.returned (.tuple #[.agg #[.int .i64 t.id,.int .i64 t.owner,.slice E7 t.area.length c1,.slice zx t.old.length c2],.bool true])/\af w w'/\Bt je w.heap.size w' E7 t.area.length c1 t.area/\Bt dv w.heap.size w' zx t.old.length c2 t.old
 |none=>e=.returned (.tuple #[.agg #[.int .i64 0,.int .i64 0,.slice none 0 0,.slice none 0 0],.bool false])/\af w w'
theorem Kt(ao:Option Addr)(n c:Nat)(l:List Lot)(id:Int)(w:World)(h:Sl pM w ao n c l)(ha:∀(i:Nat)(x:Lot),l[i]?=some x->x.area.length<=1000/\x.old.length<=1048576):Calls prog 71 #[.slice ao n c,.int .i64 id] w (acV (findD l id) w):=by
 obtain⟨res,hres⟩:∃r,findD l id=r:=⟨_,rfl⟩;rw[hres];have aD:=aa hres;have H:=aa h;have HL:=aa h.1;have HA:=aa ha;have hm:=h.nle;unfold maxLen at hm;clear h hres ha;go_enter func71,ntmps71;go_wp2;go_loopw [10] (fun i wr=> ∃(k:Nat),k<=n/\i=.int .i64 k/\af (w.alloc (.cells #[.int .i64 0,.int .i64 0,.slice none 0 0,.slice none 0 0] 77)) wr/\∀(j:Nat)(x:Lot),j<k->l[j]?=some x->(x.id==id)=false) (fun i _=>n - (intOf i).toNat)
 case atStart=>exact⟨0,by omega,rfl,af.refl _,fun j x hj=>by omega⟩
 case round=>
  obtain⟨k,hk,rfl,⟨y,rfl⟩,hall⟩:=hrel;have ey:=aa hall;clear hall;by_cases hlt:k<n
  ·obtain⟨d,hd⟩:=H.zo.ex hlt
   obtain⟨b,off,cs,rfl,lb,hR,hld⟩:=H.zo.ld hd;obtain⟨hA1,hA2⟩:=HA.zo k d hd;have HR:=aa hR;obtain⟨E7,c1,zx,c2,rfl,q0,q1,q2,q3⟩:=hR;have HD:=aa hd;clear hd q0 q1 q2 q3;cases q:(d.id==id)with
   |false=>
    have HQ:=aa q;have q': ¬d.id=id:=by simpa using q
    go_wp2;refine⟨⟨k+1,by omega,by go_num,ae,fun j x hj hx=> ?_⟩,?_⟩
    ·rcases Nat.lt_or_ge j k with h1|h1
     ·exact ey.zo j x h1 hx
     ·obtain rfl:j=k:=by omega
      have e:=HD.zo;rw[hx]at e;cases e;exact HQ.zo
    ·simp[intOf];omega
   |true=>
    have HF:=aa (show res=some d by rw[<-aD.zo];exact Rz HD.zo q ey.zo);have e0:id=d.id:=by simpa using Eq.symm (by simpa using q:d.id=id)
    subst e0;clear q;go_wp2_with ((with_reducible refine ag (Ry d _ _ ?_ hA1 hA2) ?_);exact(pM).exts HR.zo ae;rintro e w' ⟨ao3,c3,ao4,c4,rfl,⟨y3,rfl⟩,hs3,hs4⟩;(have HS3:=aa hs3);(have X7:=aa hs4);clear hs3 hs4)
    have S3:=aa ((HS3.zo).kept' (w':=av ((av (w.alloc (.cells #[.int .i64 d.id,.int .i64 d.owner,.slice ao3 d.area.length c3,.slice ao4 d.old.length c4] 77)) y).alloc (.cells #[.int .i64 d.id,.int .i64 d.owner,.slice E7 d.area.length c1,.slice zx d.old.length c2] 77)) y3) Mc (Keeps.base rfl (by simp)));have S4:=aa ((X7.zo).kept' (w':=av ((av (w.alloc (.cells #[.int .i64 d.id,.int .i64 d.owner,.slice ao3 d.area.length c3,.slice ao4 d.old.length c4] 77)) y).alloc (.cells #[.int .i64 d.id,.int .i64 d.owner,.slice E7 d.area.length c1,.slice zx d.old.length c2] 77)) y3) Ip (Keeps.base rfl (by simp)));rw[HF.zo];refine bodyPost_ret (v:=.tuple #[.agg #[.int .i64 d.id,.int .i64 d.owner,.slice ao3 d.area.length c3,.slice ao4 d.old.length c4],.bool true]) (by simp[results,go_sem]) rfl ?_;exact⟨ao3,c3,ao4,c4,rfl,ae,S3.zo.up (by simp<;>omega),S4.zo.up (by simp<;>omega)⟩
  ·obtain rfl:k=n:=by omega
   have HF:=aa (show res=none by rw[<-aD.zo];exact Ks fun j x hx=>ey.zo j x (by have:=(bw hx).1;rw[HL.zo]at this;exact this) hx);go_wp2;rw[HF.zo];refine bodyPost_ret (v:=.tuple #[.agg #[.int .i64 0,.int .i64 0,.slice none 0 0,.slice none 0 0],.bool false]) (by simp[results,go_sem]) rfl ?_;exact⟨rfl,ae⟩
section
structure CEx where
 c:Array Value
 x:Ex
instance :Nonempty CEx:=⟨⟨#[],⟨#[],0⟩⟩⟩
def OD(B M:Nat)(b:Nat):Prop:=b<B∨M<=b
theorem On.two{w:World}{o1 o2 p1 p2:Obj}{x y:Ex}(hyz:∃zs,y.bs=x.bs++zs):On (fun b=>b<w.heap.size∨w.heap.size+2<=b) (av ((w.alloc o1).alloc o2) x) (av ((w.alloc p1).alloc p2) y):=by
 obtain⟨zs,hy⟩:=hyz;exact⟨rfl,rfl,rfl,by simp[hy]<;>omega,fun b hb hl=>by
 unfold av World.alloc;simp only;rcases hb with hb|hb
 ·rw[Array.getElem?_append_left (by simp;omega),Array.getElem?_append_left (by simp;omega),Array.getElem?_push_lt (by simp;omega),Array.getElem?_push_lt (by simp;omega)]
  simp[Array.getElem_push,hb]
 ·rw[Array.getElem?_append_right (by simp;omega),Array.getElem?_append_right (by simp;omega),hy]
  simp only[Array.size_push];rw[Array.getElem?_append_left];have hl2:b<w.heap.size+1+1+x.bs.size:=by simpa using hl
  omega⟩
section
variable {T T':Type}{L:Lay T}{L':Lay T'}{B M base:Nat}{e e':TypeId}{w wr w1:World}{g n c k off n' c':Nat}{ao':Option Addr}{l:List T}{l':List T'}{d:T}{x:Ex}{v u:Value}
theorem bL.mono{D D':Nat->Prop}(h:bL D L base e w v l)(hd:∀b,D b->D' b):bL D' L base e w v l:=by
 obtain⟨xs,h1,h2⟩:=h;exact⟨xs,h1,fun i d hi=>(h2 i d hi).mono fun b hb=>⟨hd b hb.1,hb.2⟩⟩
theorem bL.lower{D:Nat->Prop}{base':Nat}(h:bL D L base e w v l)(hb:base'<=base):bL D L base' e w v l:=by
 obtain⟨xs,⟨h0,h1⟩,h2⟩:=h;refine⟨xs,⟨h0,?_⟩,h2⟩;rcases h1 with h1|⟨g,cap,cur,h3,h4,h5⟩
 ·exact .inl h1
 ·exact .inr ⟨g,cap,cur,h3,Nat.le_trans hb h4,h5⟩
theorem bL.ty{D:Nat->Prop}(h:bL D L base e w v l):fk e w v:=by
 obtain⟨xs,h1,_⟩:=h;exact fk.ku h1
theorem bL.past(h:bL (OD B M) L base e w v l)(hu:fk e' w u)(hub:∀b,u.ownBlock=some b->B<=b/\b<M)(hne:e≠e')(ho:On (fun b=>u.ownBlock≠some b) w w1):bL (OD B M) L base e w1 v l:=
 h.at (ho.mono fun b hb h0=>by
  rcases hb with hb|hb
  ·have:=hub b h0
   rcases hb with hb|hb<;>omega
  ·rcases h.ty.ne hu hne with h1|h1
   ·rw[h1]at hb;cases hb
   ·exact h1 (hb.trans h0.symm))
theorem bL.form{D:Nat->Prop}{ao:Option Addr}(h:bL D L base e w (.slice ao n c) l)(hn:l.length=n)(h0:0<n):∃g cur,ao=some ⟨g,0,none⟩/\base<=g/\g<w.heap.size/\w.heap[g]?=some (.cells cur e (0,0))/\n*L.k<=cur.size:=by
 obtain⟨xs,⟨hlen,h1⟩,h2⟩:=h;rw[hn]at hlen h1;rcases h1 with⟨h3,h4⟩|⟨g,cap,cur,hv,hb,hg,hnc,hcm,hcs,ht⟩
 ·omega
 ·simp only[Value.slice.injEq,true_and]at hv
  obtain⟨rfl,rfl⟩:=hv;exact⟨g,cur,rfl,hb,(Array.getElem?_eq_some_iff.1 hg).1,hg,by rw[hcs];exact Nat.mul_le_mul_right _ hnc⟩
theorem uJ{l:List T}(hd:l[k]?=some d)(hn:l.length=n){K:Nat}:k*K+K<=n*K:=by
 have hk:=(bw hd).1;calc k*K+K=(k+1)*K:=by rw[Nat.add_mul,Nat.one_mul]
  _<=n*K:=Nat.mul_le_mul_right _ (by omega)
theorem On.Ah{D:Nat->Prop}{cs:Array Value}(hd: ¬D g):On D w (w.setRow g cs):=by
 refine⟨rfl,rfl,rfl,by simp[World.setRow],fun b hb _=> ?_⟩;unfold World.setRow;simp only;rw[Array.getElem?_modify,if_neg (fun h0=>hd (by rw[h0];exact hb))]
theorem BP{nb:Nat}(hO:bL (OD B M) L base e wr (.slice (some ⟨g,0,none⟩) n c) l)(hn:l.length=n)(hd:l[k]?=some d)(hoff:off+1<=L.k)(hf:Flat L')(hnew:aq L' nb e' wr (.slice ao' n' c') l')(hn':l'.length=n')(hM:M<=nb)(hg:g<nb)
 (hl:∀w2 cs,L.R w2 cs d->Sl L' w2 ao' n' c' l'->L.R w2 (oY cs off [.slice ao' n' c']) d):bL (OD B M) L base e (wr.setCell ⟨g,k*L.k+off,none⟩ (.slice ao' n' c')) (.slice (some ⟨g,0,none⟩) n c) l:=by
 obtain⟨g',cur,hg',hb,hgl,hgc,hcs⟩:=hO.form hn (by have:=(bw hd).1;omega);simp only[Option.some.injEq,Addr.mk.injEq,and_true]at hg';subst hg';have hlt:=uJ (K:=L.k) hd hn;refine bL.put (j:=off) (vs:= [.slice ao' n' c']) (i:=k) (d:=d) hO hn (bW _ _ _ _) (fun KC h2 _=> ?_) hoff hd fun cs h w2 ho=> ?_
 ·rw[heap_setCell_same _ g _ KC e _ h2]
  congr 2;apply Array.ext_getElem?;intro q;rw[Array.getElem?_setIfInBounds];have hfit:k*L.k+off+ [Value.slice ao' n' c'].length<=KC.toList.length:=by
   rw[h2]at hgc;cases hgc;simp;omega
  rw[List.getElem?_toArray (xs:=oY _ _ _),oL hfit];simp at hfit;by_cases h1:k*L.k+off=q
  ·subst h1
   simp;omega
  ·rw[if_neg h1]
   split
   ·simp
   ·rw[if_neg (by simp;omega)]
    simp
 ·refine hl w2 cs (h w2 ho) ((hnew.atF hf (ho.mono fun b hb=> ?_)).sl hn')
  obtain⟨xs,h3,_⟩:=hnew;have:=cm h3 b hb;exact⟨.inr (by omega),fun h0=>by have h1:g=b:=(by simpa[Value.ownBlock]using h0);omega⟩
theorem IV{nb:Nat}{vs:zv}{ex:Xp}(hO:bL (OD B M) L base e wr (.slice (some ⟨g,0,none⟩) n c) l)(hn:l.length=n)(hd:l[k]?=some d)(hoff:off+vs.length<=L.k)(hnew:jg (fun b=>nb<=b) wr j7 vs ex)(hM:M<=nb)(hg:g<nb)
 (hl:∀w2 cs,L.R w2 cs d->iP w2 vs ex->L.R w2 (oY cs off vs) d):bL (OD B M) L base e (wr.setRow g (xD (rowOf wr g) (k*L.k+off) vs)) (.slice (some ⟨g,0,none⟩) n c) l:=by
 obtain⟨g',cur,hg',hb,hgl,hgc,hcs⟩:=hO.form hn (by have:=(bw hd).1;omega);simp only[Option.some.injEq,Addr.mk.injEq,and_true]at hg';subst hg';have hlt:=uJ (K:=L.k) hd hn;refine bL.put (j:=off) (vs:=vs) (i:=k) (d:=d) hO hn ?_ (fun KC h2 _=> ?_) hoff hd fun cs h w2 ho=> ?_
 ·refine⟨rfl,rfl,rfl,by simp[World.setRow],fun b hb hne=> ?_⟩
  unfold World.setRow;simp only;rw[Array.getElem?_modify,if_neg (fun h0=>hne (by rw[h0]))]
 ·rw[h2]at hgc
  cases hgc;unfold World.setRow;simp only;rw[Array.getElem?_modify,if_pos rfl,h2,gI h2];rfl
 ·exact hl w2 cs (h w2 ho) (hnew w2 (ho.mono fun b hb=>⟨.inr (by omega),fun h0=>by have h1:g=b:=(by simpa[Value.ownBlock]using h0);omega⟩))
theorem ua(hO:bL (OD B M) L base e wr (.slice (some ⟨g,0,none⟩) n c) l)(hn:l.length=n)(hd:l[k]?=some d)(hoff:off+1<=L.k)(hf:Flat L')(hnew:aq L' wr.heap.size e' (av wr x) (.slice ao' n' c') l')(hn':l'.length=n')(hM:M<=wr.heap.size)
 (hl:∀w2 cs,L.R w2 cs d->Sl L' w2 ao' n' c' l'->L.R w2 (oY cs off [.slice ao' n' c']) d):bL (OD B M) L base e (av (wr.setCell ⟨g,k*L.k+off,none⟩ (.slice ao' n' c')) x) (.slice (some ⟨g,0,none⟩) n c) l:=by
 have hgl:g<wr.heap.size:=(hO.lt rfl).2;rw[<-qE _ _ _ _ _ hgl];exact BP (hO.exts ((af.refl wr).av x)) hn hd hoff hf hnew hn' hM hgl hl
theorem Oh{vs:zv}{ex:Xp}(hO:bL (OD B M) L base e wr (.slice (some ⟨g,0,none⟩) n c) l)(hn:l.length=n)(hd:l[k]?=some d)(hoff:off+vs.length<=L.k)(hnew:jg (fun b=>wr.heap.size<=b) (av wr x) j7 vs ex)(hM:M<=wr.heap.size)
 (hl:∀w2 cs,L.R w2 cs d->iP w2 vs ex->L.R w2 (oY cs off vs) d):bL (OD B M) L base e (av (wr.setRow g (xD (rowOf wr g) (k*L.k+off) vs)) x) (.slice (some ⟨g,0,none⟩) n c) l:=by
 have hgl:g<wr.heap.size:=(hO.lt rfl).2;have e1:av (wr.setRow g (xD (rowOf wr g) (k*L.k+off) vs)) x=(av wr x).setRow g (xD (rowOf (av wr x) g) (k*L.k+off) vs):=by
  rw[yx,if_pos hgl,JR,if_pos hgl]
 rw[e1];exact IV (hO.exts ((af.refl wr).av x)) hn hd hoff hnew hM hgl hl
theorem setRow_self{cur:Array Value}(h:w.heap[g]?=some (.cells cur e (0,0))):w.setRow g (rowOf w g)=w:=by
 have e1:w.heap.modify g (fun| .cells _ elem frozen=> .cells (rowOf w g) elem frozen|o=>o)=w.heap:=by
  apply Array.ext_getElem?;intro q;rw[Array.getElem?_modify];split
  ·rename_i hq
   subst hq;rw[h,gI h];rfl
  ·rfl
 exact congrArg (fun h=>({w with heap:=h}:World)) e1
theorem zb{cur:Array Value}(h:w.heap[g]?=some (.cells cur e (0,0)))(o:Nat)(u:Value):w.setCell ⟨g,o,none⟩ u=w.setRow g ((rowOf w g).setIfInBounds o u):=by
 have e1:w.heap.modify g (fun| .cells c elem frozen=> .cells (if(none:Option Nat).isSome then c else c.setIfInBounds o u) elem frozen|o=>o)=w.heap.modify g (fun| .cells _ elem frozen=> .cells ((rowOf w g).setIfInBounds o u) elem frozen|o=>o):=by
  apply Array.ext_getElem?;intro q;rw[Array.getElem?_modify,Array.getElem?_modify];split
  ·rename_i hq
   subst hq;rw[h,gI h];rfl
  ·rfl
 unfold World.setCell World.setRow;simp only;congr 1
theorem Fx(w:World)(g:Nat)(c1 c2:Array Value):(w.setRow g c1).setRow g c2=w.setRow g c2:=by
 unfold World.setRow;simp only;congr 1;apply Array.ext_getElem?;intro q;rw[Array.getElem?_modify,Array.getElem?_modify,Array.getElem?_modify];split
 ·cases h:w.heap[q]? with
  |none=>rfl
  |some o=>cases o<;>rfl
 ·rfl
end
end
structure Sr(p:Plan):Prop where
 defs:p.defs.length<=1000
 tables:p.tables.length<=1000
 zones:p.zones.length<=1000
 rules:p.rules.length<=1000
 caps:p.caps.length<=1000
 views:p.views.length<=1000
 eA:p.eA.length<=1000
 rows:∀(i:Nat)(t:xz),p.tables[i]?=some t->t.rows.length<=1000
 body:∀(i:Nat)(d:Def),p.defs[i]?=some d->okA 13 d.body=true
 zone:∀(i:Nat)(z:Zone),p.zones[i]?=some z->z.corners.length<=1000
 rule:∀(i:Nat)(r:Rule),p.rules[i]?=some r->r.zones.length<=1000/\r.exc.length<=1000/\okA 13 r.test=true
 cap:∀(i:Nat)(z:Cap),p.caps[i]?=some z->z.corners.length<=1000
 view:∀(i:Nat)(v:View),p.views[i]?=some v->v.targets.length<=1000
theorem IW:Flat eY:=fun _ _ _ _ h=>h
theorem IX:Flat zV:=fun _ _ _ _ h=>h
theorem IY:Flat yw:=fun _ _ _ _ h=>h
theorem xY:Flat fC:=fun _ _ _ _ h=>h
structure gQ(w wr:World)(M:Nat)(p:Plan)(v0 v1 v2 v3 v4 v5 v6:Value):Prop where
 ex:af w wr
 sz:M<=wr.heap.size
 row:isRow wr w.heap.size 8/\rowOf wr w.heap.size=#[v0,v1,v2,v3,v4,v5,v6,.int .i64 p.hours]
 res:isRow wr (w.heap.size+1) 8
 c0:wr.cell? ⟨w.heap.size,0,none⟩=some v0
 c1:wr.cell? ⟨w.heap.size,1,none⟩=some v1
 c2:wr.cell? ⟨w.heap.size,2,none⟩=some v2
 c3:wr.cell? ⟨w.heap.size,3,none⟩=some v3
 c4:wr.cell? ⟨w.heap.size,4,none⟩=some v4
 c5:wr.cell? ⟨w.heap.size,5,none⟩=some v5
 c6:wr.cell? ⟨w.heap.size,6,none⟩=some v6
 b0:∀b,v0.ownBlock=some b->w.heap.size+1+1<=b/\b<M
 b1:∀b,v1.ownBlock=some b->w.heap.size+1+1<=b/\b<M
 b2:∀b,v2.ownBlock=some b->w.heap.size+1+1<=b/\b<M
 b3:∀b,v3.ownBlock=some b->w.heap.size+1+1<=b/\b<M
 b4:∀b,v4.ownBlock=some b->w.heap.size+1+1<=b/\b<M
 b5:∀b,v5.ownBlock=some b->w.heap.size+1+1<=b/\b<M
 b6:∀b,v6.ownBlock=some b->w.heap.size+1+1<=b/\b<M
 o0:bL (OD w.heap.size M) mC (w.heap.size+1+1) 126 wr v0 p.defs
 o1:bL (OD w.heap.size M) nB (w.heap.size+1+1) 132 wr v1 p.tables
 o2:bL (OD w.heap.size M) jV (w.heap.size+1+1) 128 wr v2 p.zones
 o3:bL (OD w.heap.size M) aw (w.heap.size+1+1) 52 wr v3 p.rules
 o4:bL (OD w.heap.size M) iR (w.heap.size+1+1) 130 wr v4 p.caps
 o5:bL (OD w.heap.size M) kM (w.heap.size+1+1) 136 wr v5 p.views
 o6:bL (OD w.heap.size M) yw (w.heap.size+1+1) 134 wr v6 p.eA
theorem gQ.adl{w wr w1:World}{M:Nat}{p:Plan}{v0 v1 v2 v3 v4 v5 v6:Value}(h:gQ w wr M p v0 v1 v2 v3 v4 v5 v6)(ho:On (fun b=>v0.ownBlock≠some b) wr w1)(hO:bL (OD w.heap.size M) mC (w.heap.size+1+1) 126 w1 v0 p.defs):gQ w w1 M p v0 v1 v2 v3 v4 v5 v6:=by
 have hb:∀b,v0.ownBlock=some b->w.heap.size<=b/\b<M:=fun b hb=>by have:=h.b0 b hb;omega
 have hn:∀b,b<w.heap.size+1+1->v0.ownBlock≠some b:=fun b hl h0=>by have:=h.b0 b h0;omega
 obtain⟨r1,r2⟩:=ho.row (hn _ (by omega)) h.row.1;exact⟨af.of_below (Below.trans h.ex.below (ho.below (fun b hl=>hn b (by omega)) h.ex.below.size)),Nat.le_trans h.sz ho.size,⟨r1,r2.trans h.row.2⟩,(ho.row (hn _ (by omega)) h.res).1,ho.cell (hn _ (by omega)) h.c0,ho.cell (hn _ (by omega)) h.c1,ho.cell (hn _ (by omega)) h.c2,ho.cell (hn _ (by omega)) h.c3,ho.cell (hn _ (by omega)) h.c4,ho.cell (hn _ (by omega)) h.c5,ho.cell (hn _ (by omega)) h.c6,h.b0,h.b1,h.b2,h.b3,h.b4,h.b5,h.b6,hO,h.o1.past h.o0.ty hb (by decide) ho,h.o2.past h.o0.ty hb (by decide) ho,h.o3.past h.o0.ty hb (by decide) ho,h.o4.past h.o0.ty hb (by decide) ho,h.o5.past h.o0.ty hb (by decide) ho,h.o6.past h.o0.ty hb (by decide) ho⟩
theorem gQ.adn{w wr w1:World}{M:Nat}{p:Plan}{v0 v1 v2 v3 v4 v5 v6:Value}(h:gQ w wr M p v0 v1 v2 v3 v4 v5 v6)(ho:On (fun b=>v1.ownBlock≠some b) wr w1)(hO:bL (OD w.heap.size M) nB (w.heap.size+1+1) 132 w1 v1 p.tables):gQ w w1 M p v0 v1 v2 v3 v4 v5 v6:=by
 have hb:∀b,v1.ownBlock=some b->w.heap.size<=b/\b<M:=fun b hb=>by have:=h.b1 b hb;omega
 have hn:∀b,b<w.heap.size+1+1->v1.ownBlock≠some b:=fun b hl h0=>by have:=h.b1 b h0;omega
 obtain⟨r1,r2⟩:=ho.row (hn _ (by omega)) h.row.1;exact⟨af.of_below (Below.trans h.ex.below (ho.below (fun b hl=>hn b (by omega)) h.ex.below.size)),Nat.le_trans h.sz ho.size,⟨r1,r2.trans h.row.2⟩,(ho.row (hn _ (by omega)) h.res).1,ho.cell (hn _ (by omega)) h.c0,ho.cell (hn _ (by omega)) h.c1,ho.cell (hn _ (by omega)) h.c2,ho.cell (hn _ (by omega)) h.c3,ho.cell (hn _ (by omega)) h.c4,ho.cell (hn _ (by omega)) h.c5,ho.cell (hn _ (by omega)) h.c6,h.b0,h.b1,h.b2,h.b3,h.b4,h.b5,h.b6,h.o0.past h.o1.ty hb (by decide) ho,hO,h.o2.past h.o1.ty hb (by decide) ho,h.o3.past h.o1.ty hb (by decide) ho,h.o4.past h.o1.ty hb (by decide) ho,h.o5.past h.o1.ty hb (by decide) ho,h.o6.past h.o1.ty hb (by decide) ho⟩
theorem gQ.ado{w wr w1:World}{M:Nat}{p:Plan}{v0 v1 v2 v3 v4 v5 v6:Value}(h:gQ w wr M p v0 v1 v2 v3 v4 v5 v6)(ho:On (fun b=>v2.ownBlock≠some b) wr w1)(hO:bL (OD w.heap.size M) jV (w.heap.size+1+1) 128 w1 v2 p.zones):gQ w w1 M p v0 v1 v2 v3 v4 v5 v6:=by
 have hb:∀b,v2.ownBlock=some b->w.heap.size<=b/\b<M:=fun b hb=>by have:=h.b2 b hb;omega
 have hn:∀b,b<w.heap.size+1+1->v2.ownBlock≠some b:=fun b hl h0=>by have:=h.b2 b h0;omega
 obtain⟨r1,r2⟩:=ho.row (hn _ (by omega)) h.row.1;exact⟨af.of_below (Below.trans h.ex.below (ho.below (fun b hl=>hn b (by omega)) h.ex.below.size)),Nat.le_trans h.sz ho.size,⟨r1,r2.trans h.row.2⟩,(ho.row (hn _ (by omega)) h.res).1,ho.cell (hn _ (by omega)) h.c0,ho.cell (hn _ (by omega)) h.c1,ho.cell (hn _ (by omega)) h.c2,ho.cell (hn _ (by omega)) h.c3,ho.cell (hn _ (by omega)) h.c4,ho.cell (hn _ (by omega)) h.c5,ho.cell (hn _ (by omega)) h.c6,h.b0,h.b1,h.b2,h.b3,h.b4,h.b5,h.b6,h.o0.past h.o2.ty hb (by decide) ho,h.o1.past h.o2.ty hb (by decide) ho,hO,h.o3.past h.o2.ty hb (by decide) ho,h.o4.past h.o2.ty hb (by decide) ho,h.o5.past h.o2.ty hb (by decide) ho,h.o6.past h.o2.ty hb (by decide) ho⟩
theorem gQ.adp{w wr w1:World}{M:Nat}{p:Plan}{v0 v1 v2 v3 v4 v5 v6:Value}(h:gQ w wr M p v0 v1 v2 v3 v4 v5 v6)(ho:On (fun b=>v3.ownBlock≠some b) wr w1)(hO:bL (OD w.heap.size M) aw (w.heap.size+1+1) 52 w1 v3 p.rules):gQ w w1 M p v0 v1 v2 v3 v4 v5 v6:=by
 have hb:∀b,v3.ownBlock=some b->w.heap.size<=b/\b<M:=fun b hb=>by have:=h.b3 b hb;omega
 have hn:∀b,b<w.heap.size+1+1->v3.ownBlock≠some b:=fun b hl h0=>by have:=h.b3 b h0;omega
 obtain⟨r1,r2⟩:=ho.row (hn _ (by omega)) h.row.1;exact⟨af.of_below (Below.trans h.ex.below (ho.below (fun b hl=>hn b (by omega)) h.ex.below.size)),Nat.le_trans h.sz ho.size,⟨r1,r2.trans h.row.2⟩,(ho.row (hn _ (by omega)) h.res).1,ho.cell (hn _ (by omega)) h.c0,ho.cell (hn _ (by omega)) h.c1,ho.cell (hn _ (by omega)) h.c2,ho.cell (hn _ (by omega)) h.c3,ho.cell (hn _ (by omega)) h.c4,ho.cell (hn _ (by omega)) h.c5,ho.cell (hn _ (by omega)) h.c6,h.b0,h.b1,h.b2,h.b3,h.b4,h.b5,h.b6,h.o0.past h.o3.ty hb (by decide) ho,h.o1.past h.o3.ty hb (by decide) ho,h.o2.past h.o3.ty hb (by decide) ho,hO,h.o4.past h.o3.ty hb (by decide) ho,h.o5.past h.o3.ty hb (by decide) ho,h.o6.past h.o3.ty hb (by decide) ho⟩
theorem gQ.adq{w wr w1:World}{M:Nat}{p:Plan}{v0 v1 v2 v3 v4 v5 v6:Value}(h:gQ w wr M p v0 v1 v2 v3 v4 v5 v6)(ho:On (fun b=>v4.ownBlock≠some b) wr w1)(hO:bL (OD w.heap.size M) iR (w.heap.size+1+1) 130 w1 v4 p.caps):gQ w w1 M p v0 v1 v2 v3 v4 v5 v6:=by
 have hb:∀b,v4.ownBlock=some b->w.heap.size<=b/\b<M:=fun b hb=>by have:=h.b4 b hb;omega
 have hn:∀b,b<w.heap.size+1+1->v4.ownBlock≠some b:=fun b hl h0=>by have:=h.b4 b h0;omega
 obtain⟨r1,r2⟩:=ho.row (hn _ (by omega)) h.row.1;exact⟨af.of_below (Below.trans h.ex.below (ho.below (fun b hl=>hn b (by omega)) h.ex.below.size)),Nat.le_trans h.sz ho.size,⟨r1,r2.trans h.row.2⟩,(ho.row (hn _ (by omega)) h.res).1,ho.cell (hn _ (by omega)) h.c0,ho.cell (hn _ (by omega)) h.c1,ho.cell (hn _ (by omega)) h.c2,ho.cell (hn _ (by omega)) h.c3,ho.cell (hn _ (by omega)) h.c4,ho.cell (hn _ (by omega)) h.c5,ho.cell (hn _ (by omega)) h.c6,h.b0,h.b1,h.b2,h.b3,h.b4,h.b5,h.b6,h.o0.past h.o4.ty hb (by decide) ho,h.o1.past h.o4.ty hb (by decide) ho,h.o2.past h.o4.ty hb (by decide) ho,h.o3.past h.o4.ty hb (by decide) ho,hO,h.o5.past h.o4.ty hb (by decide) ho,h.o6.past h.o4.ty hb (by decide) ho⟩
theorem gQ.adr{w wr w1:World}{M:Nat}{p:Plan}{v0 v1 v2 v3 v4 v5 v6:Value}(h:gQ w wr M p v0 v1 v2 v3 v4 v5 v6)(ho:On (fun b=>v5.ownBlock≠some b) wr w1)(hO:bL (OD w.heap.size M) kM (w.heap.size+1+1) 136 w1 v5 p.views):gQ w w1 M p v0 v1 v2 v3 v4 v5 v6:=by
 have hb:∀b,v5.ownBlock=some b->w.heap.size<=b/\b<M:=fun b hb=>by have:=h.b5 b hb;omega
 have hn:∀b,b<w.heap.size+1+1->v5.ownBlock≠some b:=fun b hl h0=>by have:=h.b5 b h0;omega
 obtain⟨r1,r2⟩:=ho.row (hn _ (by omega)) h.row.1;exact⟨af.of_below (Below.trans h.ex.below (ho.below (fun b hl=>hn b (by omega)) h.ex.below.size)),Nat.le_trans h.sz ho.size,⟨r1,r2.trans h.row.2⟩,(ho.row (hn _ (by omega)) h.res).1,ho.cell (hn _ (by omega)) h.c0,ho.cell (hn _ (by omega)) h.c1,ho.cell (hn _ (by omega)) h.c2,ho.cell (hn _ (by omega)) h.c3,ho.cell (hn _ (by omega)) h.c4,ho.cell (hn _ (by omega)) h.c5,ho.cell (hn _ (by omega)) h.c6,h.b0,h.b1,h.b2,h.b3,h.b4,h.b5,h.b6,h.o0.past h.o5.ty hb (by decide) ho,h.o1.past h.o5.ty hb (by decide) ho,h.o2.past h.o5.ty hb (by decide) ho,h.o3.past h.o5.ty hb (by decide) ho,h.o4.past h.o5.ty hb (by decide) ho,hO,h.o6.past h.o5.ty hb (by decide) ho⟩
theorem Ss{B M base nb g n c k:Nat}{W:World}{l:List Rule}{d:Rule}{o1 o2 o3:Option Addr}{c1 c2 c3:Nat}(hO:bL (OD B M) aw base 52 W (.slice (some ⟨g,0,none⟩) n c) l)(hn:l.length=n)(hd:l[k]?=some d)(hM:M<=nb)(hg:g<nb)(h1:aq fC nb 9 W (.slice o1 d.zones.length c1) d.zones)(h2:aq fC nb 9 W (.slice o2 d.exc.length c2) d.exc)(h3:jg (fun b=>nb<=b) W j7 [.int .i64 d.test.op,.int .i64 d.test.num,.string d.test.str,.string d.test.key,.slice o3 d.test.args.length c3] d.test):
 bL (OD B M) aw base 52 (((W.setCell ⟨g,k*20+1,none⟩ (.slice o1 d.zones.length c1)).setCell ⟨g,k*20+2,none⟩ (.slice o2 d.exc.length c2)).setRow g (xD (rowOf ((W.setCell ⟨g,k*20+1,none⟩ (.slice o1 d.zones.length c1)).setCell ⟨g,k*20+2,none⟩ (.slice o2 d.exc.length c2)) g) (k*20+8) [.int .i64 d.test.op,.int .i64 d.test.num,.string d.test.str,.string d.test.key,.slice o3 d.test.args.length c3])) (.slice (some ⟨g,0,none⟩) n c) l/\
 On (fun b=>(Value.slice (some ⟨g,0,none⟩) n c).ownBlock≠some b) W (((W.setCell ⟨g,k*20+1,none⟩ (.slice o1 d.zones.length c1)).setCell ⟨g,k*20+2,none⟩ (.slice o2 d.exc.length c2)).setRow g (xD (rowOf ((W.setCell ⟨g,k*20+1,none⟩ (.slice o1 d.zones.length c1)).setCell ⟨g,k*20+2,none⟩ (.slice o2 d.exc.length c2)) g) (k*20+8) [.int .i64 d.test.op,.int .i64 d.test.num,.string d.test.str,.string d.test.key,.slice o3 d.test.args.length c3])):=by
 have g1:∀(W:World)(i:Nat)(u:Value),On (fun b=>b≠g) W (W.setCell ⟨g,i,none⟩ u):=fun W i u=>On.grown (bW _ _ _ _) fun b hb h0=>h0 (by cases hb;rfl)
 have p1:=BP (off:=1) hO hn hd (by decide) xY h1 rfl hM hg (fun w2 cs h hs=>by
  obtain⟨rh,ri,wQ,wR,ud,ue,rfl,z0,z1,z2,z3,z4,z5,z6,z7,z8,z9,z10,z11,z12,z13,z14⟩:=h;exact⟨_,_,wQ,wR,ud,ue,rfl,z0,hs,z2,z3,z4,z5,z6,z7,z8,z9,z10,z11,z12,z13,z14⟩)
 have h2':=h2.atF xY ((g1 W (k*20+1) (.slice o1 d.zones.length c1)).mono fun b hb h0=>by
  obtain⟨xs,h4,_⟩:=h2;have:=cm h4 b hb;omega)
 have p2:=BP (off:=2) p1 hn hd (by decide) xY h2' rfl hM hg (fun w2 cs h hs=>by
  obtain⟨rh,ri,wQ,wR,ud,ue,rfl,z0,z1,z2,z3,z4,z5,z6,z7,z8,z9,z10,z11,z12,z13,z14⟩:=h;exact⟨rh,ri,_,_,ud,ue,rfl,z0,z1,hs,z3,z4,z5,z6,z7,z8,z9,z10,z11,z12,z13,z14⟩)
 have h3':=(h3.at ((g1 W (k*20+1) (.slice o1 d.zones.length c1)).mono fun b hb h0=>by omega)).at ((g1 (W.setCell ⟨g,k*20+1,none⟩ (.slice o1 d.zones.length c1)) (k*20+2) (.slice o2 d.exc.length c2)).mono fun b hb h0=>by omega);refine⟨IV (off:=8) p2 hn hd (by show 8+5<=20;decide) h3' hM hg (fun w2 cs h hx=> ?_),?_⟩
 ·obtain⟨rh,ri,wQ,wR,ud,ue,rfl,z0,z1,z2,z3,z4,z5,z6,z7,z8,z9,z10,z11,z12,z13,z14⟩:=h
  obtain⟨_,_,e1,hs⟩:=hx.opened;cases e1;exact⟨rh,ri,wQ,wR,_,_,rfl,z0,z1,z2,z3,z4,z5,z6,hs,z8,z9,z10,z11,z12,z13,z14⟩
 ·exact((g1 _ _ _).mono fun b hb h0=>hb (by rw[h0];rfl)).trans (((g1 _ _ _).mono fun b hb h0=>hb (by rw[h0];rfl)).trans (On.Ah fun h0=>h0 rfl))
theorem SK{l:List UInt8}(h:nw l=true):0<l.length:=by
 cases l with
 |nil=>cases h
 |cons a l=>simp
theorem uf(l:List UInt8):(⟨l.toArray⟩:ByteArray).size=l.length:=rfl
theorem WL{l:List UInt8}{n:Int}(h:KO l=some n):0<=n/\n<=12/\0<l.length:=by
 unfold KO at h;repeat (split at h;(rename_i e;subst e;cases h;exact⟨by decide,by decide,by decide⟩))
 cases h
theorem SL{l x:List UInt8}(h:Ek l=some x):0<x.length/\x.length<=l.length:=by
 unfold Ek at h;split at h
 ·rename_i e
  obtain⟨r,rfl⟩:=take_one e;cases h;simp
 ·split at h
  ·rename_i e
   obtain⟨r,rfl⟩:=take_one e;cases h;simp
  ·split at h
   ·rename_i e
    obtain⟨r,rfl⟩:=I9 e;cases h;simp
   ·cases h
structure afB(n:Nat)(t:Tok):Prop where
 kind:0<=t.kind/\t.kind<=3
 num:0<=t.n/\t.n<=12
 pos:0<t.text.size
 le:t.text.size<=n
theorem WN{l:List UInt8}{t:Tok}(h:SJ l=some t):afB l.length t:=by
 unfold SJ at h;split at h
 ·split at h
  ·rename_i h2
   cases h;exact⟨by simp,by simp,by rw[uf];exact SK h2,by rw[uf];simp;omega⟩
  ·cases h
 ·split at h
  ·obtain⟨n,hn,rfl⟩:=Option.map_eq_some_iff.1 h
   have:=WL hn;exact⟨by simp,⟨this.1,this.2.1⟩,by rw[uf];exact this.2.2,by rw[uf];simp;omega⟩
  ·obtain⟨n,hn,rfl⟩:=Option.map_eq_some_iff.1 h
   have:=SL hn;exact⟨by simp,by simp,by rw[uf];exact this.1,by rw[uf];exact this.2⟩
theorem SM{D:Nat->Prop}{w:World}{cs:zv}{d:Tok}(h:(vR).R w cs d):jg D w vR cs d:=fun _ _=>h
theorem SQ(s:ByteArray)(ts:List Tok)(w:World)(h8:s.size<=8000)(hsg:qA w)(hl:KP (s.size+1) s.data.toList 0=some ts):
 Calls prog 37 #[.string s] w fun e w'=> ∃ao c,e=.returned (.tuple #[.slice ao ts.length c,.int .i64 0,.int .i64 0])/\af w w'/\Sl vR w' ao ts.length c ts:=by
 obtain⟨i0,hi,hz0,hz1,hz2⟩:=info_parts Ql;have za:=aa hsg;have HL:=aa hl;have b1:decide ((8000:Int)<(s.size:Int))=false:=by simp;omega
 clear hl hsg;go_enter func37,ntmps37;go_wp2;go_loopw [5,6] (fun o i wr=> ∃(k:Nat)(us rest:List Tok)(f:Nat)(oo:Option Addr)(oc:Nat),k<=s.size/\us.length<=k/\i=.int .i64 k/\o=.slice oo us.length oc/\af w wr/\bL (fun _=>True) vR w.heap.size 121 wr (.slice oo us.length oc) us/\ts=us++rest/\KP f (s.data.toList.drop k) k=some rest) (fun _ i _=>s.size - (intOf i).toNat)
 case atStart=>exact⟨0,[],ts,s.size+1,none,0,by omega,by simp,rfl,rfl,af.refl _,bL.nil _ _ _ _ _,rfl,by rw[List.drop_zero];exact HL.zo⟩
 case round=>
  obtain⟨k,us,rest,f,oo,oc,hk,hut,rfl,rfl,⟨x,rfl⟩,hown,hts,hrel⟩:=hrel;cases f with
  |zero=>cases hrel
  |succ f=>
  have HO:=aa hown;have Ys:=aa hts;have HE1:=aa (adB s k);obtain⟨b,hb⟩:∃b,fV kj (s.data.toList.drop k)=b:=⟨_,rfl⟩;have ahS:b<=s.size - k:=by
   have:=Bj kj (s.data.toList.drop k);rw[hb,List.length_drop,oD]at this;exact this
  obtain⟨j,hj⟩:∃j,k+b=j:=⟨_,rfl⟩;have hsum:(k:Int)+(b:Int)=(j:Int):=by omega
  unfold KP at hrel;rw[hb,List.drop_drop,hj]at hrel;have HB:=aa hb;have hjs:j<=s.size:=by omega
  clear hown hb hj hts;obtain⟨u,hu⟩:∃u,us.length=u:=⟨_,rfl⟩;rw[hu]at HO hut ⊢;have HU:=aa hu;clear hu;split at hrel
  ·rename_i hnil
   have hend:j=s.size:=by
    have:=congrArg List.length hnil;rw[List.length_drop,oD,List.length_nil]at this;omega
   cases hrel;subst hend;clear hnil;go_wp2_with (first|((with_reducible refine ag (wF _ _ ?_) ?_);(simp;omega);rintro e w' ⟨rfl,rfl⟩;rw[HE1.zo,HB.zo])|(at_builtin;refine fA rfl (.tmp 22) (.tmp 25) 107 rfl i0 _ 40 underlying107 hi hz0 hz1 hz2 rfl (by decide) (L:=vR) (d:=⟨3,⟨#[]⟩,0,(s.size:Int)⟩) (cs:= [.int .i64 3,.string ⟨#[]⟩,.int .i64 0,.int .i64 s.size]) rfl HU.zo (HO.zo.exts ae) _ 1 rfl (SM ⟨rfl,by constructor<;>simp,by simp[gS,ByteArray.size],by constructor<;>simp,by constructor<;>simp<;>omega⟩) (wx (by simp[go_sem]) (by simp[go_sem]) (by simp[go_sem]) (by simp[go_sem])) (by omega) (by decide) (by simp<;>omega) ?_;intro g c' w1 hown hgrow;(have HN:=aa hown);(have HG:=aa hgrow);clear hown hgrow))
   go_ret3
   have h1:ts.length=u+1:=by rw[Ys.zo,dG,HU.zo];rfl
   rw[h1,Ys.zo];exact⟨_,_,rfl,aF (W:=w) ae HG.zo (fun b hb=>(HO.zo.lt hb).1),HN.zo.sl (by simp[HU.zo])⟩
  ·split at hrel
   ·cases hrel
   ·rename_i t ht
    obtain⟨r,hr,rfl⟩:=Option.map_eq_some_iff.1 hrel;rw[List.drop_drop]at hr;have hbd:=WN ht;obtain⟨k1,k2⟩:=hbd.kind;obtain⟨n1,n2⟩:=hbd.num;obtain⟨m,hm⟩:∃m,t.text.size=m:=⟨_,rfl⟩;have hm0:=hbd.pos;have hmj:=hbd.le;rw[List.length_drop,oD]at hmj;rw[hm]at hm0 hmj hr;have HT:=aa ht;have HM:=aa hm;have HR:=aa hr;have HEJ:=aa (adB s j);have q1:((j:Int)==(s.size:Int))=false:=by simp;omega
    have q2:(j==s.size)=false:=by simp;omega
    clear hbd hm ht hr hrel;go_wp2_with (first|((with_reducible refine ag (wF _ _ ?_) ?_);(simp;omega);rintro e w' ⟨rfl,rfl⟩;rw[HE1.zo,HB.zo])|((with_reducible refine ag (WJ _ _ t _ HEJ.zo ?_ ?_ ?_ HT.zo) ?_);(simp;omega);(simp;omega);exact za.zo.exts ae;rintro e w' ⟨rfl,x2,rfl⟩)|(at_builtin;refine fA rfl (.tmp 40) (.tmp 42) 107 rfl i0 _ 40 underlying107 hi hz0 hz1 hz2 rfl (by decide) (L:=vR) (d:={t with pos:=(j:Int)}) (cs:= [.int .i64 t.kind,.string t.text,.int .i64 t.n,.int .i64 j]) rfl HU.zo (HO.zo.exts ae) _ 1 rfl (SM ⟨rfl,by constructor<;>simp<;>omega,by unfold gS;show t.text.size<=_;rw[HM.zo];omega,by constructor<;>simp<;>omega,by constructor<;>simp<;>omega⟩) (wx (by simp[go_sem]) (by simp[go_sem]) (by simp[go_sem]) (by simp[go_sem])) (by omega) (by decide) (by simp<;>omega) ?_;intro g c' w1 hown hgrow;(have HN:=aa hown);(have HG:=aa hgrow);clear hown hgrow;(have c7:w1.cell? ⟨w.heap.size+x.bs.size+x2.bs.size,1,none⟩=some (.string t.text):=World.grownBy.cell HG.zo (by simp[go_sem]) (fun h=>by have:=(HO.zo.lt h.symm).2;simp at this;omega))))
    rw[show t.text.size=m from HM.zo,show wrap64 ((j:Int)+(m:Int))=((j+m:Nat):Int)by unfold wrap64;omega];go_roundw
    case rel=>exact⟨j+m,us++ [{t with pos:=(j:Int)}],r,f,_,_,by omega,by simp;rw[HU.zo];omega,rfl,by rw[dG,HU.zo];rfl,aF (W:=w) ae HG.zo (fun b hb=>(HO.zo.lt hb).1),by rw[dG,HU.zo];exact HN.zo,by rw[Ys.zo];simp,HR.zo⟩
    case measure=>simp[intOf];omega
section
structure PS(w:World)(pb:Nat)(tv:Value)(k:Nat)(rest:zv)(ts:List Tok):Prop where
 blk:w.heap[pb]?=some (.cells (tv:: .int .i64 k::rest).toArray 116 (0,0))
 toks:∃to c,tv=.slice to ts.length c/\∀w2,On (fun b=>b<pb) w w2->Sl vR w2 to ts.length c ts
 gl:∀w2,On (fun b=>b<pb) w w2->Gl w2
 few:ts.length<=1000
section
variable {w w':World}{pb k:Nat}{tv:Value}{rest rest':zv}{ts:List Tok}{t:Tok}
theorem PS.lt(h:PS w pb tv k rest ts):pb<w.heap.size:=(Array.getElem?_eq_some_iff.1 h.blk).1
theorem PS.at(h:PS w pb tv k rest ts)(ho:On (fun b=>b<pb) w w'){k':Nat}(hb:w'.heap[pb]?=some (.cells (tv:: .int .i64 k'::rest').toArray 116 (0,0))):PS w' pb tv k' rest' ts:=by
 obtain⟨to,c,h1,h2⟩:=h.toks;exact⟨hb,⟨to,c,h1,fun w2 h3=>h2 w2 (ho.trans h3)⟩,fun w2 h3=>h.gl w2 (ho.trans h3),h.few⟩
theorem PS.exts(h:PS w pb tv k rest ts)(he:af w w'):PS w' pb tv k rest ts:=h.at (On.exts he) ((he.below.block pb h.lt).trans h.blk)
theorem PS.keep(h:PS w pb tv k rest ts)(ho:On (fun b=>b<=pb) w w'):PS w' pb tv k rest ts:=h.at (ho.mono fun b hb=>Nat.le_of_lt hb) ((ho.block pb (Nat.le_refl _) h.lt).trans h.blk)
theorem PS.cell(h:PS w pb tv k rest ts){i:Nat}{u:Value}(hu:(tv:: .int .i64 k::rest)[i]?=some u):w.cell? ⟨pb,i,none⟩=some u:=by
 rw[cell_of_row _ _ _ _ _ _ h.blk];simpa using hu
theorem PS.fz(h:PS w pb tv k rest ts)(i:Nat):w.frozen? ⟨pb,i,none⟩=false:=frozen_of_row w pb i _ 116 h.blk
theorem On.set(w:World)(b i:Nat)(v:Value):On (fun x=>x≠b) w (w.setCell ⟨b,i,none⟩ v):=⟨rfl,rfl,rfl,by simp[World.setCell],fun x hx _=>by
 unfold World.setCell;simp only[Array.getElem?_modify];rw[if_neg (fun e=>hx e.symm)]⟩
theorem PS.set(h:PS w pb tv k rest ts)(i:Nat)(v:Value):PS (w.setCell ⟨pb,i+2,none⟩ v) pb tv k (rest.set i v) ts:=h.at ((On.set w pb _ v).mono fun b hb=>Nat.ne_of_lt hb) (by
 unfold World.setCell;simp only[Array.getElem?_modify];rw[if_pos trivial,h.blk];simp[Array.set!])
theorem PS.to(h:PS w pb tv k rest ts)(j:Nat):PS (w.setCell ⟨pb,1,none⟩ (.int .i64 j)) pb tv j rest ts:=h.at ((On.set w pb 1 _).mono fun b hb=>Nat.ne_of_lt hb) (by
 unfold World.setCell;simp only[Array.getElem?_modify];rw[if_pos trivial,h.blk];rfl)
def Ci(w:World)(pb:Nat)(tv:Value)(k:Nat)(rest:zv)(ts:List Tok)(w':World):Prop:=PS w' pb tv k rest ts/\On (fun b=>b≠pb) w w'
theorem PS.tok(h:PS w pb tv k rest ts){i:Nat}(ht:ts[i]?=some t):∃b off c,tv=.slice (some ⟨b,off,none⟩) ts.length c/\i<ts.length/\b<w.heap.size/\(vR).R w [.int .i64 t.kind,.string t.text,.int .i64 t.n,.int .i64 t.pos] t/\∀w',af w w'->(jf 121 ⟨b,off+i*4,none⟩).run prog w'=.ok (.agg #[.int .i64 t.kind,.string t.text,.int .i64 t.n,.int .i64 t.pos]) w':=by
 obtain⟨to,c,h1,h2⟩:=h.toks;obtain⟨b,off,cs,rfl,lb,hR,hld⟩:=(h2 w (On.refl _ w)).ld ht;obtain⟨rfl,q⟩:=hR;exact⟨b,off,c,h1,(bw ht).1,lb,⟨rfl,q⟩,hld⟩
theorem Jb(a b c d:Value)(w:World):(Instr.field 121 (.agg #[a,b,c,d]) 0).run prog w=.ok a w:=by kernel_rfl
theorem Jc(a b c d:Value)(w:World):(Instr.field 121 (.agg #[a,b,c,d]) 1).run prog w=.ok b w:=by kernel_rfl
theorem Jd(a b c d:Value)(w:World):(Instr.field 121 (.agg #[a,b,c,d]) 2).run prog w=.ok c w:=by kernel_rfl
attribute [local go_sem] Jb Jc Jd
theorem PS.txt(h:PS w pb tv k rest ts){i:Nat}(ht:ts[i]?=some t){b off c:Nat}(hv:tv=.slice (some ⟨b,off,none⟩) ts.length c):w.cell? ⟨b,off+i*4+1,none⟩=some (.string t.text):=by
 obtain⟨to,c',h1,h2⟩:=h.toks;obtain⟨b',off',rfl,_,_,c1,_⟩:=tC (h2 w (On.refl _ w)) ht;rw[hv]at h1;cases h1;exact c1
theorem pT{fn:Func}{p:Tmp}{ty:TypeId}(h:fn.results=#[.cell p ty])(tmps:Array Value)(P:Program)(w:World):
 (results fn tmps).run P w=(do let a <-asAddr (tmps.getD p undef);loadVar ty a:Sem Value).run P w:=by
 simp[results,h]
theorem kC(h:PS w pb tv k rest ts)(ht:ts[k]?=some t):Calls prog 127 #[.pointer (some ⟨pb,0,none⟩)] w (cX (.agg #[.int .i64 t.kind,.string t.text,.int .i64 t.n,.int .i64 t.pos]) w):=by
 obtain⟨b,off,c,rfl,hk,lb,_,hld⟩:=h.tok ht;have c0:=h.cell (i:=0) rfl;have c1:=h.cell (i:=1) rfl;have hf:=h.few;have lp:=h.lt;have l1:=hld (w.alloc (.cells #[.int .i64 0,.string ⟨#[]⟩,.int .i64 0,.int .i64 0] 121)).drew ae;clear h ht;go_enter func127,ntmps127;go_wp2;go_region
 (try go_frame)
 go_wp2;refine bodyPost_ret (v:=.agg #[.int .i64 t.kind,.string t.text,.int .i64 t.n,.int .i64 t.pos]) (by rw[pT rfl];simp[go_sem]) rfl ⟨rfl,ae⟩
def yh(t:Tok)(s:ByteArray):Bool:= !(t.kind==3)&&(t.text.data.toList==s.data.toList)
theorem SR(h:PS w pb tv k rest ts)(ht:ts[k]?=some t)(s:ByteArray):Calls prog 131 #[.pointer (some ⟨pb,0,none⟩),.string s] w (cX (.bool (yh t s)) w):=by
 have H:=aa h;have HT:=aa ht;clear h ht;by_cases p0:t.kind=3
 ·have HE:=aa (show yh t s=false by unfold yh;rw[beq_iff_eq.2 p0];rfl)
  rw[HE.zo];go_enter func131,ntmps131;go_wp2_with ((with_reducible refine ag (kC (tv:=tv) (rest:=rest) ?_ HT.zo) ?_);exact H.zo.exts ae;rintro e w' ⟨rfl,x9,rfl⟩)
  go_ret;exact⟨rfl,ae⟩
 ·have q0:(t.kind==3)=false:=by simpa using p0
  cases q1:(t.text.toList==s.toList)with
  |true=>
   have HE:=aa (show yh t s=true by unfold yh;rw[q0,<-Lib.toList_data,<-Lib.toList_data,q1];rfl);rw[HE.zo];go_enter func131,ntmps131;go_wp2_with ((with_reducible refine ag (kC (tv:=tv) (rest:=rest) ?_ HT.zo) ?_);exact H.zo.exts ae;rintro e w' ⟨rfl,x9,rfl⟩)
   go_ret;exact⟨by simp[p0],ae⟩
  |false=>
   have HE:=aa (show yh t s=false by unfold yh;rw[q0,<-Lib.toList_data,<-Lib.toList_data,q1];rfl);rw[HE.zo];go_enter func131,ntmps131;go_wp2_with ((with_reducible refine ag (kC (tv:=tv) (rest:=rest) ?_ HT.zo) ?_);exact H.zo.exts ae;rintro e w' ⟨rfl,x9,rfl⟩)
   go_ret;exact⟨rfl,ae⟩
theorem xg{b:Bool}(h:PS w pb tv k rest ts)(ht:ts[k]?=some t)(s:ByteArray)(hb:yh t s=b):Calls prog 131 #[.pointer (some ⟨pb,0,none⟩),.string s] w (cX (.bool b) w):=by
 rw[<-hb];exact SR h ht s
theorem sW(h:PS w pb tv k rest ts)(ht:ts[k]?=some t):Calls prog 218 #[.pointer (some ⟨pb,0,none⟩)] w (cX (.bool (t.kind==1)) w):=by
 have H:=aa h;have HT:=aa ht;clear h ht;go_enter func218,ntmps218;go_wp2_with ((with_reducible refine ag (kC (tv:=tv) (rest:=rest) ?_ HT.zo) ?_);exact H.zo.exts ae;rintro e w' ⟨rfl,x9,rfl⟩)
 go_ret;exact⟨rfl,ae⟩
def kD(t:Tok):Bool:=(t.kind==0)&&nameB t.text
theorem El(h:PS w pb tv k rest ts)(ht:ts[k]?=some t):Calls prog 215 #[.pointer (some ⟨pb,0,none⟩)] w (cX (.bool (kD t)) w):=by
 have H:=aa h;have HT:=aa ht;have HG:=aa (h.gl w (On.refl _ w));obtain⟨_,_,_,_,_,_,hR,_⟩:=h.tok ht;have HS:=aa hR.2.2.1;clear h ht hR;cases q0:(t.kind==0)with
 |true=>
  have HE:=aa (show kD t=nameB t.text by unfold kD;rw[q0];rfl);rw[HE.zo];go_enter func215,ntmps215;go_wp2_with (first|((with_reducible refine ag (kC (tv:=tv) (rest:=rest) ?_ HT.zo) ?_);exact H.zo.exts ae;rintro e w' ⟨rfl,x9,rfl⟩)|((with_reducible refine ag (gF t.text _ ?_ HS.zo) ?_);exact HG.zo.exts ae;rintro e w' ⟨rfl,x8,rfl⟩))
  go_ret;exact⟨rfl,ae⟩
 |false=>
  have HE:=aa (show kD t=false by unfold kD;rw[q0];rfl);rw[HE.zo];go_enter func215,ntmps215;go_wp2_with ((with_reducible refine ag (kC (tv:=tv) (rest:=rest) ?_ HT.zo) ?_);exact H.zo.exts ae;rintro e w' ⟨rfl,x9,rfl⟩)
  go_ret;exact⟨rfl,ae⟩
theorem oT(p:Value)(c:Int)(w:World):Calls prog 139 #[p,.bool true,.int .i64 c] w fun e w'=>e=.returned (.tuple #[])/\w=w':=by
 go_enter func139,ntmps139;go_wp2;go_end0
 exact⟨rfl,rfl⟩
theorem OG(p:Value)(c:Int)(w:World):Calls prog 139 #[p,.bool true,.int .i64 c] w fun e w'=>e=.returned (.tuple #[])/\af w w':=(oT p c w).mono fun e w' h=>⟨h.1,by rw[h.2];exact af.refl _⟩
theorem mM(h:PS w pb tv k rest ts)(ht:ts[k]?=some t)(s:ByteArray)(hb:yh t s=false):Calls prog 219 #[.pointer (some ⟨pb,0,none⟩),.string s] w (cX (.bool false) w):=by
 have H:=aa h;have HT:=aa ht;have HB:=aa hb;have hf:=h.few;have hk:=(bw ht).1;have lp:=h.lt;clear h ht hb;go_enter func219,ntmps219;go_wp2_with ((with_reducible refine ag (SR (tv:=tv) (rest:=rest) ?_ HT.zo s) ?_);exact H.zo.exts ae;rintro e w' ⟨rfl,x9,rfl⟩;rw[HB.zo])
 go_ret;exact⟨rfl,ae⟩
theorem Cj(h:PS w pb tv k rest ts)(ht:ts[k]?=some t)(s:ByteArray)(hb:yh t s=true):Calls prog 219 #[.pointer (some ⟨pb,0,none⟩),.string s] w fun e w'=>e=.returned (.bool true)/\Ci w pb tv (k+1) rest ts w':=by
 have H:=aa h;have HT:=aa ht;have HB:=aa hb;have hf:=h.few;have hk:=(bw ht).1;have lp:=h.lt;clear h ht hb;go_enter func219,ntmps219;go_wp2_with ((with_reducible refine ag (SR (tv:=tv) (rest:=rest) ?_ HT.zo s) ?_);exact H.zo.exts ae;rintro e w' ⟨rfl,SS⟩;rw[HB.zo];(have H2:=aa (H.zo.exts SS));(have HX:=aa SS);(have c1:=H2.zo.cell (i:=1) rfl);(have f1:=H2.zo.fz 1);clear SS)
 go_ret;exact⟨rfl,H2.zo.to (k+1),(On.exts HX.zo).trans (On.set _ _ _ _)⟩
theorem Mp(h:PS w pb tv k rest ts)(ht:ts[k]?=some t)(s:ByteArray)(hb:yh t s=true):Calls prog 141 #[.pointer (some ⟨pb,0,none⟩),.string s] w fun e w'=>e=.returned (.tuple #[])/\Ci w pb tv (k+1) rest ts w':=by
 have H:=aa h;have HT:=aa ht;have HB:=aa hb;clear h ht hb;go_enter func141,ntmps141;go_wp2_with (first|((with_reducible refine ag (Cj (tv:=tv) (rest:=rest) ?_ HT.zo s HB.zo) ?_);exact H.zo.exts ae;rintro e w' ⟨rfl,hE⟩;(have HE:=aa hE);clear hE)|((with_reducible refine ag (oT _ _ _) ?_);rintro e w' ⟨rfl,rfl⟩))
 go_end0
 exact⟨rfl,HE.zo⟩
theorem Mq(h:PS w pb tv k rest ts)(ht:ts[k]?=some t)(hb:kD t=true):Calls prog 293 #[.pointer (some ⟨pb,0,none⟩)] w fun e w'=>e=.returned (.string t.text)/\Ci w pb tv (k+1) rest ts w':=by
 have H:=aa h;have HT:=aa ht;have HB:=aa hb;have hf:=h.few;obtain⟨b,off,c,htv,hk,lb,_,_⟩:=h.tok ht;have lp:=h.lt;have HTV:=aa htv;clear h ht hb htv;go_enter func293,ntmps293;go_wp2_with (first|((with_reducible refine ag (El (tv:=tv) (rest:=rest) ?_ HT.zo) ?_);exact H.zo.exts ae;rintro e w' ⟨rfl,SS⟩;rw[HB.zo];(have H2:=aa (H.zo.exts SS));(have HX:=aa SS);(have c1:=H2.zo.cell (i:=1) rfl);(have f1:=H2.zo.fz 1);clear SS)|((with_reducible refine ag (oT _ _ _) ?_);rintro e w' ⟨rfl,rfl⟩))
 refine bI ?_;intro W hW;have H3:Hid (PS W pb tv (k+1) rest ts):=aa (by rw[hW];exact H2.zo.to (k+1));have HO:Hid (On (fun b=>b≠pb) w W):=aa (by rw[hW];exact(On.exts HX.zo).trans (On.set _ _ _ _));have ct:=H3.zo.txt HT.zo HTV.zo;have d0:=H3.zo.cell (i:=0) rfl;have d1:=H3.zo.cell (i:=1) rfl;rw[HTV.zo]at d0;clear c1 f1 hW;go_region
 (try go_frame)
 go_wp2;go_ret;exact⟨rfl,H3.zo.exts ae,HO.zo.trans (On.exts ae)⟩
theorem Em(h:PS w pb tv k rest ts)(ht:ts[k]?=some t)(lo hi:Int)(hb:t.kind=1)(h1:lo<=t.n)(h2:t.n<=hi):Calls prog 137 #[.pointer (some ⟨pb,0,none⟩),.int .i64 lo,.int .i64 hi] w fun e w'=>e=.returned (.int .i64 t.n)/\Ci w pb tv (k+1) rest ts w':=by
 have H:=aa h;have HT:=aa ht;have HB:=aa (show(t.kind==1)=true by rw[hb];rfl);have hf:=h.few;have hk:=(bw ht).1;have lp:=h.lt;have b1:=zdt h1;have b2:=zdt h2;clear h ht hb;go_enter func137,ntmps137;go_wp2_with (first|((with_reducible refine ag (sW (tv:=tv) (rest:=rest) ?_ HT.zo) ?_);exact H.zo.exts ae;rintro e w' ⟨rfl,⟨x1,rfl⟩⟩;rw[HB.zo])|((with_reducible refine ag (kC (tv:=tv) (rest:=rest) ?_ HT.zo) ?_);exact H.zo.exts ae;rintro e w' ⟨rfl,SS⟩;(have H2:=aa (H.zo.exts (af.trans ae SS)));(have HX:=aa (af.trans (show af w (av w x1)from ae) SS));(have c1:=H2.zo.cell (i:=1) rfl);(have f1:=H2.zo.fz 1);clear SS)|((with_reducible refine ag (oT _ _ _) ?_);rintro e w' ⟨rfl,rfl⟩))
 go_ret;exact⟨rfl,H2.zo.to (k+1),(On.exts HX.zo).trans (On.set _ _ _ _)⟩
theorem FO(h:PS w pb tv k rest ts)(ht:ts[k]?=some t)(n m:Int)(hn:n<m):Calls prog 128 #[.pointer (some ⟨pb,0,none⟩),.int .i64 n,.int .i64 m] w fun e w'=>e=.returned (.tuple #[])/\Ci w pb tv (k+1) rest ts w':=by
 have H:=aa h;have hf:=h.few;have hk:=(bw ht).1;have b1:=zdt hn;have c1:=h.cell (i:=1) rfl;have f1:=h.fz 1;clear h ht;go_enter func128,ntmps128;go_wp2_with ((with_reducible refine ag (oT _ _ _) ?_);rintro e w' ⟨rfl,rfl⟩)
 go_end0
 exact⟨rfl,H.zo.to (k+1),On.set _ _ _ _⟩
theorem SU(h:PS w pb tv k rest ts)(ht:ts[k]?=some t)(c:Int)(hb:yh t ⟨#[59]⟩=true):Calls prog 134 #[.pointer (some ⟨pb,0,none⟩),.bool true,.int .i64 c] w fun e w'=>e=.returned (.tuple #[])/\Ci w pb tv (k+1) rest ts w':=by
 have H:=aa h;have HT:=aa ht;have HB:=aa hb;have hf:=h.few;have hk:=(bw ht).1;clear h ht hb;go_enter func134,ntmps134;have lp:=H.zo.lt;go_wp2;first|refine eK ?_|refine eJ ?_
 repeat (go_big_quiet_step (((first|(go_at_call 131;exact Calls.dJ (xg (tv:=tv) (rest:=rest) (H.zo.exts ae) HT.zo _ HB.zo))|(go_at_call 139;exact Calls.dJ (OG _ _ _))))))
 refine eM fun xq=> ?_
 have c1:=H.zo.cell (i:=1) rfl;have f1:=H.zo.fz 1;go_wp2_with ((with_reducible refine ag (oT _ _ _) ?_);rintro e w' ⟨rfl,rfl⟩)
 go_end0
 exact⟨rfl,(H.zo.to (k+1)).exts ae,(On.set w pb 1 _).trans (On.exts ae)⟩
theorem On.new{D:Nat->Prop}{w W w':World}(h:On D w W)(h2:On (fun b=>D b/\b≠w.heap.size) W w'):On D w w':=⟨h2.os.trans h.os,h2.tape.trans h.tape,h2.output.trans h.output,Nat.le_trans h.size h2.size,fun b hb hl=>(h2.block b ⟨hb,Nat.ne_of_lt hl⟩ (Nat.lt_of_lt_of_le hl h.size)).trans (h.block b hb hl)⟩
theorem On.grow{b:Nat}{w w':World}(h:On (fun x=>x≠b) w w'):w.grownBy w' (some b):=⟨h.os,h.tape,h.output,h.size,fun i hl hne=>h.block i (fun e=>hne (by rw[e])) hl⟩
theorem Je(h:PS w pb tv k rest ts)(ht:ts[k]?=some t)(hb:kD t=true){mb n:Nat}{f:Lit->Bool}(hm:iT w 9 mb n f)(hp:pb<mb)(hn:n<1000)(hf:f (.string t.text.data.toList)=false):Calls prog 216 #[.pointer (some ⟨pb,0,none⟩),.map (some mb)] w fun e w'=>e=.returned (.string t.text)/\PS w' pb tv (k+1) rest ts/\On (fun b=>b≠pb/\b≠mb) w w'/\iT w' 9 mb (n+1) (xC f (.string t.text.data.toList) true):=by
 have H:=aa h;have HT:=aa ht;have HB:=aa hb;have HM:=aa hm;obtain⟨_,_,_,_,_,_,hR,_⟩:=h.tok ht;have HS:=aa (show t.text.size<=maxLen from hR.2.2.1);have hl:∀w',af w w'->(Instr.lookup 113 (.map (some mb)) (.string t.text) false).run prog w'=.ok (.bool false) w':=fun w' he=>by
  have h1:=(HM.zo.exts he).look mF underlying113 (WideMaps.keyOf_string_mk underlying9 HS.zo);rw[hf]at h1;exact h1
 clear h ht hb hm hR;go_enter func216,ntmps216;go_wp2_with (first|((with_reducible refine ag (El (tv:=tv) (rest:=rest) ?_ HT.zo) ?_);exact H.zo.exts ae;rintro e w' ⟨rfl,⟨x1,rfl⟩⟩;rw[HB.zo])|((with_reducible refine ag (kC (tv:=tv) (rest:=rest) ?_ HT.zo) ?_);exact H.zo.exts ae;rintro e w' ⟨rfl,⟨x2,rfl⟩⟩)|((with_reducible refine ag (oT _ _ _) ?_);rintro e w' ⟨rfl,rfl⟩)|(at_mapUpdate;refine lq rfl _ _ _ 113 9 rfl mF underlying113 mb n _ rfl (HM.zo.exts ae) (by unfold maxLen;omega) _ _ _ rfl rfl (WideMaps.keyOf_string_mk underlying9 HS.zo) trivial ?_;intro w9 hmap' hgrow;(have LQ:=aa hmap');(have HG:=aa ((On.exts (show af w (av w _)from ae)).trans (On.grown (D:=fun b=>b≠mb) hgrow (by intro b hb h;cases hb;exact h rfl))));(have H2:=aa (H.zo.keep (HG.zo.mono fun b hb=>by omega)));clear hmap' hgrow hl)|((with_reducible refine ag (Mq (tv:=tv) (rest:=rest) ?_ HT.zo HB.zo) ?_);exact H2.zo;rintro e w' ⟨rfl,h3,ho3⟩;(have H3:=aa h3);(have my:=aa ho3);clear h3 ho3))
 go_ret;exact⟨rfl,H3.zo,(HG.zo.mono fun b hb=>hb.2).trans (my.zo.mono fun b hb=>hb.1),LQ.zo.kept (On.grow my.zo) (by simp;omega)⟩
theorem FP(h:PS w pb tv k rest ts)(ht:ts[k]?=some t)(hb:kD t=true)(h3:rest[11]?=some (.map none)):Calls prog 132 #[.pointer (some ⟨pb,0,none⟩),.int .i64 3] w fun e w'=>e=.returned (.string t.text)/\PS w' pb tv (k+1) (rest.set 11 (.map (some w.heap.size))) ts/\On (fun b=>b≠pb) w w'/\iT w' 9 w.heap.size 1 (xC (fun _=>false) (.string t.text.data.toList) true):=by
 have H:=aa h;have HT:=aa ht;have HB:=aa hb;have lp:=h.lt;have c3:=h.cell (i:=13) (show _=some (.map none)from h3);have f3:=h.fz 13;have hmk:∀w,(Instr.makeMap 113 none).run prog w=.ok (.map (some w.heap.size)) (w.alloc (.map #[] 0)):=fun _=>by kernel_rfl
 have e0:∀w,(binOp .eql 113 (.map none) (.map none)).run prog w=.ok (.bool true) w:=fun _=>by kernel_rfl
 have HL:=aa (bw h3).1;clear h ht hb h3;go_enter func132,ntmps132;go_wp2;refine bI ?_;intro W hW;have H2:Hid (PS W pb tv k (rest.set 11 (.map (some w.heap.size))) ts):=aa (by rw[hW];exact(H.zo.set 11 _).exts ae);have HM2:Hid (iT W 9 w.heap.size 0 fun _=>false):=aa (by
  have h:=iT.made (w.setCell ⟨pb,13,none⟩ (.map (some w.heap.size))) 9;rw[show(w.setCell ⟨pb,13,none⟩ (.map (some w.heap.size))).heap.size=w.heap.size by simp[World.setCell]]at h;rw[hW];exact h)
 have HO:Hid (On (fun b=>b≠pb) w W):=aa (by rw[hW];exact(On.set w pb 13 _).trans (On.exts ae));have c4:W.cell? ⟨pb,13,none⟩=some (.map (some w.heap.size)):=H2.zo.cell (i:=13) (by show(rest.set 11 _)[11]?=_;rw[List.getElem?_set_self HL.zo]);clear hW c3 f3;refine b9 (S:=fun w'=> ∃x,w'=av W x) [0,1,2,3,4,5,6,7] [] [] [8,9,10] (by kernel_rfl) (by kernel_rfl) ⟨_,by first|exact dx _|exact ai _ _⟩ ?_;try simp only[bX,pick,eh]
 try change wpQuiet _ _ _ _ (_::_) _
 repeat (go_big_quiet_step (fail))
 refine wpQuiet_nil ?_;try change wpQuiet _ _ _ _ (_::_) _
 repeat (go_big_quiet_step (fail))
 refine wpQuiet_nil ?_;try change wpList _ _ _ (_::_) _ _
 go_wp2_with ((with_reducible refine ag (Je (tv:=tv) (rest:=rest.set 11 (.map (some w.heap.size))) ?_ HT.zo HB.zo (n:=0) (f:=fun _=>false) ?_ lp (by omega) rfl) ?_);exact H2.zo.exts ae;exact HM2.zo.exts ae;rintro e w' ⟨rfl,h3,ho3,UC⟩;(have H3:=aa h3);(have my:=aa ho3);(have HM3:=aa UC);clear h3 ho3 UC)
 refine cV ?_;go_wp2;go_ret;exact⟨rfl,H3.zo,HO.zo.new ((On.exts ae).trans my.zo),HM3.zo⟩
theorem Jf(h:PS w pb tv k rest ts)(ht:ts[k]?=some t)(hb:kD t=true){mb n:Nat}{f:Lit->Bool}(h3:rest[11]?=some (.map (some mb)))(hm:iT w 9 mb n f)(hp:pb<mb)(hn:n<1000)(hf:f (.string t.text.data.toList)=false):Calls prog 132 #[.pointer (some ⟨pb,0,none⟩),.int .i64 3] w fun e w'=>e=.returned (.string t.text)/\PS w' pb tv (k+1) rest ts/\On (fun b=>b≠pb/\b≠mb) w w'/\iT w' 9 mb (n+1) (xC f (.string t.text.data.toList) true):=by
 have H2:=aa h;have HT:=aa ht;have HB:=aa hb;have HM2:=aa hm;have lp:=h.lt;have c3:=h.cell (i:=13) (show _=some (.map (some mb))from h3);have f3:=h.fz 13;have e0:∀w,(binOp .eql 113 (.map (some mb)) (.map none)).run prog w=.ok (.bool false) w:=fun _=>by kernel_rfl
 clear h ht hb h3 hm;go_enter func132,ntmps132;go_wp2;refine b9 (S:=fun w'=> ∃x,w'=av w x) [0,1,2,3,4,5,6,7] [] [] [8,9,10] (by kernel_rfl) (by kernel_rfl) ⟨_,by first|exact dx _|exact ai _ _⟩ ?_;try simp only[bX,pick,eh]
 try change wpQuiet _ _ _ _ (_::_) _
 repeat (go_big_quiet_step (fail))
 refine wpQuiet_nil ?_;try change wpQuiet _ _ _ _ (_::_) _
 repeat (go_big_quiet_step (fail))
 refine wpQuiet_nil ?_;try change wpList _ _ _ (_::_) _ _
 go_wp2_with ((with_reducible refine ag (Je (tv:=tv) (rest:=rest) ?_ HT.zo HB.zo (n:=n) ?_ hp hn hf) ?_);exact H2.zo.exts ae;exact HM2.zo.exts ae;rintro e w' ⟨rfl,h3,ho3,UC⟩;(have H3:=aa h3);(have my:=aa ho3);(have HM3:=aa UC);clear h3 ho3 UC)
 refine cV ?_;go_wp2;go_ret;exact⟨rfl,H3.zo,(On.exts ae).trans my.zo,HM3.zo⟩
end
end
section
instance aeF:iq 379 3:=⟨⟨_,underlying379,rfl⟩,by kernel_rfl⟩
def Yt:List (List UInt8×Int×Int):= [([111,114],14,1),([97,110,100],13,2),([61,61],10,4),([60],11,4),([60,61],12,4),([43],4,5),([45],5,5),([42],6,6),([47],7,6),([37],8,6)]
def rU(w:World)(b:Nat):Prop:=b<w.heap.size/\∀(k:Nat)(x:List UInt8×Int×Int),Yt[k]?=some x->w.cell? ⟨b,k*3,none⟩=some (.string ⟨x.1.toArray⟩)/\w.cell? ⟨b,k*3+1,none⟩=some (.int .i64 x.2.1)/\w.cell? ⟨b,k*3+2,none⟩=some (.int .i64 x.2.2)
theorem rr(w:World):Calls prog 292 #[] w fun e w'=> ∃b,e=.returned (.slice (some ⟨b,0,none⟩) 10 10)/\af w w'/\w.heap.size<=b/\rU w' b:=by
 go_enter func292,ntmps292;go_wp2;go_ret;refine⟨_,rfl,ae,by simp,by simp,fun k x hx=> ?_⟩
 match k,hx with
 |0,hx=>cases hx;exact⟨by simp[go_sem],by simp[go_sem],by simp[go_sem]⟩
 |1,hx=>cases hx;exact⟨by simp[go_sem],by simp[go_sem],by simp[go_sem]⟩
 |2,hx=>cases hx;exact⟨by simp[go_sem],by simp[go_sem],by simp[go_sem]⟩
 |3,hx=>cases hx;exact⟨by simp[go_sem],by simp[go_sem],by simp[go_sem]⟩
 |4,hx=>cases hx;exact⟨by simp[go_sem],by simp[go_sem],by simp[go_sem]⟩
 |5,hx=>cases hx;exact⟨by simp[go_sem],by simp[go_sem],by simp[go_sem]⟩
 |6,hx=>cases hx;exact⟨by simp[go_sem],by simp[go_sem],by simp[go_sem]⟩
 |7,hx=>cases hx;exact⟨by simp[go_sem],by simp[go_sem],by simp[go_sem]⟩
 |8,hx=>cases hx;exact⟨by simp[go_sem],by simp[go_sem],by simp[go_sem]⟩
 |9,hx=>cases hx;exact⟨by simp[go_sem],by simp[go_sem],by simp[go_sem]⟩
def headW:List ByteArray:= [⟨#[105,102]⟩,⟨#[110,111,116]⟩,⟨#[45]⟩,⟨#[116,97,98,108,101]⟩,⟨#[122,111,110,101]⟩,⟨#[40]⟩]
def noB(t:Tok):Bool:=headW.all fun s=> !yh t s
theorem SV{t:Tok}(h:noB t=true):∀s∈headW,yh t s=false:=fun s hs=>by
 have:=List.all_eq_true.1 h s hs;simpa using this
def qB(t:Tok):zv:=if t.kind=1 then [.int .i64 0,.int .i64 t.n,.string ⟨#[]⟩,.string ⟨#[]⟩,.slice none 0 0]else [.int .i64 1,.int .i64 0,.string t.text,.string ⟨#[]⟩,.slice none 0 0]
theorem On.setRow(w:World)(b:Nat)(c:Array Value):On (fun x=>x≠b) w (w.setRow b c):=⟨rfl,rfl,rfl,by simp[World.setRow],fun x hx _=>by
 unfold World.setRow;simp only[Array.getElem?_modify];rw[if_neg (fun e=>hx e.symm)]⟩
theorem Bx.setRow{w:World}{b:Nat}{cs:zv}{t:TypeId}(h:Bx w b cs t)(ds:zv):Bx (w.setRow b ds.toArray) b ds t:=setRow_heap w b cs.toArray ds.toArray t (0,0) h
theorem Bx.Dk{w:World}{b:Nat}{cs:zv}{t:TypeId}(h:Bx w b cs t)(hl:cs.length=5):(jf 48 ⟨b,0,none⟩).run prog w=.ok (.agg cs.toArray) w:=uy hl fun j u hu=>by rw[Nat.zero_add,h.cell];exact hu
section
variable {w w':World}{pb k:Nat}{tv:Value}{rest rest':zv}{ts:List Tok}{t:Tok}
theorem Ck(h:PS w pb tv k rest ts)(ht:ts[k]?=some t)(f:Int)(hf:f=0∨f=5)(hn:noB t=true)(hb:kD t=true):Calls prog 291 #[.pointer (some ⟨pb,0,none⟩),.int .i64 f] w fun e w'=>e=.returned (.tuple #[.agg (qB t).toArray,.int .i64 8])/\Ci w pb tv (k+1) rest ts w':=by
 have H:=aa h;have HT:=aa ht;have HN:=aa (SV hn);have lp:=h.lt;have HB:=aa hb;have hk0:t.kind=0:=by
  unfold kD at hb;simp only[Bool.and_eq_true,beq_iff_eq]at hb;exact hb.1
 have HK:=aa (show(t.kind==1)=false by rw[hk0];rfl);have HC:=aa (show qB t= [.int .i64 1,.int .i64 0,.string t.text,.string ⟨#[]⟩,.slice none 0 0]by unfold qB;rw[if_neg (by omega)]);clear h ht hn hb hk0;rw[HC.zo];rcases hf with rfl|rfl<;>(
  go_enter func291,ntmps291;go_wp2_with (first|((with_reducible refine ag (mM (tv:=tv) (rest:=rest) ?_ HT.zo _ ?_) ?_);exact H.zo.exts ae;exact HN.zo _ (by simp[headW]);rintro e w' ⟨rfl,⟨y1,rfl⟩⟩)|((with_reducible refine ag (sW (tv:=tv) (rest:=rest) ?_ HT.zo) ?_);exact H.zo.exts ae;rintro e w' ⟨rfl,⟨y9,rfl⟩⟩;rw[HK.zo]))
  with_reducible refine ag (Mq (tv:=tv) (rest:=rest) ?_ HT.zo HB.zo) ?_
  ·exact H.zo.exts ae
  rintro e W ⟨rfl,h2,ho2⟩;have HO:=aa ((On.exts (show af w (av _ _)from ae)).trans ho2);have hrow:=((Bx.new w [.int .i64 0,.int .i64 0,.string ⟨#[]⟩,.string ⟨#[]⟩,.slice none 0 0] 48).exts (show af _ (av _ _)from ae)).at ho2 (show w.heap.size≠pb by omega);have ir:isRow W w.heap.size 5:=hrow.row.1;have hld:=(hrow.setRow [.int .i64 1,.int .i64 0,.string t.text,.string ⟨#[]⟩,.slice none 0 0]).Dk rfl;have H2:=aa h2;have lw:w.heap.size<W.heap.size:=by have:=ho2.size;simp at this;omega
  clear h2 ho2 hrow;go_wp2;refine bodyPost_ret (v:=.tuple #[.agg #[.int .i64 1,.int .i64 0,.string t.text,.string ⟨#[]⟩,.slice none 0 0],.int .i64 8]) (by rw[results_cell_tmp rfl];simp only[go_sem];simp only[List.toArray]at hld;simp[go_sem,hld]) rfl ⟨rfl,H2.zo.keep ((On.setRow _ _ _).mono fun b hb=>by omega),HO.zo.new ((On.setRow _ _ _).mono fun b hb=>hb.2)⟩)
theorem Dl(h:PS w pb tv k rest ts)(ht:ts[k]?=some t)(f:Int)(hf:f=0∨f=5)(hn:noB t=true)(hb:t.kind=1)(h1:0<=t.n)(h2:t.n<=1099511627776):Calls prog 291 #[.pointer (some ⟨pb,0,none⟩),.int .i64 f] w fun e w'=>e=.returned (.tuple #[.agg (qB t).toArray,.int .i64 8])/\Ci w pb tv (k+1) rest ts w':=by
 have H:=aa h;have HT:=aa ht;have HN:=aa (SV hn);have lp:=h.lt;have HB:=aa hb;have HK:=aa (show(t.kind==1)=true by rw[hb];rfl);have HC:=aa (show qB t= [.int .i64 0,.int .i64 t.n,.string ⟨#[]⟩,.string ⟨#[]⟩,.slice none 0 0]by unfold qB;rw[if_pos hb]);clear h ht hn hb;rw[HC.zo];rcases hf with rfl|rfl<;>(
  go_enter func291,ntmps291;go_wp2_with (first|((with_reducible refine ag (mM (tv:=tv) (rest:=rest) ?_ HT.zo _ ?_) ?_);exact H.zo.exts ae;exact HN.zo _ (by simp[headW]);rintro e w' ⟨rfl,⟨y1,rfl⟩⟩)|((with_reducible refine ag (sW (tv:=tv) (rest:=rest) ?_ HT.zo) ?_);exact H.zo.exts ae;rintro e w' ⟨rfl,⟨y9,rfl⟩⟩;rw[HK.zo]))
  with_reducible refine ag (Em (tv:=tv) (rest:=rest) ?_ HT.zo 0 1099511627776 HB.zo h1 h2) ?_
  ·exact H.zo.exts ae
  rintro e W ⟨rfl,h2,ho2⟩;have HO:=aa ((On.exts (show af w (av _ _)from ae)).trans ho2);have hrow:=((Bx.new w [.int .i64 0,.int .i64 0,.string ⟨#[]⟩,.string ⟨#[]⟩,.slice none 0 0] 48).exts (show af _ (av _ _)from ae)).at ho2 (show w.heap.size≠pb by omega);have ir:isRow W w.heap.size 5:=hrow.row.1;have hld:=(hrow.setRow [.int .i64 0,.int .i64 t.n,.string ⟨#[]⟩,.string ⟨#[]⟩,.slice none 0 0]).Dk rfl;have H2:=aa h2;have lw:w.heap.size<W.heap.size:=by have:=ho2.size;simp at this;omega
  clear h2 ho2 hrow;go_wp2;refine bodyPost_ret (v:=.tuple #[.agg #[.int .i64 0,.int .i64 t.n,.string ⟨#[]⟩,.string ⟨#[]⟩,.slice none 0 0],.int .i64 8]) (by rw[results_cell_tmp rfl];simp only[go_sem];simp only[List.toArray]at hld;simp[go_sem,hld]) rfl ⟨rfl,H2.zo.keep ((On.setRow _ _ _).mono fun b hb=>by omega),HO.zo.new ((On.setRow _ _ _).mono fun b hb=>hb.2)⟩)
end
end
section
open Go.RowKit Go.Maps Go.Shelf
attribute [local go_sem] Oper.semAt_some
def KZ(w:World)(b:Nat)(e:Xp):Prop:=b<w.heap.size/\∃cs,iP w cs e/\∀j u,cs[j]?=some u->w.cell? ⟨b,j,none⟩=some u
theorem iP.sY{w w':World}{c:zv}{d:Xp}(h:iP w c d)(hk:cE w w'):iP w' c d:=by
 induction h with
 |mk op num str key args ao c xs h1 h2 h3 h4 hr h ih=>
  refine .mk op num str key args ao c xs h1 h2 h3 h4 ?_ ih;obtain⟨q1,ao,cap,hv,q2,q3,q4,q5⟩:=hr;refine⟨q1,ao,cap,hv,q2,q3,q4,fun hn=> ?_⟩;obtain⟨b,off,r1,r2,r3,r4⟩:=q5 hn;exact⟨b,off,r1,r2,Nat.lt_of_lt_of_le r3 hk.size,fun t u hu=>hk.cell (r4 t u hu)⟩
theorem KZ.sY{w w':World}{b:Nat}{e:Xp}(h:KZ w b e)(hk:cE w w'):KZ w' b e:=by
 obtain⟨hb,cs,h1,h2⟩:=h;exact⟨Nat.lt_of_lt_of_le hb hk.size,cs,h1.sY hk,fun j u hu=>hk.cell (h2 j u hu)⟩
theorem yl:∀args w,(callFunc 366 args).run prog w=.ok (.enter 366 args) w:=fun a w=>by rfl
theorem Cq(F:Fence)(n:Nat)(hF:F.fn 352)(hro:F.round=none)(e:Xp)(cs:zv)(w:World)(h:iP w cs e):CallsIn F n prog 352 #[.agg cs.toArray] w fun r w'=>r=.returned (.func (.func 366) #[] #[.pointer (some ⟨w.heap.size,0,none⟩)])/\w'=w.alloc (.cells cs.toArray 48):=by
 obtain⟨ao,c,rfl,hv⟩:=h.opened;refine callsIn_of_wp func352 rfl hF ?_ hro;simp only[ntmps352,List.size_toArray,List.length_cons,List.length_nil,Nat.reduceAdd,Nat.reduceSub,Array.replicate_succ,Array.replicate_zero,List.push_toArray,List.append_toArray,List.nil_append,List.cons_append]
 gi_wp2
 go_ret;exact⟨rfl,rfl⟩
theorem cE.Dk{w:World}{ao:Option Addr}{n c:Nat}{l:List Xp}(h:Sl j7 w ao n c l){k:Nat}{d:Xp}(hd:l[k]?=some d):∃b off cs,ao=some ⟨b,off,none⟩/\iP w cs d/\cs.length=5/\cs.all (·.oneCell')=true/\∀w',cE w w'->(jf 48 ⟨b,off+k*5,none⟩).run prog w'=.ok (.agg cs.toArray) w':=by
 obtain⟨b,off,cs,rfl,hb,hR,hc⟩:=h.at hd;exact⟨b,off,cs,rfl,hR,iP.len hR,List.all_eq_true.2 (iP.one hR),fun w' hk=>uy (iP.len hR) fun j u hu=>hk.cell (by have:=hc j u hu;rw[<-Nat.add_assoc]at this;exact this)⟩
theorem Jq{args:List Xp}{k j:Nat}{d:Xp}{s:ByteArray}(hd:args[k]?=some d)(hs:(dS d)[j]?=some s):(dm args)[(dm (args.take k)).length+j]?=some s:=by
 have e:args=args.take (k+1)++args.drop (k+1):=(List.take_append_drop _ _).symm;have hj:=(bw hs).1;rw[e,sg,<-e,nG hd,List.append_assoc,List.getElem?_append_right (by omega),Nat.add_sub_cancel_left,List.getElem?_append_left hj];exact hs
theorem Tv:Fence.wide.fn 352:=trivial
theorem fwR:Fence.wide.round=none:=rfl
theorem Tw(e:Xp):∀(w:World)(Be:Nat),KZ w Be e->Passes prog 366 #[.pointer (some ⟨Be,0,none⟩)] (dS e) w:=by
 induction e using Xp.ind with
 |h op num str key args ih=>
 intro w0 Be hbox n l J w hkc hJ hY h0;have hbox:=hbox.sY hkc;obtain⟨hBe,cs,hR,hc⟩:=hbox;obtain⟨ao,c,rfl,hv⟩:=hR.opened;have c0:=hc 0 _ rfl;have c1:=hc 1 _ rfl;have c2:=hc 2 _ rfl;have c3:=hc 3 _ rfl;have c4:=hc 4 _ rfl;have hn:=hv.2.2.2.2.nle;unfold maxLen at hn;dsimp only[Xp.op,Xp.num,Xp.str,Xp.key,Xp.args]at*
 have HV:=aa (show Sl j7 w ao args.length c args from hv.2.2.2.2);have IH:=aa ih;have YD:=aa hJ;have WY:=aa (cE.alloc w (.cells #[.func (.yield l) #[] #[]] 194));clear hv hR hc ih hbox hkc;refine callsIn_of_wp_marks func366 rfl trivial ?_ rfl;simp only[ntmps366,List.size_toArray,List.length_cons,List.length_nil,Nat.reduceAdd,Nat.reduceSub,Array.replicate_succ,Array.replicate_zero,List.push_toArray,List.append_toArray,List.nil_append,List.cons_append];by_cases hop:op=1
 ·subst hop
  have e1:dS (.mk 1 num str key args)=str::dm args:=by rw[dS];rfl
  rw[e1]at hY ⊢;obtain⟨fn,tmps,assign,body,hy,GG⟩:=hY (n - 1) 0 str (w.alloc (.cells #[.func (.yield l) #[] #[]] 194)) rfl (hJ.alloc _ h0);obtain⟨j0,hj0⟩:∃j0:Nat,j0=1:=⟨_,rfl⟩;have HY:=aa (show∀m j s W1,(dm args)[j]?=some s->J (j0+j) W1->YieldAt Fence.wide m prog l #[.string s] W1 fun e W'=>e=.returned (.bool true)/\J (j0+j+1) W'/\cE W1 W'/\KeepsFrom w.heap.size W1 W' from fun m j s W1 hs hj=>by
   subst hj0;rw[Nat.add_comm 1 j]at hj ⊢;exact hY m (j+1) s W1 (by simpa using hs) hj)
  have aau:=aa (show(str::dm args).length=j0+(dm args).length by rw[hj0];simp;omega);clear hY
  gi_wp2_with (refine⟨fun h=>(by cases h),?_⟩;refine GG.mono ?_;rintro r w' ⟨rfl,hj,hk1,hk2⟩;(have HJ0:=aa (show J (j0+0) w' by rw[hj0];exact hj));(have HK0:=aa hk1);(have d4:=(WY.zo.trans hk1).cell c4);clear hj hk1 hk2 hy GG hj0)
  refine wpIn_loop_ghost (fun r a W=> ∃(k:Nat)(u0 u1 u3 u4 u5 u6 u7 u8 u9 u10 u11 u12 u13 u14 u15 u16 u20 u21 u22 u23 u24 u25 u26 u27 u28 u29 u30:Value)(ds:List Deferred),r=args.length - k/\k<=args.length/\a={tmps:=#[u0,u1,.pointer (some ⟨w.heap.size,0,none⟩),u3,u4,u5,u6,u7,u8,u9,u10,u11,u12,u13,u14,u15,u16,.slice ao args.length c,.int .i64 args.length,.int .i64 k,u20,u21,u22,u23,u24,u25,u26,u27,u28,u29,u30],defers:=ds}/\J (j0+(dm (args.take k)).length) W/\Marked w.heap.size W.heap.size W ds/\cE (w.alloc (.cells #[.func (.yield l) #[] #[]] 194)) W) args.length ⟨0,_,_,_,_,_,_,_,_,_,_,_,_,_,_,_,_,_,_,_,_,_,_,_,_,_,_,_,[],by omega,by omega,rfl,by simpa[dm]using HJ0.zo,Marked.nil _ _ _,HK0.zo⟩ ?_;rintro r a W ⟨k,u0,u1,u3,u4,u5,u6,u7,u8,u9,u10,u11,u12,u13,u14,u15,u16,u20,u21,u22,u23,u24,u25,u26,u27,u28,u29,u30,ds,rfl,hk,rfl,hj,hm,hkw⟩;have HJ:=aa hj;have HM:=aa hm;have Tx:=aa hkw;have hyb:W.cell? ⟨w.heap.size,0,none⟩=some (.func (.yield l) #[] #[]):=hkw.cell (World.cell?_alloc_new w _ _ 0);have hW2:w.heap.size+1<=W.heap.size:=by have:=hkw.size;simp at this;omega
  clear hj hm hkw;by_cases hlt:k<args.length
  ·obtain⟨d,hd⟩:∃d,args[k]?=some d:=⟨_,fZ hlt⟩
   obtain⟨b,off,cd,rfl,GG,len1,one1,cZ⟩:=cE.Dk HV.zo hd;have hld:=cZ W (WY.zo.trans Tx.zo);obtain⟨do_,dc,rfl,_⟩:=GG.opened;have XZ:=aa GG;have HD:=aa hd;clear cZ hd GG
   gi_wp2_with (refine⟨trivial,(fun h=>(by cases h)),?_⟩;((with_reducible refine CallsIn.mono (Cq Fence.wide _ Tv fwR d _ _ ?_) ?_);exact(XZ.zo.sY (WY.zo.trans Tx.zo)).sY (cE.alloc _ _);rintro r' w' ⟨rfl,rfl⟩))
   have hbx:KZ ((W.alloc (.cells #[.int .i64 d.op,.int .i64 d.num,.string d.str,.string d.key,.slice do_ d.args.length dc] 48)).alloc (.cells #[.int .i64 d.op,.int .i64 d.num,.string d.str,.string d.key,.slice do_ d.args.length dc] 48)) (W.heap.size+1) d:=
    ⟨by simp,_,(XZ.zo.sY (WY.zo.trans Tx.zo)).sY ((cE.alloc _ _).trans (cE.alloc _ _)),fun j u hu=>by have:=World.cell?_alloc_new (W.alloc (.cells #[.int .i64 d.op,.int .i64 d.num,.string d.str,.string d.key,.slice do_ d.args.length dc] 48)) #[.int .i64 d.op,.int .i64 d.num,.string d.str,.string d.key,.slice do_ d.args.length dc] 48 j;rw[World.size_alloc]at this;rw[this];simpa using hu⟩
   have GI:=aa hbx;have HKI:=aa ((cE.alloc W (.cells #[.int .i64 d.op,.int .i64 d.num,.string d.str,.string d.key,.slice do_ d.args.length dc] 48)).trans (cE.alloc _ (.cells #[.int .i64 d.op,.int .i64 d.num,.string d.str,.string d.key,.slice do_ d.args.length dc] 48)));have HJI:=aa (YD.zo.alloc (.cells #[.int .i64 d.op,.int .i64 d.num,.string d.str,.string d.key,.slice do_ d.args.length dc] 48) (YD.zo.alloc (.cells #[.int .i64 d.op,.int .i64 d.num,.string d.str,.string d.key,.slice do_ d.args.length dc] 48) HJ.zo));have HMI:=aa ((Marked.own w.heap.size W.heap.size ds (β:=Unit)).alloc (s:=()) (.cells #[.int .i64 d.op,.int .i64 d.num,.string d.str,.string d.key,.slice do_ d.args.length dc] 48) ((Marked.own w.heap.size W.heap.size ds (β:=Unit)).alloc (s:=()) (.cells #[.int .i64 d.op,.int .i64 d.num,.string d.str,.string d.key,.slice do_ d.args.length dc] 48) HM.zo));clear hbx;have hsi:W.heap.size+2=((W.alloc (.cells #[.int .i64 d.op,.int .i64 d.num,.string d.str,.string d.key,.slice do_ d.args.length dc] 48)).alloc (.cells #[.int .i64 d.op,.int .i64 d.num,.string d.str,.string d.key,.slice do_ d.args.length dc] 48)).heap.size:=by simp
   generalize ((W.alloc (.cells #[.int .i64 d.op,.int .i64 d.num,.string d.str,.string d.key,.slice do_ d.args.length dc] 48)).alloc (.cells #[.int .i64 d.op,.int .i64 d.num,.string d.str,.string d.key,.slice do_ d.args.length dc] 48))=Wi at GI HKI HJI HMI hsi ⊢;refine vz (gf:=366) (lb:=#[.pointer (some ⟨W.heap.size+1,0,none⟩)]) (ys:=dS d) rfl yl (IH.zo d (gH HD.zo) _ _ GI.zo) rfl (fun j W2=>J (j0+(dm (args.take k)).length+j) W2/\Marked w.heap.size W.heap.size W2 ds) (OwnFrom.and (fun s A B row hs hg hr=>YD.zo _ A B row hs hg fun r e=>⟨by have:=(hr r e).1;omega,(hr r e).2⟩) (fun s A B row hs hg hr=>(Marked.own w.heap.size W.heap.size ds (β:=Nat)) s A B row hs hg fun r e=>⟨by have:=(hr r e).1;omega,(hr r e).2⟩)) ⟨HJI.zo,HMI.zo⟩ ?a1 ?assign ?body ?done
   case assign=>
    intro l' m s W2 K hK
    gi_wp2
    exact hK
   case body=>
    intro l' m j s W2 hs hi hkk;obtain⟨hj,hmm⟩:=hi;have LQ:=aa hmm;have af9:W2.cell? ⟨w.heap.size,0,none⟩=some (.func (.yield l) #[] #[]):=(HKI.zo.trans hkk).cell hyb;obtain⟨fn2,Ty,assign2,body2,hy2,Tz⟩:=HY.zo (m - 1) ((dm (args.take k)).length+j) s W2 (Jq HD.zo hs) (by rw[<-Nat.add_assoc];exact hj);have TA:RoundIn (Fence.wide.inRound l') (m - 1) prog l fn2 Ty assign2 body2 W2 _:=Tz;clear hmm hj hs hkk Tz
    gi_wp2_with (refine⟨fun h=>(by cases h),?_⟩;refine RoundIn.mono TA ?_;rintro r' w' ⟨rfl,hj2,hk2,hk3⟩;(have HJ2:=aa hj2);(have HK2:=aa hk2);(have K5:=aa hk3);clear hj2 hk2 hk3 TA hy2)
    refine⟨ru K5.zo (by omega),HK2.zo,?_,LQ.zo.kept K5.zo⟩;have:=HJ2.zo;rw[<-Nat.add_assoc]at this;exact this
   case done=>
    intro D W2 hD1 hD2 hi hkk hdd;obtain⟨hj,hmm⟩:=hi;have LQ:=aa (hmm.cons (T':=W2.heap.size) (by omega) (show W.heap.size<=D by omega) hD2 hdd);have HJ3:=aa (show J (j0+(dm (args.take (k+1))).length) W2 by rw[nG HD.zo,dG,<-Nat.add_assoc];exact hj);have K5:=aa (Tx.zo.trans (HKI.zo.trans hkk));clear hj hmm hkk hdd
    gi_wp2
    exact⟨args.length - (k+1),by omega,k+1,_,_,_,_,_,_,_,_,_,_,_,_,_,_,_,_,_,_,_,_,_,_,_,_,_,_,_,_,rfl,by omega,by go_num,HJ3.zo,LQ.zo,K5.zo⟩
  ·obtain rfl:k=args.length:=by omega
   gi_wp2
   refine ry (B:=w.heap.size) (T:=W.heap.size) (K:=fun W'=>J (j0+(dm args).length) W'/\cE w W') (fun s A B row hs hg hr=>⟨YD.zo _ A B row hs.1 hg hr,hs.2.trans (cE.grown hg fun r e=>(hr r e).2)⟩) (fun W' hk=> ?_) ds W HM.zo ⟨?_,WY.zo.trans Tx.zo⟩
   ·refine⟨_,results_none rfl _ _ _,⟨_,rfl⟩,?_,hk.2⟩
    rw[aau.zo];exact hk.1
   ·have h5:=HJ.zo
    rw[List.take_length]at h5;exact h5
 ·have hb:(op==1)=false:=by simpa using hop
  have e1:dS (.mk op num str key args)=dm args:=by rw[dS,if_neg hop];rfl
  rw[e1]at hY ⊢;have HB:=aa hop;obtain⟨j0,hj0⟩:∃j0:Nat,j0=0:=⟨_,rfl⟩;have HY:=aa (show∀m j s W1,(dm args)[j]?=some s->J (j0+j) W1->YieldAt Fence.wide m prog l #[.string s] W1 fun e W'=>e=.returned (.bool true)/\J (j0+j+1) W'/\cE W1 W'/\KeepsFrom w.heap.size W1 W' from fun m j s W1 hs hj=>by
   subst hj0;rw[Nat.zero_add]at hj ⊢;exact hY m j s W1 hs hj)
  have aau:=aa (show(dm args).length=j0+(dm args).length by rw[hj0,Nat.zero_add]);have HJ0:=aa (show J (j0+0) (w.alloc (.cells #[.func (.yield l) #[] #[]] 194))by rw[hj0];exact hJ.alloc _ h0);have HK0:=aa (cE.refl (w.alloc (.cells #[.func (.yield l) #[] #[]] 194)));clear hY hop hj0
  gi_wp2
  refine⟨fun _ h=>(by cases h),?_⟩
  gi_wp2
  refine wpIn_loop_ghost (fun r a W=> ∃(k:Nat)(u0 u1 u3 u4 u5 u6 u7 u8 u9 u10 u11 u12 u13 u14 u15 u16 u20 u21 u22 u23 u24 u25 u26 u27 u28 u29 u30:Value)(ds:List Deferred),r=args.length - k/\k<=args.length/\a={tmps:=#[u0,u1,.pointer (some ⟨w.heap.size,0,none⟩),u3,u4,u5,u6,u7,u8,u9,u10,u11,u12,u13,u14,u15,u16,.slice ao args.length c,.int .i64 args.length,.int .i64 k,u20,u21,u22,u23,u24,u25,u26,u27,u28,u29,u30],defers:=ds}/\J (j0+(dm (args.take k)).length) W/\Marked w.heap.size W.heap.size W ds/\cE (w.alloc (.cells #[.func (.yield l) #[] #[]] 194)) W) args.length ⟨0,_,_,_,_,_,_,_,_,_,_,_,_,_,_,_,_,_,_,_,_,_,_,_,_,_,_,_,[],by omega,by omega,rfl,by simpa[dm]using HJ0.zo,Marked.nil _ _ _,HK0.zo⟩ ?_;rintro r a W ⟨k,u0,u1,u3,u4,u5,u6,u7,u8,u9,u10,u11,u12,u13,u14,u15,u16,u20,u21,u22,u23,u24,u25,u26,u27,u28,u29,u30,ds,rfl,hk,rfl,hj,hm,hkw⟩;have HJ:=aa hj;have HM:=aa hm;have Tx:=aa hkw;have hyb:W.cell? ⟨w.heap.size,0,none⟩=some (.func (.yield l) #[] #[]):=hkw.cell (World.cell?_alloc_new w _ _ 0);have hW2:w.heap.size+1<=W.heap.size:=by have:=hkw.size;simp at this;omega
  clear hj hm hkw;by_cases hlt:k<args.length
  ·obtain⟨d,hd⟩:∃d,args[k]?=some d:=⟨_,fZ hlt⟩
   obtain⟨b,off,cd,rfl,GG,len1,one1,cZ⟩:=cE.Dk HV.zo hd;have hld:=cZ W (WY.zo.trans Tx.zo);obtain⟨do_,dc,rfl,_⟩:=GG.opened;have XZ:=aa GG;have HD:=aa hd;clear cZ hd GG
   gi_wp2_with (refine⟨trivial,(fun h=>(by cases h)),?_⟩;((with_reducible refine CallsIn.mono (Cq Fence.wide _ Tv fwR d _ _ ?_) ?_);exact(XZ.zo.sY (WY.zo.trans Tx.zo)).sY (cE.alloc _ _);rintro r' w' ⟨rfl,rfl⟩))
   have hbx:KZ ((W.alloc (.cells #[.int .i64 d.op,.int .i64 d.num,.string d.str,.string d.key,.slice do_ d.args.length dc] 48)).alloc (.cells #[.int .i64 d.op,.int .i64 d.num,.string d.str,.string d.key,.slice do_ d.args.length dc] 48)) (W.heap.size+1) d:=
    ⟨by simp,_,(XZ.zo.sY (WY.zo.trans Tx.zo)).sY ((cE.alloc _ _).trans (cE.alloc _ _)),fun j u hu=>by have:=World.cell?_alloc_new (W.alloc (.cells #[.int .i64 d.op,.int .i64 d.num,.string d.str,.string d.key,.slice do_ d.args.length dc] 48)) #[.int .i64 d.op,.int .i64 d.num,.string d.str,.string d.key,.slice do_ d.args.length dc] 48 j;rw[World.size_alloc]at this;rw[this];simpa using hu⟩
   have GI:=aa hbx;have HKI:=aa ((cE.alloc W (.cells #[.int .i64 d.op,.int .i64 d.num,.string d.str,.string d.key,.slice do_ d.args.length dc] 48)).trans (cE.alloc _ (.cells #[.int .i64 d.op,.int .i64 d.num,.string d.str,.string d.key,.slice do_ d.args.length dc] 48)));have HJI:=aa (YD.zo.alloc (.cells #[.int .i64 d.op,.int .i64 d.num,.string d.str,.string d.key,.slice do_ d.args.length dc] 48) (YD.zo.alloc (.cells #[.int .i64 d.op,.int .i64 d.num,.string d.str,.string d.key,.slice do_ d.args.length dc] 48) HJ.zo));have HMI:=aa ((Marked.own w.heap.size W.heap.size ds (β:=Unit)).alloc (s:=()) (.cells #[.int .i64 d.op,.int .i64 d.num,.string d.str,.string d.key,.slice do_ d.args.length dc] 48) ((Marked.own w.heap.size W.heap.size ds (β:=Unit)).alloc (s:=()) (.cells #[.int .i64 d.op,.int .i64 d.num,.string d.str,.string d.key,.slice do_ d.args.length dc] 48) HM.zo));clear hbx;have hsi:W.heap.size+2=((W.alloc (.cells #[.int .i64 d.op,.int .i64 d.num,.string d.str,.string d.key,.slice do_ d.args.length dc] 48)).alloc (.cells #[.int .i64 d.op,.int .i64 d.num,.string d.str,.string d.key,.slice do_ d.args.length dc] 48)).heap.size:=by simp
   generalize ((W.alloc (.cells #[.int .i64 d.op,.int .i64 d.num,.string d.str,.string d.key,.slice do_ d.args.length dc] 48)).alloc (.cells #[.int .i64 d.op,.int .i64 d.num,.string d.str,.string d.key,.slice do_ d.args.length dc] 48))=Wi at GI HKI HJI HMI hsi ⊢;refine vz (gf:=366) (lb:=#[.pointer (some ⟨W.heap.size+1,0,none⟩)]) (ys:=dS d) rfl yl (IH.zo d (gH HD.zo) _ _ GI.zo) rfl (fun j W2=>J (j0+(dm (args.take k)).length+j) W2/\Marked w.heap.size W.heap.size W2 ds) (OwnFrom.and (fun s A B row hs hg hr=>YD.zo _ A B row hs hg fun r e=>⟨by have:=(hr r e).1;omega,(hr r e).2⟩) (fun s A B row hs hg hr=>(Marked.own w.heap.size W.heap.size ds (β:=Nat)) s A B row hs hg fun r e=>⟨by have:=(hr r e).1;omega,(hr r e).2⟩)) ⟨HJI.zo,HMI.zo⟩ ?b1 ?assign2 ?body2 ?done2
   case assign2=>
    intro l' m s W2 K hK
    gi_wp2
    exact hK
   case body2=>
    intro l' m j s W2 hs hi hkk;obtain⟨hj,hmm⟩:=hi;have LQ:=aa hmm;have af9:W2.cell? ⟨w.heap.size,0,none⟩=some (.func (.yield l) #[] #[]):=(HKI.zo.trans hkk).cell hyb;obtain⟨fn2,Ty,assign2,body2,hy2,Tz⟩:=HY.zo (m - 1) ((dm (args.take k)).length+j) s W2 (Jq HD.zo hs) (by rw[<-Nat.add_assoc];exact hj);have TA:RoundIn (Fence.wide.inRound l') (m - 1) prog l fn2 Ty assign2 body2 W2 _:=Tz;clear hmm hj hs hkk Tz
    gi_wp2_with (refine⟨fun h=>(by cases h),?_⟩;refine RoundIn.mono TA ?_;rintro r' w' ⟨rfl,hj2,hk2,hk3⟩;(have HJ2:=aa hj2);(have HK2:=aa hk2);(have K5:=aa hk3);clear hj2 hk2 hk3 TA hy2)
    refine⟨ru K5.zo (by omega),HK2.zo,?_,LQ.zo.kept K5.zo⟩;have:=HJ2.zo;rw[<-Nat.add_assoc]at this;exact this
   case done2=>
    intro D W2 hD1 hD2 hi hkk hdd;obtain⟨hj,hmm⟩:=hi;have LQ:=aa (hmm.cons (T':=W2.heap.size) (by omega) (show W.heap.size<=D by omega) hD2 hdd);have HJ3:=aa (show J (j0+(dm (args.take (k+1))).length) W2 by rw[nG HD.zo,dG,<-Nat.add_assoc];exact hj);have K5:=aa (Tx.zo.trans (HKI.zo.trans hkk));clear hj hmm hkk hdd
    gi_wp2
    exact⟨args.length - (k+1),by omega,k+1,_,_,_,_,_,_,_,_,_,_,_,_,_,_,_,_,_,_,_,_,_,_,_,_,_,_,_,_,rfl,by omega,by go_num,HJ3.zo,LQ.zo,K5.zo⟩
  ·obtain rfl:k=args.length:=by omega
   gi_wp2
   refine ry (B:=w.heap.size) (T:=W.heap.size) (K:=fun W'=>J (j0+(dm args).length) W'/\cE w W') (fun s A B row hs hg hr=>⟨YD.zo _ A B row hs.1 hg hr,hs.2.trans (cE.grown hg fun r e=>(hr r e).2)⟩) (fun W' hk=> ?_) ds W HM.zo ⟨?_,WY.zo.trans Tx.zo⟩
   ·refine⟨_,results_none rfl _ _ _,⟨_,rfl⟩,?_,hk.2⟩
    rw[aau.zo];exact hk.1
   ·have h5:=HJ.zo
    rw[List.take_length]at h5;exact h5
end
end Go.Proofs.YtomgpelfmgkknaaGreatDoor
