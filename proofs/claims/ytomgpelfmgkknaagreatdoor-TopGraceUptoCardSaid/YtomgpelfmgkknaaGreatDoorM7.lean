/- Lemmas for the law. No conditions. -/
import Derived.Laws.CopyRow
import Derived.Test.YtomgpelfmgkknaaGreatDoorM5
import Derived.Laws.OwnMore
import Derived.Deep.AppendLies
namespace Go.Proofs.YtomgpelfmgkknaaGreatDoor
open Go.RowKit Go.Maps
open Go.Proofs.Tryz
set_option maxRecDepth 100000
set_option maxHeartbeats 40000000
set_option linter.unusedVariables false
set_option linter.unusedSimpArgs false
def GR(c:Array Value)(o k:Nat):Array Value:=((c.toList.drop o).take k).toArray
def xD(c:Array Value)(o:Nat)(vs:zv):Array Value:=(c.toList.take o++vs++c.toList.drop (o+vs.length)).toArray
def vW(n:Nat)(l:zv):zv:=l.drop n
def vX(n:Nat)(l:zv):zv:=l.take n
@[go_sem] theorem ab3(l:zv)(o k:Nat):GR l.toArray o k=(vX k (vW o l)).toArray:=by unfold GR vX vW;rfl
@[go_sem] theorem ab4(l:zv)(o:Nat)(vs:zv):xD l.toArray o vs=(vX o l++vs++vW (o+vs.length) l).toArray:=by unfold xD vX vW;rfl
@[go_sem] theorem Y2(l:zv):vW 0 l=l:=by unfold vW;rfl
@[go_sem] theorem Y3(n:Nat)(a:Value)(l:zv):vW (n+1) (a::l)=vW n l:=by unfold vW;rfl
@[go_sem] theorem Y4(l:zv):vX 0 l= []:=by unfold vX;rfl
@[go_sem] theorem Y5(n:Nat)(a:Value)(l:zv):vX (n+1) (a::l)=a::vX n l:=by unfold vX;rfl
theorem Vf{w:World}{b o k n:Nat}(h:isRow w b n)(ho:o+k<=n):w.rangeAt b o (GR (rowOf w b) o k).toList/\(GR (rowOf w b) o k).toList.length=k:=by
 obtain⟨c,t,hb,hc⟩:=h;rw[gI hb];unfold GR;constructor
 ·intro j u hj
  rw[List.toList_toArray,List.getElem?_take]at hj;split at hj
  ·rw[List.getElem?_drop]at hj
   rw[cell_of_row _ _ _ _ _ _ hb];simpa using hj
  ·cases hj
 ·simp
  omega
theorem Y6{w:World}{b o k n:Nat}{t:TypeId}{d:TypeDesc}(h:isRow w b n)(ho:o+k<=n)(hu:prog.underlying t=some d)(hd:d.isRow=true)(hi:(prog.info? t).map (fun i=>i.size)=some k):(jf t ⟨b,o,none⟩).run prog w=.ok (.agg (GR (rowOf w b) o k)) w:=by
 obtain⟨h1,h2⟩:=Vf h ho;have:=run_loadVar_mid w b o t (GR (rowOf w b) o k).toList d h1 hu hd (by rw[h2];exact hi);simpa[jf]using this
theorem PY{w:World}{b o k n:Nat}{t:TypeId}{vs:zv}(h:isRow w b n)(ho:o+k<=n)(hl:vs.length=k)(h1:vs.all (·.oneCell')=true)(hi:(prog.info? t).map (fun i=>i.size)=some k):(PW t ⟨b,o,none⟩ (.agg vs.toArray)).run prog w=.ok () (w.setRow b (xD (rowOf w b) o vs)):=by
 obtain⟨c,t0,hb,hc⟩:=h;have h:=run_storeCells_at prog b o t0 vs 0 c w hb (by omega) (fun v hv=>by have:=List.all_eq_true.1 h1 v hv;exact this);obtain⟨i,hi,hs⟩:=Option.map_eq_some_iff.1 hi;simp only[Nat.add_zero]at h;unfold PW xD;rw[gI hb,<-h];simp[storeVar,sizeOf,typeInfo,hi,Value.cells,hs,hl]
instance :iq 96 6:=⟨⟨_,underlying96,rfl⟩,by kernel_rfl⟩
@[go_sem low] theorem ahy(t k:Nat) [h0:iq t k] (w:World)(b o:Nat)(h:isRow w b (rowOf w b).size)(ho:o+k<=(rowOf w b).size):(jf t ⟨b,o,none⟩).run prog w=.ok (.agg (GR (rowOf w b) o k)) w:=by
 obtain⟨d,h1,h2⟩:=h0.u;exact Y6 h ho h1 h2 h0.s
@[go_sem low] theorem ahz(t k:Nat) [h0:iq t k] (w:World)(b o:Nat)(vs:zv)(h:isRow w b (rowOf w b).size)(ho:o+k<=(rowOf w b).size)(hl:vs.length=k)(h1:vs.all (·.oneCell')=true):(PW t ⟨b,o,none⟩ (.agg vs.toArray)).run prog w=.ok () (w.setRow b (xD (rowOf w b) o vs)):=PY h ho hl h1 h0.s
@[go_sem] theorem ab5(a w:World)(o0 o1:Obj)(h:af a w):af a ((w.alloc o0).alloc o1)=True:=eq_true ((h.alloc o0).alloc o1)
@[go_sem] theorem ab6(a w:World)(o0 o1 o2:Obj)(h:af a w):af a (((w.alloc o0).alloc o1).alloc o2)=True:=eq_true (((h.alloc o0).alloc o1).alloc o2)
@[go_sem] theorem ab7(a w:World)(o0 o1 o2 o3:Obj)(h:af a w):af a ((((w.alloc o0).alloc o1).alloc o2).alloc o3)=True:=eq_true ((((h.alloc o0).alloc o1).alloc o2).alloc o3)
@[go_sem] theorem ab8(a w:World)(o0 o1 o2 o3 o4:Obj)(h:af a w):af a (((((w.alloc o0).alloc o1).alloc o2).alloc o3).alloc o4)=True:=eq_true (((((h.alloc o0).alloc o1).alloc o2).alloc o3).alloc o4)
@[go_sem] theorem ab9(a w:World)(o0 o1 o2 o3 o4 o5:Obj)(h:af a w):af a ((((((w.alloc o0).alloc o1).alloc o2).alloc o3).alloc o4).alloc o5)=True:=eq_true ((((((h.alloc o0).alloc o1).alloc o2).alloc o3).alloc o4).alloc o5)
@[go_sem] theorem acd(a w:World)(o0 o1 o2 o3 o4 o5 o6:Obj)(h:af a w):af a (((((((w.alloc o0).alloc o1).alloc o2).alloc o3).alloc o4).alloc o5).alloc o6)=True:=eq_true (((((((h.alloc o0).alloc o1).alloc o2).alloc o3).alloc o4).alloc o5).alloc o6)
@[go_sem] theorem ace(a w:World)(o0 o1 o2 o3 o4 o5 o6 o7:Obj)(h:af a w):af a ((((((((w.alloc o0).alloc o1).alloc o2).alloc o3).alloc o4).alloc o5).alloc o6).alloc o7)=True:=eq_true ((((((((h.alloc o0).alloc o1).alloc o2).alloc o3).alloc o4).alloc o5).alloc o6).alloc o7)
@[go_sem] theorem abe(a w:World)(o0:Obj)(x:Ex)(h:af a w):af a (av (w.alloc o0) x)=True:=eq_true ((h.alloc o0).av x)
@[go_sem] theorem abf(a w:World)(o0:Obj)(h:af a w):af a (World.drew (w.alloc o0))=True:=eq_true ((h.alloc o0).drew)
@[go_sem] theorem abg(a w:World)(o0 o1:Obj)(x:Ex)(h:af a w):af a (av ((w.alloc o0).alloc o1) x)=True:=eq_true (((h.alloc o0).alloc o1).av x)
@[go_sem] theorem abh(a w:World)(o0 o1:Obj)(h:af a w):af a (World.drew ((w.alloc o0).alloc o1))=True:=eq_true (((h.alloc o0).alloc o1).drew)
@[go_sem] theorem abj(a w:World)(o0 o1 o2:Obj)(x:Ex)(h:af a w):af a (av (((w.alloc o0).alloc o1).alloc o2) x)=True:=eq_true ((((h.alloc o0).alloc o1).alloc o2).av x)
@[go_sem] theorem abk(a w:World)(o0 o1 o2:Obj)(h:af a w):af a (World.drew (((w.alloc o0).alloc o1).alloc o2))=True:=eq_true ((((h.alloc o0).alloc o1).alloc o2).drew)
@[go_sem] theorem abl(a w:World)(o0 o1 o2 o3:Obj)(x:Ex)(h:af a w):af a (av ((((w.alloc o0).alloc o1).alloc o2).alloc o3) x)=True:=eq_true (((((h.alloc o0).alloc o1).alloc o2).alloc o3).av x)
@[go_sem] theorem abm(a w:World)(o0 o1 o2 o3:Obj)(h:af a w):af a (World.drew ((((w.alloc o0).alloc o1).alloc o2).alloc o3))=True:=eq_true (((((h.alloc o0).alloc o1).alloc o2).alloc o3).drew)
@[go_sem] theorem abn(a w:World)(o0 o1 o2 o3 o4:Obj)(x:Ex)(h:af a w):af a (av (((((w.alloc o0).alloc o1).alloc o2).alloc o3).alloc o4) x)=True:=eq_true ((((((h.alloc o0).alloc o1).alloc o2).alloc o3).alloc o4).av x)
@[go_sem] theorem abo(a w:World)(o0 o1 o2 o3 o4:Obj)(h:af a w):af a (World.drew (((((w.alloc o0).alloc o1).alloc o2).alloc o3).alloc o4))=True:=eq_true ((((((h.alloc o0).alloc o1).alloc o2).alloc o3).alloc o4).drew)
@[go_sem] theorem abp(a w:World)(o0 o1 o2 o3 o4 o5:Obj)(x:Ex)(h:af a w):af a (av ((((((w.alloc o0).alloc o1).alloc o2).alloc o3).alloc o4).alloc o5) x)=True:=eq_true (((((((h.alloc o0).alloc o1).alloc o2).alloc o3).alloc o4).alloc o5).av x)
@[go_sem] theorem abq(a w:World)(o0 o1 o2 o3 o4 o5:Obj)(h:af a w):af a (World.drew ((((((w.alloc o0).alloc o1).alloc o2).alloc o3).alloc o4).alloc o5))=True:=eq_true (((((((h.alloc o0).alloc o1).alloc o2).alloc o3).alloc o4).alloc o5).drew)
@[go_sem] theorem abr(a w:World)(o0 o1 o2 o3 o4 o5 o6:Obj)(x:Ex)(h:af a w):af a (av (((((((w.alloc o0).alloc o1).alloc o2).alloc o3).alloc o4).alloc o5).alloc o6) x)=True:=eq_true ((((((((h.alloc o0).alloc o1).alloc o2).alloc o3).alloc o4).alloc o5).alloc o6).av x)
@[go_sem] theorem abt(a w:World)(o0 o1 o2 o3 o4 o5 o6:Obj)(h:af a w):af a (World.drew (((((((w.alloc o0).alloc o1).alloc o2).alloc o3).alloc o4).alloc o5).alloc o6))=True:=eq_true ((((((((h.alloc o0).alloc o1).alloc o2).alloc o3).alloc o4).alloc o5).alloc o6).drew)
@[go_sem] theorem abu(a w:World)(o0 o1 o2 o3 o4 o5 o6 o7:Obj)(x:Ex)(h:af a w):af a (av ((((((((w.alloc o0).alloc o1).alloc o2).alloc o3).alloc o4).alloc o5).alloc o6).alloc o7) x)=True:=eq_true (((((((((h.alloc o0).alloc o1).alloc o2).alloc o3).alloc o4).alloc o5).alloc o6).alloc o7).av x)
@[go_sem] theorem abv(a w:World)(o0 o1 o2 o3 o4 o5 o6 o7:Obj)(h:af a w):af a (World.drew ((((((((w.alloc o0).alloc o1).alloc o2).alloc o3).alloc o4).alloc o5).alloc o6).alloc o7))=True:=eq_true (((((((((h.alloc o0).alloc o1).alloc o2).alloc o3).alloc o4).alloc o5).alloc o6).alloc o7).drew)
@[go_sem] theorem acf(a w:World)(x1:Ex)(o1:Obj)(h:af a w):af a ((av w x1).alloc o1)=True:=eq_true ((h.av x1).alloc o1)
@[go_sem] theorem acg(a w:World)(x1:Ex)(o1:Obj)(x2:Ex)(h:af a w):af a (av ((av w x1).alloc o1) x2)=True:=eq_true (((h.av x1).alloc o1).av x2)
@[go_sem] theorem ach(a w:World)(x1:Ex)(o1:Obj)(x2:Ex)(o2:Obj)(h:af a w):af a ((av ((av w x1).alloc o1) x2).alloc o2)=True:=eq_true ((((h.av x1).alloc o1).av x2).alloc o2)
@[go_sem] theorem aci(a w:World)(x1:Ex)(o1:Obj)(x2:Ex)(o2:Obj)(x3:Ex)(h:af a w):af a (av ((av ((av w x1).alloc o1) x2).alloc o2) x3)=True:=eq_true (((((h.av x1).alloc o1).av x2).alloc o2).av x3)
@[go_sem] theorem acj(a w:World)(x1:Ex)(o1:Obj)(x2:Ex)(o2:Obj)(x3:Ex)(o3:Obj)(h:af a w):af a ((av ((av ((av w x1).alloc o1) x2).alloc o2) x3).alloc o3)=True:=eq_true ((((((h.av x1).alloc o1).av x2).alloc o2).av x3).alloc o3)
@[go_sem] theorem acn(a w:World)(x1:Ex)(o1:Obj)(x2:Ex)(o2:Obj)(x3:Ex)(o3:Obj)(x4:Ex)(h:af a w):af a (av ((av ((av ((av w x1).alloc o1) x2).alloc o2) x3).alloc o3) x4)=True:=eq_true (((((((h.av x1).alloc o1).av x2).alloc o2).av x3).alloc o3).av x4)
@[go_sem] theorem aco(a w:World)(x1:Ex)(o1:Obj)(x2:Ex)(o2:Obj)(x3:Ex)(o3:Obj)(x4:Ex)(o4:Obj)(h:af a w):af a ((av ((av ((av ((av w x1).alloc o1) x2).alloc o2) x3).alloc o3) x4).alloc o4)=True:=eq_true ((((((((h.av x1).alloc o1).av x2).alloc o2).av x3).alloc o3).av x4).alloc o4)
theorem sj{T:Type}{L:Lay T}{w:World}{b:Nat}{cs:zv}{d:T}(hb:b<w.heap.size)(h:L.R w cs d)(hc:∀j u,cs[j]?=some u->w.cell? ⟨b,j,none⟩=some u):Sl L w (some ⟨b,0,none⟩) 1 1 [d]:=by
 refine⟨rfl,cs,⟨by rw[L.len h,Nat.one_mul],some ⟨b,0,none⟩,1,rfl,Nat.le_refl _,by unfold maxLen;omega,(fun h=>by cases h),fun _=>⟨b,0,rfl,trivial,hb,fun t u hu=>by rw[Nat.zero_add];exact hc t u hu⟩⟩,fun i x hx=> ?_⟩
 match i,hx with
 |0,hx=>
  cases hx;rw[Nat.zero_mul,List.drop_zero,dQ (Nat.le_of_eq (L.len h))];exact h
def j8(v:gR):Sb:=⟨v.z0,v.z1,[v.base]⟩
theorem LK(v:gR)(cs:zv)(w:World)(h:(iD).R w cs v):Calls prog 30 #[.agg cs.toArray] w fun e w'=> ∃bo,e=.returned (.slice (some ⟨bo,0,none⟩) 1 1)/\af w w'/\Sl Pr w' (some ⟨bo,0,none⟩) 1 1 [j8 v]:=by
 obtain⟨rfl,i0,i1,i2,i3,i4,i5,i6,i7⟩:=h;have HI:=aa (show I64 v.base.x0/\I64 v.base.y0/\I64 v.base.x1/\I64 v.base.y1/\I64 v.z0/\I64 v.z1 from⟨i0,i1,i2,i3,i4,i5⟩);clear i0 i1 i2 i3 i4 i5 i6 i7;go_enter func30,ntmps30;go_wp2;go_ret;obtain⟨i0,i1,i2,i3,i4,i5⟩:=HI.zo;refine⟨_,rfl,ae,sj (by simp) (cs:= [.int .i64 v.z0,.int .i64 v.z1,.slice (some ⟨w.heap.size+1,0,none⟩) 1 1]) ⟨_,_,rfl,i4,i5,sj (by simp<;>omega) (cs:= [.int .i64 v.base.x0,.int .i64 v.base.y0,.int .i64 v.base.x1,.int .i64 v.base.y1]) ⟨rfl,i0,i1,i2,i3⟩ ?_⟩ ?_⟩
 ·intro j u hu
  match j,hu with
  |0,hu=>(cases hu;simp[go_sem])
  |1,hu=>(cases hu;simp[go_sem])
  |2,hu=>(cases hu;simp[go_sem])
  |3,hu=>(cases hu;simp[go_sem])
 ·intro j u hu
  match j,hu with
  |0,hu=>(cases hu;simp[go_sem])
  |1,hu=>(cases hu;simp[go_sem])
  |2,hu=>(cases hu;simp[go_sem])
theorem aq.app{T:Type}{L:Lay T}{base:Nat}{e:TypeId}{w':World}{v:Value}{l l2:List T}{xs ys:zv}(h:w'.ownsRow base e L.k v (l.length+l2.length) (xs++ys))(hl:xs.length=l.length*L.k)(h1:∀i d,l[i]?=some d->L.R w' ((xs.drop (i*L.k)).take L.k) d)(h2:∀i d,l2[i]?=some d->L.R w' ((ys.drop (i*L.k)).take L.k) d):aq L base e w' v (l++l2):=by
 refine⟨xs++ys,by rw[dG];exact h,fun i d hd=> ?_⟩;rcases Nat.lt_or_ge i l.length with hi|hi
 ·rw[List.getElem?_append_left hi]at hd
  have hle:(i+1)*L.k<=xs.length:=by rw[hl];exact Nat.mul_le_mul_right _ hi
  rw[Nat.add_mul,Nat.one_mul]at hle;have:((xs++ys).drop (i*L.k)).take L.k=(xs.drop (i*L.k)).take L.k:=by
   rw[List.drop_append_of_le_length (by omega),List.take_append_of_le_length (by rw[List.length_drop];omega)]
  rw[this];exact h1 i d hd
 ·rw[List.getElem?_append_right hi]at hd
  have e0:(xs++ys).drop (i*L.k)=ys.drop ((i - l.length)*L.k):=by
   rw[List.drop_append,List.drop_of_length_le (by rw[hl];exact Nat.mul_le_mul_right _ hi),List.nil_append,hl,Nat.sub_mul]
  rw[e0];exact h2 _ d hd
def dw(d:rW):List gR:=d.phases.flatMap (·.cA)
theorem wm{l:List Phase}{k:Nat}(h:∀(i:Nat)(x:Phase),l[i]?=some x->x.cA.length<=3)(hk:k<=l.length):((l.take k).flatMap (·.cA)).length<=3*k:=by
 induction k with
 |zero=>simp
 |succ k ih=>
  have hlt:k<l.length:=by omega
  have hd:l[k]?=some l[k]:=fZ hlt;rw[List.take_add_one,hd,List.flatMap_append,dG];have h1:=ih (by omega);have h2:=h k _ hd;simp only[Option.toList_some,List.flatMap_cons,List.flatMap_nil,List.append_nil];omega
theorem Na(d:rW)(cs:zv)(w:World)(h:(e6).R w cs d)(hp:d.phases.length<=3)(hv:∀(i:Nat)(x:Phase),d.phases[i]?=some x->x.cA.length<=3):Calls prog 73 #[.agg cs.toArray] w fun e w'=> ∃ao c,e=.returned (.slice ao (dw d).length c)/\af w w'/\aq iD (w.heap.size+1) 98 w' (.slice ao (dw d).length c) (dw d):=by
 obtain⟨i0,hi,hz0,hz1,hz2⟩:=info_parts AL;obtain⟨o,c,rfl,q0,q1⟩:=h;have H:=aa q1;have HV:=aa hv;clear q0 q1 hv;go_enter func73,ntmps73;go_wp2;go_loopw [3,9] (fun o1 i wr=> ∃(k:Nat)(oo:Option Addr)(oc:Nat),k<=d.phases.length/\i=.int .i64 k/\o1=.slice oo ((d.phases.take k).flatMap (·.cA)).length oc/\af (w.alloc (.cells #[.int .i64 d.lot,.slice o d.phases.length c] 40)) wr/\aq iD (w.heap.size+1) 98 wr (.slice oo ((d.phases.take k).flatMap (·.cA)).length oc) ((d.phases.take k).flatMap (·.cA))) (fun _ i _=>d.phases.length - (intOf i).toNat)
 case atStart=>exact⟨0,none,0,by omega,rfl,rfl,af.refl _,aq.made _ _ _ _⟩
 case round=>
  obtain⟨k,oo,oc,hk,rfl,rfl,hx,ho⟩:=hrel;have HX:=aa hx;by_cases hlt:k<d.phases.length
  ·obtain⟨x,hd⟩:=H.zo.ex hlt
   have hle:=wm HV.zo hk;have hx3:=HV.zo k x hd;obtain⟨b,off,cs,rfl,lb,hR,cZ⟩:=H.zo.ld hd;obtain⟨o1,c1,o2,c2,rfl,r0,r1⟩:=hR;have hld:∀w',af wr w'->_:=fun w' he=>cZ w' ((show af w (w.alloc _)from(af.refl w).alloc _).trans (HX.zo.trans he))
   have hsz:w.heap.size+1<=wr.heap.size:=by have:=HX.zo.below.size;simpa using this
   obtain⟨ys,y1,y2,y3⟩:=r0.ones;obtain⟨xs,ho1,ho2⟩:=ho;have lv:=aa ho1;have jY:=aa ho2;have Zc:=aa y1;have Zd:=aa y2;have Ze:=aa y3;have HD:=aa hd;obtain⟨L,hL⟩:∃L,(d.phases.take k).flatMap (·.cA)=L:=⟨_,rfl⟩;have rY:=aa hL;rw[hL]at lv jY hle ⊢;clear hx ho1 ho2 y1 y2 y3 hd cZ r0 r1 hL;go_wp2_with (at_builtin;refine jU rfl _ _ 81 rfl (w.heap.size+1) 98 i0 _ 9 72 underlying81 hi hz0 hz1 hz2 rfl (by decide) _ L.length xs rfl (eX lv.zo ae) o1 x.cA.length c1 ys rfl (Zc.zo.exts ((show af w (w.alloc _)from(af.refl w).alloc _).trans (HX.zo.trans ae))) Ze.zo (by unfold maxLen;omega) (by omega) (by simp<;>omega) ?_;intro ao' c' w1 hown hgrow)
   have e1:(d.phases.take (k+1)).flatMap (·.cA)=L++x.cA:=by
    rw[List.take_add_one,HD.zo,List.flatMap_append,rY.zo];simp only[Option.toList_some,List.flatMap_cons,List.flatMap_nil,List.append_nil]
   have e2:L.length+x.cA.length=(L++x.cA).length:=dG.symm;have gm:=aF (W:=w.alloc (.cells #[.int .i64 d.lot,.slice (some ⟨b,off,none⟩) d.phases.length c] 40)) (HX.zo.trans ae) hgrow (fun b hb=>by have:=cm lv.zo b hb;simpa using this);refine⟨⟨k+1,ao',c',by omega,by go_num,by rw[e1,e2],gm,?_⟩,?_⟩
   ·rw[e1,<-e2]
    refine aq.app hown lv.zo.1 ?_ ?_
    ·exact fun i z hz=>jY.zo i z hz
    ·exact fun i z hz=>(iD).exts (Zd.zo i z hz) (((af.refl w).alloc _).trans gm)
   ·simp[intOf];omega
  ·obtain rfl:k=d.phases.length:=by omega
   have e1:(d.phases.take d.phases.length).flatMap (·.cA)=dw d:=by rw[List.take_length];rfl
   rw[e1]at ho ⊢;have HO:=aa ho;clear hx ho;go_wp2;go_ret;exact⟨_,_,rfl,(af.refl w).alloc _|>.trans HX.zo,HO.zo⟩
theorem AO(d:rW)(cs:zv)(w:World)(h:(e6).R w cs d)(hp:d.phases.length<=3)(hv:∀(i:Nat)(x:Phase),d.phases[i]?=some x->x.cA.length<=3):Calls prog 163 #[.agg cs.toArray,.int .i64 0,.int .i64 d.phases.length] w fun e w'=> ∃ao c,e=.returned (.slice ao (dw d).length c)/\af w w'/\aq iD (w.heap.size+1) 98 w' (.slice ao (dw d).length c) (dw d):=by
 obtain⟨i0,hi,hz0,hz1,hz2⟩:=info_parts AL;obtain⟨o,c,rfl,q0,q1⟩:=h;have H:=aa q1;have HV:=aa hv;clear q0 q1 hv;go_enter func163,ntmps163;go_wp2;go_loopw [7,13] (fun o1 i wr=> ∃(k:Nat)(oo:Option Addr)(oc:Nat),k<=d.phases.length/\i=.int .i64 k/\o1=.slice oo ((d.phases.take k).flatMap (·.cA)).length oc/\af (w.alloc (.cells #[.int .i64 d.lot,.slice o d.phases.length c] 40)) wr/\aq iD (w.heap.size+1) 98 wr (.slice oo ((d.phases.take k).flatMap (·.cA)).length oc) ((d.phases.take k).flatMap (·.cA))) (fun _ i _=>d.phases.length - (intOf i).toNat)
 case atStart=>exact⟨0,none,0,by omega,rfl,rfl,af.refl _,aq.made _ _ _ _⟩
 case round=>
  obtain⟨k,oo,oc,hk,rfl,rfl,hx,ho⟩:=hrel;have HX:=aa hx;by_cases hlt:k<d.phases.length
  ·obtain⟨x,hd⟩:=H.zo.ex hlt
   have hle:=wm HV.zo hk;have hx3:=HV.zo k x hd;obtain⟨b,off,cs,rfl,lb,hR,cZ⟩:=H.zo.ld hd;obtain⟨o1,c1,o2,c2,rfl,r0,r1⟩:=hR;have hld:∀w',af wr w'->_:=fun w' he=>cZ w' ((show af w (w.alloc _)from(af.refl w).alloc _).trans (HX.zo.trans he))
   have hsz:w.heap.size+1<=wr.heap.size:=by have:=HX.zo.below.size;simpa using this
   obtain⟨ys,y1,y2,y3⟩:=r0.ones;obtain⟨xs,ho1,ho2⟩:=ho;have lv:=aa ho1;have jY:=aa ho2;have Zc:=aa y1;have Zd:=aa y2;have Ze:=aa y3;have HD:=aa hd;obtain⟨L,hL⟩:∃L,(d.phases.take k).flatMap (·.cA)=L:=⟨_,rfl⟩;have rY:=aa hL;rw[hL]at lv jY hle ⊢;clear hx ho1 ho2 y1 y2 y3 hd cZ r0 r1 hL;go_wp2_with (at_builtin;refine jU rfl _ _ 81 rfl (w.heap.size+1) 98 i0 _ 9 72 underlying81 hi hz0 hz1 hz2 rfl (by decide) _ L.length xs rfl (eX lv.zo ae) o1 x.cA.length c1 ys rfl (Zc.zo.exts ((show af w (w.alloc _)from(af.refl w).alloc _).trans (HX.zo.trans ae))) Ze.zo (by unfold maxLen;omega) (by omega) (by simp<;>omega) ?_;intro ao' c' w1 hown hgrow)
   have e1:(d.phases.take (k+1)).flatMap (·.cA)=L++x.cA:=by
    rw[List.take_add_one,HD.zo,List.flatMap_append,rY.zo];simp only[Option.toList_some,List.flatMap_cons,List.flatMap_nil,List.append_nil]
   have e2:L.length+x.cA.length=(L++x.cA).length:=dG.symm;have gm:=aF (W:=w.alloc (.cells #[.int .i64 d.lot,.slice (some ⟨b,off,none⟩) d.phases.length c] 40)) (HX.zo.trans ae) hgrow (fun b hb=>by have:=cm lv.zo b hb;simpa using this);refine⟨⟨k+1,ao',c',by omega,by go_num,by rw[e1,e2],gm,?_⟩,?_⟩
   ·rw[e1,<-e2]
    refine aq.app hown lv.zo.1 ?_ ?_
    ·exact fun i z hz=>jY.zo i z hz
    ·exact fun i z hz=>(iD).exts (Zd.zo i z hz) (((af.refl w).alloc _).trans gm)
   ·simp[intOf];omega
  ·obtain rfl:k=d.phases.length:=by omega
   have e1:(d.phases.take d.phases.length).flatMap (·.cA)=dw d:=by rw[List.take_length];rfl
   rw[e1]at ho ⊢;have HO:=aa ho;clear hx ho;go_wp2;go_ret;exact⟨_,_,rfl,(af.refl w).alloc _|>.trans HX.zo,HO.zo⟩
theorem xI(d:rW)(cs:zv)(w:World)(h:(e6).R w cs d)(hp:d.phases.length<=3)(hv:∀(i:Nat)(x:Phase),d.phases[i]?=some x->x.cA.length<=3):Calls prog 151 #[.agg cs.toArray] w fun e w'=> ∃ao c,e=.returned (.slice ao (dw d).length c)/\af w w'/\Sl iD w' ao (dw d).length c (dw d):=by
 obtain⟨o,c,rfl,q0,q1⟩:=h;have HR:=aa (show(e6).R w [.int .i64 d.lot,.slice o d.phases.length c] d from⟨o,c,rfl,q0,q1⟩);have HV:=aa hv;clear q0 q1 hv;go_enter func151,ntmps151;go_wp2_with ((with_reducible refine ag (AO d _ _ ?_ hp HV.zo) ?_);exact(e6).exts HR.zo ae;rintro e w' ⟨ao,c,rfl,hx,hs⟩;(have HX:=aa hx);(have HS:=aa hs);clear hx hs)
 go_ret;exact⟨_,_,rfl,af.trans ae HX.zo,HS.zo.sl rfl⟩
section
def Flat{T:Type}(L:Lay T):Prop:= ∀(w w':World)(c:zv)(d:T),L.R w c d->L.R w' c d
def Turn(e:TypeId){T:Type}(L:Lay T):Prop:= ∀(w w':World)(c:zv)(d:T)(v:Value),L.R w c d->fk e w v->w.grownBy w' v.ownBlock->L.R w' c d
theorem Flat.turn{e:TypeId}{T:Type}{L:Lay T}(h:Flat L):Turn e L:=fun w w' c d _ hR _ _=>h w w' c d hR
theorem eZ:Flat dv:=fun _ _ _ _ h=>h
theorem wq:Flat fC:=fun _ _ _ _ h=>h
theorem mG:Flat eQ:=fun _ _ _ _ h=>h
theorem wu:Flat je:=fun _ _ _ _ h=>h
theorem AP:Flat iD:=fun _ _ _ _ h=>h
theorem J6:Flat eY:=fun _ _ _ _ h=>h
theorem jw{w:World}{b o:Nat}{u:Value}(h:w.cell? ⟨b,o,none⟩=some u):∀(j:Nat)(x:Value),[u][j]?=some x->w.cell? ((⟨b,o,none⟩:Addr).add j)=some x:=fun j x hj=>by
 match j,hj with
 |0,hj=>(cases hj;exact h)
theorem qO{w:World}{b o:Nat}{u v:Value}(h:w.cell? ⟨b,o,none⟩=some u)(h1:w.cell? ⟨b,o+1,none⟩=some v):∀(j:Nat)(x:Value),[u,v][j]?=some x->w.cell? ((⟨b,o,none⟩:Addr).add j)=some x:=fun j x hj=>by
 match j,hj with
 |0,hj=>(cases hj;exact h)
 |1,hj=>(cases hj;exact h1)
theorem wx{w:World}{b o:Nat}{u v s t:Value}(h:w.cell? ⟨b,o,none⟩=some u)(h1:w.cell? ⟨b,o+1,none⟩=some v)(h2:w.cell? ⟨b,o+2,none⟩=some s)(h3:w.cell? ⟨b,o+3,none⟩=some t):∀(j:Nat)(x:Value),[u,v,s,t][j]?=some x->w.cell? ((⟨b,o,none⟩:Addr).add j)=some x:=fun j x hj=>by
 match j,hj with
 |0,hj=>(cases hj;exact h)
 |1,hj=>(cases hj;exact h1)
 |2,hj=>(cases hj;exact h2)
 |3,hj=>(cases hj;exact h3)
theorem Vs{w:World}{b o:Nat}{u v s:Value}(h:w.cell? ⟨b,o,none⟩=some u)(h1:w.cell? ⟨b,o+1,none⟩=some v)(h2:w.cell? ⟨b,o+2,none⟩=some s):∀(j:Nat)(x:Value),[u,v,s][j]?=some x->w.cell? ((⟨b,o,none⟩:Addr).add j)=some x:=fun j x hj=>by
 match j,hj with
 |0,hj=>(cases hj;exact h)
 |1,hj=>(cases hj;exact h1)
 |2,hj=>(cases hj;exact h2)
section
variable {P:Program}{w:World}{ops:Array Oper}{rest:List Oper}{o:Oper}{a:Act}{Q:Exit->Act->World->Prop}{T:Type}
theorem nH(hgd:o.guard=none)(s x:Operand)(t:TypeId)(ho:o.op=.call {callee:=.builtin .append,args:=#[s,x],argTypes:=#[t,t]})
 (L:Lay T) (base:Nat) (e:TypeId) (hf:Turn e L) (i:TypeInfo) (z:Value) (bytes:Nat) (ht:P.underlying t=some (.slice e)) (hi:P.info? e=some i) (hz:i.zero=some z)
 (hsize:i.size=L.k) (hby:i.bytes=bytes) (hzs:z.cells.size=L.k) (hsz:0<L.k)
 (l ds:List T) (news:zv) (n m:Nat) (oo:Option Addr) (oc:Nat) (hs:a.eval s=.slice oo n oc) (hn:l.length=n) {wA:World} (hown:aq L base e wA (.slice oo n oc) l) (hA:af wA w)
 (ad:Addr) (c:Nat) (hx:a.eval x=.slice (some ad) m c) (hm:ds.length=m) (hl:news.length=m*L.k) (hR:∀i d,ds[i]?=some d->L.R w ((news.drop (i*L.k)).take L.k) d) (hnews:∀j u,news[j]?=some u->w.cell? (ad.add j)=some u) (h1:∀u∈news,u.oneCell'=true)
 (h63:n+m<=maxLen) (hbytes:(n+m)*bytes<=140737488355328) (hbase:base<=w.heap.size)
 (h:∀ao' c' w',aq L base e w' (.slice ao' (n+m) c') (l++ds)->(∀W,af W w->W.heap.size<=base->af W w')->wpList P ops Q rest (a.put o.dst (.slice ao' (n+m) c')) w'):wpList P ops Q (o::rest) a w:=by
 obtain⟨xs,h2,h3⟩:=hown.exts hA;rw[hn]at h2;refine wpList_append_own w hgd s x t ho base e i z L.k bytes ht hi hz hsize hby hzs hsz _ n xs hs h2 ad m c news hx hl hnews h1 h63 hbytes hbase fun v' w' hw1 hw2 hw3=> ?_
 obtain⟨ao',c',rfl⟩:=eC hw1;refine h ao' c' w' ?_ fun W hW hb=>aF hW hw2 (fun b hb'=>Nat.le_trans hb (cm h2 b hb'))
 subst hn hm;exact aq.app hw1 h2.1 (fun i d hd=>hf _ _ _ _ _ (h3 i d hd) (fk.ku h2) hw2) (fun i d hd=>hf _ _ _ _ _ (hR i d hd) (fk.ku h2) hw2)
theorem dz(hgd:o.guard=none)(s x:Operand)(t:TypeId)(ho:o.op=.call {callee:=.builtin .append,args:=#[s,x],argTypes:=#[t,t]})
 (L:Lay T) (base:Nat) (e:TypeId) (hf:Turn e L) (i:TypeInfo) (z:Value) (bytes:Nat) (ht:P.underlying t=some (.slice e)) (hi:P.info? e=some i) (hz:i.zero=some z)
 (hsize:i.size=L.k) (hby:i.bytes=bytes) (hzs:z.cells.size=L.k) (hsz:0<L.k)
 (l:List T) (d:T) (cs:zv) (n:Nat) (oo:Option Addr) (oc:Nat) (hs:a.eval s=.slice oo n oc) (hn:l.length=n) {wA:World} (hown:aq L base e wA (.slice oo n oc) l) (hA:af wA w)
 (ad:Addr) (c:Nat) (hx:a.eval x=.slice (some ad) 1 c) (hR:L.R w cs d) (hnews:∀j u,cs[j]?=some u->w.cell? (ad.add j)=some u)
 (hb:n<1000000) (hbytes:bytes<=100000) (hbase:base<=w.heap.size)
 (h:∀ao' c' w',aq L base e w' (.slice ao' (n+1) c') (l++ [d])->(∀W,af W w->W.heap.size<=base->af W w')->wpList P ops Q rest (a.put o.dst (.slice ao' (n+1) c')) w'):wpList P ops Q (o::rest) a w:=by
 refine nH hgd s x t ho L base e hf i z bytes ht hi hz hsize hby hzs hsz l [d] cs n 1 oo oc hs hn hown hA ad c hx rfl (by rw[L.len hR,Nat.one_mul]) (fun i y hy=> ?_) hnews (L.one hR) (by unfold maxLen;omega) ?_ hbase h
 ·match i,hy with
  |0,hy=>
   cases hy;rw[Nat.zero_mul,List.drop_zero,dQ (by rw[L.len hR];exact Nat.le_refl _)];exact hR
 ·exact Nat.le_trans (Nat.mul_le_mul (show n+1<=1000000 by omega) hbytes) (by decide)
theorem tK{K:Act->World->Prop}{E:Prop}(hgd:o.guard=none)(s x:Operand)(t:TypeId)(ho:o.op=.call {callee:=.builtin .append,args:=#[s,x],argTypes:=#[t,t]})
 (L:Lay T) (base:Nat) (e:TypeId) (hf:Turn e L) (i:TypeInfo) (z:Value) (bytes:Nat) (ht:P.underlying t=some (.slice e)) (hi:P.info? e=some i) (hz:i.zero=some z)
 (hsize:i.size=L.k) (hby:i.bytes=bytes) (hzs:z.cells.size=L.k) (hsz:0<L.k)
 (l:List T) (d:T) (cs:zv) (n:Nat) (oo:Option Addr) (oc:Nat) (hs:a.eval s=.slice oo n oc) (hn:l.length=n) {wA:World} (hown:aq L base e wA (.slice oo n oc) l) (hA:af wA w)
 (ad:Addr) (c:Nat) (hx:a.eval x=.slice (some ad) 1 c) (hR:L.R w cs d) (hnews:∀j u,cs[j]?=some u->w.cell? (ad.add j)=some u)
 (hb:n<1000000) (hbytes:bytes<=100000) (hbase:base<=w.heap.size)
 (h:∀ao' c' w',aq L base e w' (.slice ao' (n+1) c') (l++ [d])->(∀W,af W w->W.heap.size<=base->af W w')->w.grownBy w' (Value.slice oo n oc).ownBlock->K (a.put o.dst (.slice ao' (n+1) c')) w'):
 if Region.wanted o (yielded ops a.tmps)=true then Oper.wp P o a w K Q else E:=by
 obtain⟨xs,h2,h3⟩:=hown.exts hA;rw[hn]at h2;refine step_append_lies w hgd s x t ho base e i z L.k bytes ht hi hz hsize hby hzs hsz _ n xs hs h2 ad 1 c cs hx (by rw[L.len hR,Nat.one_mul]) hnews (L.one hR) (by decide) (by unfold maxLen;omega) (Nat.le_trans (Nat.mul_le_mul (show n+1<=1000000 by omega) hbytes) (by decide)) hbase _ rfl fun g cap w' hw1 hw2 _ _=> ?_
 refine h (some ⟨g,0,none⟩) cap w' ?_ (fun W hW hb=>aF hW hw2 (fun b hb'=>Nat.le_trans hb (cm h2 b hb'))) hw2;subst hn;refine aq.app (l2:= [d]) hw1 h2.1 (fun i d hd=>hf _ _ _ _ _ (h3 i d hd) (fk.ku h2) hw2) (fun i y hy=> ?_)
 match i,hy with
 |0,hy=>
  cases hy;rw[Nat.zero_mul,List.drop_zero,dQ (by rw[L.len hR];exact Nat.le_refl _)];exact hf _ _ _ _ _ hR (fk.ku h2) hw2
end
section
variable {T:Type}{L:Lay T}{base:Nat}{e:TypeId}{w w0:World}{g n c p:Nat}{l:List T}
theorem aq.lower{base':Nat}{v:Value}(h:aq L base e w v l)(hb:base'<=base):aq L base' e w v l:=by
 obtain⟨xs,⟨h0,h1⟩,h2⟩:=h;refine⟨xs,⟨h0,?_⟩,h2⟩;rcases h1 with h1|⟨g,cap,cur,h3,h4,h5⟩
 ·exact .inl h1
 ·exact .inr ⟨g,cap,cur,h3,Nat.le_trans hb h4,h5⟩
theorem aq.ne{v:Value}(h:aq L base e w v l){b:Nat}(hb:w.heap.size<=b):some b≠v.ownBlock:=fun hv=>by
 obtain⟨xs,h1,_⟩:=h;have:=(h1.lt b hv.symm).2;omega
theorem jx(he:af w0 w)(hg:w0.heap.size<=g)(j:Nat)(u:Value):af w0 (w.setCell ⟨g,j,none⟩ u):=
 af.of_below (he.below.setCell (p:=⟨g,j,none⟩) hg u)
theorem aq.stored(hf:Turn e L){d d':T}{i j:Nat}{u:Value}(h:aq L base e w (.slice (some ⟨g,0,none⟩) n c) l)(hn:l.length=n)(hd:l[i]?=some d)(hj:j<L.k)(hR:∀cs,L.R w cs d->L.R w (cs.set j u) d'):
 aq L base e (w.setCell ⟨g,i*L.k+j,none⟩ u) (.slice (some ⟨g,0,none⟩) n c) (l.set i d'):=by
 obtain⟨xs,h1,h2⟩:=h;rw[hn]at h1;obtain⟨h3,hgr⟩:=h1.stored (i*L.k+j) u;refine⟨xs.set (i*L.k+j) u,by rw[List.length_set,hn];exact h3,fun t x hx=>hf w _ _ _ (.slice (some ⟨g,0,none⟩) n c) ?_ (fk.ku h1) hgr⟩;have hil:i<l.length:=(bw hd).1;by_cases hti:t=i
 ·subst hti
  rw[List.getElem?_set_self hil]at hx;cases hx;have e1:((xs.set (t*L.k+j) u).drop (t*L.k)).take L.k=((xs.drop (t*L.k)).take L.k).set j u:=by
   apply List.ext_getElem?;intro q;rw[List.getElem?_take,List.getElem?_drop,List.getElem?_set,List.getElem?_set,List.getElem?_take,List.getElem?_drop,List.length_take,List.length_drop];have hlen:t*L.k+L.k<=xs.length:=by
    rw[h1.1,<-hn];calc t*L.k+L.k=(t+1)*L.k:=by rw[Nat.add_mul,Nat.one_mul]
     _<=l.length*L.k:=Nat.mul_le_mul_right _ hil
   by_cases hq:q<L.k
   ·by_cases hqj:j=q
    ·subst hqj
     simp only[hq,if_true];rw[if_pos (by omega),if_pos (by omega)]
    ·simp only[hq,if_true,hqj,if_false]
     rw[if_neg (by omega)]
   ·rw[if_neg hq,if_neg hq]
    split<;>simp
    all_goals first|omega|skip
  rw[e1];exact hR _ (h2 t d hd)
 ·rw[List.getElem?_set_ne (fun h=>hti h.symm)]at hx
  have e1:((xs.set (i*L.k+j) u).drop (t*L.k)).take L.k=(xs.drop (t*L.k)).take L.k:=by
   apply List.ext_getElem?;intro q;rw[List.getElem?_take,List.getElem?_take,List.getElem?_drop,List.getElem?_drop,List.getElem?_set];by_cases hq:q<L.k
   ·simp only[hq,if_true]
    rw[if_neg];intro h0;have h5:i*L.k+j<(i+1)*L.k:=by rw[Nat.add_mul,Nat.one_mul];omega
    have h6:t*L.k+q<(t+1)*L.k:=by rw[Nat.add_mul,Nat.one_mul];omega
    rcases Nat.lt_or_gt_of_ne hti with h7|h7
    ·have:=Nat.mul_le_mul_right L.k (show t+1<=i from h7)
     omega
    ·have:=Nat.mul_le_mul_right L.k (show i+1<=t from h7)
     omega
   ·rw[if_neg hq,if_neg hq]
  rw[e1];exact h2 t x hx
end
end
end Go.Proofs.YtomgpelfmgkknaaGreatDoor
