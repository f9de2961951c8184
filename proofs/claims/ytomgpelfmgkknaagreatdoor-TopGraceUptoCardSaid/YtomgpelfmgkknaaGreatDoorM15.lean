/- Lemmas for the law. No conditions. -/
import Derived.Test.YtomgpelfmgkknaaGreatDoorM13
namespace Go.Proofs.YtomgpelfmgkknaaGreatDoor
open Go.RowKit Go.Maps
open Go.Proofs.Tryz
set_option maxRecDepth 100000
set_option maxHeartbeats 40000000
set_option linter.unusedVariables false
set_option linter.unusedSimpArgs false
def uC(r:Rc)(n:Int):Rc:=⟨r.x0 - n,r.y0 - n,r.x1+n,r.y1+n⟩
theorem QQ(r:Rc)(n:Int)(w:World)(hr:kt r=true)(hn:0<=n/\n<=1048576):Calls prog 310 #[.agg #[.int .i64 r.x0,.int .i64 r.y0,.int .i64 r.x1,.int .i64 r.y1],.int .i64 n] w (cX (.tuple #[.agg #[.int .i64 (uC r n).x0,.int .i64 (uC r n).y0,.int .i64 (uC r n).x1,.int .i64 (uC r n).y1],.bool (kt (uC r n))]) w):=by
 have hb:0<=r.x0/\r.x0<r.x1/\r.x1<=1048576/\0<=r.y0/\r.y0<r.y1/\r.y1<=1048576:=by
  simpa[kt,and_assoc]using hr
 obtain⟨q,hq⟩:∃q,kt (uC r n)=q:=⟨_,rfl⟩;have HQ:=aa (show kt ⟨r.x0 - n,r.y0 - n,r.x1+n,r.y1+n⟩=q from hq);rw[hq];show Calls prog 310 _ w (cX (.tuple #[.agg #[.int .i64 (r.x0 - n),.int .i64 (r.y0 - n),.int .i64 (r.x1+n),.int .i64 (r.y1+n)],.bool q]) w);obtain⟨b0,b1,b2,b3,b4,b5⟩:=hb;obtain⟨n0,n1⟩:=hn;clear hr hq;go_enter func310,ntmps310;go_wp2;go_region_with ((with_reducible refine ag (bK ⟨r.x0 - n,r.y0 - n,r.x1+n,r.y1+n⟩ _) ?_);rw[HQ.zo];rintro e w' ⟨rfl,x7,rfl⟩)
 all_goals(go_wp2;refine bodyPost_ret (v:=.tuple #[.agg #[.int .i64 (r.x0 - n),.int .i64 (r.y0 - n),.int .i64 (r.x1+n),.int .i64 (r.y1+n)],.bool q]) (by simp[results,go_sem]) rfl ?_;exact⟨rfl,ae⟩)
def jN(w:World)(b:Nat)(p:Plan)(area:List Rc)(bJ:List gR):Prop:=(∃pc,LB w pc p/\∀j u,pc[j]?=some u->w.cell? ⟨b,j,none⟩=some u)/\(∃ao ac,w.cell? ⟨b,8,none⟩=some (.slice ao area.length ac)/\Sl je w ao area.length ac area)/\(∃vo vc,w.cell? ⟨b,9,none⟩=some (.slice vo bJ.length vc)/\Sl iD w vo bJ.length vc bJ)
theorem jN.exts{w w':World}{b:Nat}{p:Plan}{area:List Rc}{bJ:List gR}(h:jN w b p area bJ)(he:af w w'):jN w' b p area bJ:=by
 obtain⟨⟨pc,h1,h2⟩,⟨ao,ac,h3,h4⟩,vo,vc,h5,h6⟩:=h;exact⟨⟨pc,(bq).exts h1 he,fun j u hu=>af.cell he (h2 j u hu)⟩,⟨ao,ac,af.cell he h3,h4.exts he⟩,vo,vc,af.cell he h5,h6.exts he⟩
theorem Zr(b:Nat)(p:Plan)(area:List Rc)(bJ:List gR)(w:World)(h:jN w b p area bJ):Calls prog 165 #[.pointer (some ⟨b,0,none⟩)] w (cX (.int .i64 (nd area)) w):=by
 obtain⟨_,⟨ao,ac,c8,hs⟩,_⟩:=h;have HS:=aa hs;have lb:=bP c8;clear hs;go_enter func165,ntmps165;go_wp2_with ((with_reducible refine ag (LR _ _ _ area _ ?_) ?_);exact HS.zo.exts ae;rintro e w' ⟨rfl,x7,rfl⟩)
 go_ret;exact⟨rfl,ae⟩
def mU(area:List Rc)(r:Rc)(n:Int):Bool:=kt (uC r n)&&(sumF (ei (uC r n)) area==fO (uC r n))
theorem DR(b:Nat)(p:Plan)(area:List Rc)(bJ:List gR)(r:Rc)(n:Int)(w:World)(h:jN w b p area bJ)(ha:area.length<=200)(hr:kt r=true)(hn:0<=n/\n<=1048576):Calls prog 256 #[.pointer (some ⟨b,0,none⟩),.agg #[.int .i64 r.x0,.int .i64 r.y0,.int .i64 r.x1,.int .i64 r.y1],.int .i64 n] w (cX (.bool (mU area r n)) w):=by
 obtain⟨_,⟨ao,ac,c8,hs⟩,_⟩:=h;have HS:=aa hs;have lb:=bP c8;obtain⟨res,hres⟩:∃x,mU area r n=x:=⟨_,rfl⟩;have aD:=aa hres;have HRR:=aa hr;have HN:=aa hn;have HGR:=aa (fun w=>QQ r n w hr hn);rw[hres];clear hs hres hr;obtain⟨g,hg⟩:∃g,uC r n=g:=⟨_,rfl⟩;obtain⟨q,hq⟩:∃q,kt g=q:=⟨_,rfl⟩;have HQ:=aa hq;have rG:=aa (show mU area r n=(q&&(sumF (ei g) area==fO g))by unfold mU;rw[hg,hq]);rw[hg,hq]at HGR;clear hg hq hn;cases q with
 |false=>
  have HF:=aa (show res=false by rw[<-aD.zo,rG.zo];rfl);go_enter func256,ntmps256;go_wp2_with ((with_reducible refine ag (HGR.zo _) ?_);rintro e w' ⟨rfl,x7,rfl⟩)
  go_ret;rw[HF.zo];exact⟨rfl,ae⟩
 |true=>
  obtain⟨A,hA⟩:∃A,fO g=A:=⟨_,rfl⟩;have HA:=aa hA;have HF:=aa (show res=(sumF (ei g) area==A)by rw[<-aD.zo,rG.zo,hA];rfl);clear hA;go_enter func256,ntmps256;go_wp2_with ((with_reducible refine ag (HGR.zo _) ?_);rintro e w' ⟨rfl,x7,rfl⟩)
  refine bI ?_;intro W0 hW0;have HW0:=aa (show af w W0 by rw[hW0];exact ae);have G0:=aa (show∀w',af W0 w'->(jf 74 ⟨w.heap.size+1+x7.bs.size,0,none⟩).run prog w'=.ok (.agg #[.int .i64 g.x0,.int .i64 g.y0,.int .i64 g.x1,.int .i64 g.y1]) w' from fun w' he=>pg (cs:= [.int .i64 g.x0,.int .i64 g.y0,.int .i64 g.x1,.int .i64 g.y1]) rfl (fun j u hu=>af.cell he (by
   rw[hW0]
   match j,hu with
   |0,hu=>(cases hu;simp[go_sem])
   |1,hu=>(cases hu;simp[go_sem])
   |2,hu=>(cases hu;simp[go_sem])
   |3,hu=>(cases hu;simp[go_sem]))))
  have C0:=aa (show W0.cell? ⟨w.heap.size+1+x7.bs.size,0,none⟩=some (.int .i64 g.x0)by rw[hW0];simp[go_sem]);clear hW0;go_loopw [9,27] (fun s i wr=> ∃(k:Nat),k<=area.length/\i=.int .i64 k/\s=.int .i64 (sumF (ei g) (area.take k))/\af W0 wr) (fun _ i _=>area.length - (intOf i).toNat)
  case atStart=>exact⟨0,by omega,rfl,rfl,af.refl _⟩
  case round=>
   obtain⟨k,hk,rfl,rfl,hx⟩:=hrel;have HX:=aa hx;have c0:=af.cell hx C0.zo;have lbg:=bP c0;have hg:∀w',af wr w'->_:=fun w' he=>G0.zo w' (HX.zo.trans he)
   have hs:=tQ (ei g) 1099511627776 (by omega) (sr g) area k;by_cases hlt:k<area.length
   ·obtain⟨v,hv⟩:=HS.zo.ex hlt
    obtain⟨bb,aeT,cs,rfl,lbb,hR,QO⟩:=HS.zo.ld hv;obtain⟨rfl,_⟩:=hR;have hld:∀w',af wr w'->_:=fun w' he=>QO w' (HW0.zo.trans (HX.zo.trans he))
    have HS2:=aa (nV (ei g) hv);have hjb:(k:Int)*1099511627776<=219902325555200:=by omega
    obtain⟨M,hM⟩:∃M,sumF (ei g) (area.take k)=M:=⟨_,rfl⟩;rw[hM]at hs HS2 ⊢;obtain⟨⟨c,t⟩,QP⟩:∃q,JT g v=q:=⟨_,rfl⟩;have HRI:=aa QP;have mr:=aa (show ei g v=if t=true then fO c else 0 by unfold ei;rw[QP]);clear hv hM QP QO hx;cases t with
    |false=>
     have HE:=aa (show sumF (ei g) (area.take (k+1))=M by rw[HS2.zo,mr.zo];simp);go_wp2_with ((with_reducible refine ag (lU g v _) ?_);rw[HRI.zo];rintro e w' ⟨rfl,x9,rfl⟩)
     refine⟨⟨k+1,by omega,by go_num,by rw[HE.zo],HX.zo.trans ae⟩,?_⟩;simp[intOf];omega
    |true=>
     have hra:=nT c;obtain⟨B,hB⟩:∃B,fO c=B:=⟨_,rfl⟩;rw[hB]at hra;have HB:=aa hB;have HE:=aa (show sumF (ei g) (area.take (k+1))=M+B by rw[HS2.zo,mr.zo,<-hB];simp);clear hB;go_wp2_with (first|((with_reducible refine ag (lU g v _) ?_);rw[HRI.zo];rintro e w' ⟨rfl,x9,rfl⟩)|((with_reducible refine ag (tG c _) ?_);rw[HB.zo];rintro e w' ⟨rfl,x8,rfl⟩))
     refine⟨⟨k+1,by omega,by go_num,by rw[HE.zo];try(congr 1;go_num),HX.zo.trans ae⟩,?_⟩;simp[intOf];omega
   ·obtain rfl:area.length=k:=by omega
    rw[show area.take area.length=area from dQ (Nat.le_refl _)];obtain⟨M,hM⟩:∃M,sumF (ei g) area=M:=⟨_,rfl⟩;rw[hM]at HF ⊢;clear hx hs hM;go_wp2_with ((with_reducible refine ag (tG g _) ?_);rw[HA.zo];rintro e w' ⟨rfl,x8,rfl⟩)
    go_ret;rw[HF.zo];exact⟨rfl,HW0.zo.trans (HX.zo.trans ae)⟩
theorem A5{T:Type}(f:T->Int)(M:Int)(hM:0<=M)(l:List T)(hf:∀x∈l,0<=f x/\f x<=M):∀k:Nat,0<=sumF f (l.take k)/\sumF f (l.take k)<=(k:Int)*M
 |0=>by simp[sumF]
 |k+1=>by
  have ih:=A5 f M hM l hf k;have e1:((k+1:Nat):Int)*M=(k:Int)*M+M:=by rw[Int.natCast_add];simp[Int.add_mul]
  rw[e1];cases hk:l[k]? with
  |none=>
   have hlen:=List.getElem?_eq_none_iff.1 hk;rw[dQ (Nat.le_succ_of_le hlen),<-dQ hlen];omega
  |some d=>
   rw[nV f hk];have:=hf d (gH hk);omega
def rX{T:Type}(f:T->Int)(l:List T):Int:=(l.map f).foldl jF 0
theorem DT{T:Type}(f:T->Int){l:List T}{k:Nat}{d:T}(h:l[k]?=some d):rX f (l.take (k+1))=jF (rX f (l.take k)) (f d):=by
 unfold rX;rw[List.take_add_one,h,Option.toList_some,List.map_append,List.foldl_append];rfl
theorem Kg(fid:FuncId)(caps:Array Value)(g:gR->Int)(b:Nat)(p:Plan)(area:List Rc)(bJ:List gR)(w:World)(hcf:Enters fid)(h:jN w b p area bJ)(hl:bJ.length<=40)(hg:∀v∈bJ,0<=g v/\g v<=5497558138880000)
 (hf:∀(w':World)(i:Nat)(d:gR)(cs:zv),af w w'->bJ[i]?=some d->(iD).R w' cs d->Calls prog fid (#[.agg cs.toArray]++caps) w' (cX (.int .i64 (g d)) w')):
 Calls prog 250 #[.pointer (some ⟨b,0,none⟩),.func (.func fid) #[] caps] w (cX (.int .i64 (sumF g bJ)) w):=by
 obtain⟨_,_,vo,vc,c9,hs⟩:=h;have H:=aa hs;have HF:=aa hf;have HG:=aa hg;have lbb:=bP c9;unfold Enters at hcf;clear hs hf hg;go_enter func250,ntmps250;go_wp2;go_loopw [5,13] (fun s i wr=> ∃(k:Nat),k<=bJ.length/\i=.int .i64 k/\s=.int .i64 (sumF g (bJ.take k))/\af w wr) (fun _ i _=>bJ.length - (intOf i).toNat)
 case atStart=>exact⟨0,by omega,rfl,rfl,ae⟩
 case round=>
  obtain⟨k,hk,rfl,rfl,⟨y,rfl⟩⟩:=hrel;have hs:=A5 g 5497558138880000 (by omega) bJ HG.zo k;by_cases hlt:k<bJ.length
  ·obtain⟨d,hd⟩:=H.zo.ex hlt
   obtain⟨bb,off,cs,rfl,lb,hR,hld⟩:=H.zo.ld hd;have HD:=aa hd;have HR:=aa (show(iD).R w cs d from hR);obtain⟨rfl,_⟩:=hR;have HS2:=aa (nV g hd);have hgd:=HG.zo d (gH hd);have hkb:(k:Int)*5497558138880000<=219902325555200000:=by omega
   obtain⟨M,hM⟩:∃M,sumF g (bJ.take k)=M:=⟨_,rfl⟩;rw[hM]at hs HS2 ⊢;obtain⟨r,hr⟩:∃r,g d=r:=⟨_,rfl⟩;have HP:=aa hr;rw[hr]at hgd HS2;clear hd hr hM;go_wp2_with ((with_reducible refine ag (HF.zo _ k d _ ae HD.zo ((iD).exts HR.zo ae)) ?_);rintro e w' ⟨rfl,x9,rfl⟩;rw[HP.zo])
   refine⟨⟨k+1,by omega,by go_num,by rw[HS2.zo],ae⟩,?_⟩;simp[intOf];omega
  ·obtain rfl:bJ.length=k:=by omega
   rw[show bJ.take bJ.length=bJ from dQ (Nat.le_refl _)];go_wp2;go_ret;exact⟨rfl,ae⟩
theorem yI(fid:FuncId)(caps:Array Value)(g:gR->Int)(b:Nat)(p:Plan)(area:List Rc)(bJ:List gR)(w:World)(hcf:Enters fid)(h:jN w b p area bJ)
 (hf:∀(w':World)(i:Nat)(d:gR)(cs:zv),af w w'->bJ[i]?=some d->(iD).R w' cs d->Calls prog fid (#[.agg cs.toArray]++caps) w' (cX (.int .i64 (g d)) w')):
 Calls prog 252 #[.pointer (some ⟨b,0,none⟩),.func (.func fid) #[] caps] w (cX (.int .i64 (rX g bJ)) w):=by
 obtain⟨_,_,vo,vc,c9,hs⟩:=h;have H:=aa hs;have hm:=hs.nle;unfold maxLen at hm;have HF:=aa hf;have lbb:=bP c9;unfold Enters at hcf;clear hs hf;go_enter func252,ntmps252;go_wp2;go_loopw [5,13] (fun s i wr=> ∃(k:Nat),k<=bJ.length/\i=.int .i64 k/\s=.int .i64 (rX g (bJ.take k))/\af w wr) (fun _ i _=>bJ.length - (intOf i).toNat)
 case atStart=>exact⟨0,by omega,rfl,rfl,ae⟩
 case round=>
  obtain⟨k,hk,rfl,rfl,⟨y,rfl⟩⟩:=hrel;by_cases hlt:k<bJ.length
  ·obtain⟨d,hd⟩:=H.zo.ex hlt
   obtain⟨bb,off,cs,rfl,lb,hR,hld⟩:=H.zo.ld hd;have HD:=aa hd;have HR:=aa (show(iD).R w cs d from hR);obtain⟨rfl,_⟩:=hR;have HS2:=aa (DT g hd);obtain⟨M,hM⟩:∃M,rX g (bJ.take k)=M:=⟨_,rfl⟩;rw[hM]at HS2 ⊢;obtain⟨r,hr⟩:∃r,g d=r:=⟨_,rfl⟩;have HP:=aa hr;rw[hr]at HS2;clear hd hr hM;go_wp2_with ((with_reducible refine ag (HF.zo _ k d _ ae HD.zo ((iD).exts HR.zo ae)) ?_);rintro e w' ⟨rfl,x9,rfl⟩;rw[HP.zo])
   refine⟨⟨k+1,by omega,by go_num,by rw[HS2.zo],ae⟩,?_⟩;simp[intOf];omega
  ·obtain rfl:bJ.length=k:=by omega
   rw[show bJ.take bJ.length=bJ from dQ (Nat.le_refl _)];go_wp2;go_ret;exact⟨rfl,ae⟩
theorem Ns:Enters 251:=fun a w=>by rfl
theorem Nt:Enters 253:=fun a w=>by rfl
theorem Nu:Enters 254:=fun a w=>by rfl
theorem Nv:Enters 255:=fun a w=>by rfl
theorem acz(v:gR)(cs:zv)(w:World)(h:(iD).R w cs v):Calls prog 254 (#[.agg cs.toArray]++ #[]) w (cX (.int .i64 v.z1) w):=by
 obtain⟨rfl,_⟩:=h;show Calls prog 254 #[.agg #[.int .i64 v.base.x0,.int .i64 v.base.y0,.int .i64 v.base.x1,.int .i64 v.base.y1,.int .i64 v.z0,.int .i64 v.z1,.int .i64 v.use,.int .i64 v.units,.bool v.extra]] w _;go_enter func254,ntmps254;go_wp2;go_ret;exact⟨rfl,ae⟩
theorem acA(v:gR)(cs:zv)(w:World)(h:(iD).R w cs v):Calls prog 255 (#[.agg cs.toArray]++ #[]) w (cX (.int .i64 v.units) w):=by
 obtain⟨rfl,_⟩:=h;show Calls prog 255 #[.agg #[.int .i64 v.base.x0,.int .i64 v.base.y0,.int .i64 v.base.x1,.int .i64 v.base.y1,.int .i64 v.z0,.int .i64 v.z1,.int .i64 v.use,.int .i64 v.units,.bool v.extra]] w _;go_enter func255,ntmps255;go_wp2;go_ret;exact⟨rfl,ae⟩
theorem acB(v:gR)(cs:zv)(w:World)(h:(iD).R w cs v):Calls prog 251 (#[.agg cs.toArray]++ #[]) w (cX (.int .i64 (jl v)) w):=by
 obtain⟨rfl,_⟩:=h;exact Hk v w
theorem acC(v:gR)(cs:zv)(w:World)(h:(iD).R w cs v):Calls prog 253 (#[.agg cs.toArray]++ #[]) w (cX (.int .i64 (fM v)) w):=by
 obtain⟨rfl,_⟩:=h;exact AW v w
theorem tS(v:gR):0<=jl v/\jl v<=5497558138880000:=by
 have:=DJ v;unfold jl;split
 ·exact this
 ·omega
theorem QR(b:Nat)(p:Plan)(area:List Rc)(bJ:List gR)(w:World)(h:jN w b p area bJ)(hl:bJ.length<=40):Calls prog 167 #[.pointer (some ⟨b,0,none⟩)] w (cX (.int .i64 (sumF jl bJ)) w):=by
 have H:=aa h;clear h;go_enter func167,ntmps167;go_wp2_with ((with_reducible refine ag (Kg 251 #[] jl b p area bJ _ Ns ?_ hl (fun v _=>tS v) ?_) ?_);exact H.zo.exts ae;exact fun w' i d cs _ _ hR=>acB d cs w' hR;rintro e w' ⟨rfl,x7,rfl⟩)
 go_ret;exact⟨rfl,ae⟩
theorem QS(b:Nat)(p:Plan)(area:List Rc)(bJ:List gR)(w:World)(h:jN w b p area bJ)(hl:bJ.length<=40)(hu:∀v∈bJ,0<=v.units/\v.units<=5497558138880000):Calls prog 170 #[.pointer (some ⟨b,0,none⟩)] w (cX (.int .i64 (sumF gR.units bJ)) w):=by
 have H:=aa h;have HU:=aa hu;clear h hu;go_enter func170,ntmps170;go_wp2_with ((with_reducible refine ag (Kg 255 #[] gR.units b p area bJ _ Nv ?_ hl HU.zo ?_) ?_);exact H.zo.exts ae;exact fun w' i d cs _ _ hR=>acA d cs w' hR;rintro e w' ⟨rfl,x7,rfl⟩)
 go_ret;exact⟨rfl,ae⟩
theorem Nw(b:Nat)(p:Plan)(area:List Rc)(bJ:List gR)(w:World)(h:jN w b p area bJ):Calls prog 168 #[.pointer (some ⟨b,0,none⟩)] w (cX (.int .i64 (rX fM bJ)) w):=by
 have H:=aa h;clear h;go_enter func168,ntmps168;go_wp2_with ((with_reducible refine ag (yI 253 #[] fM b p area bJ _ Nt ?_ ?_) ?_);exact H.zo.exts ae;exact fun w' i d cs _ _ hR=>acC d cs w' hR;rintro e w' ⟨rfl,x7,rfl⟩)
 go_ret;exact⟨rfl,ae⟩
theorem Nx(b:Nat)(p:Plan)(area:List Rc)(bJ:List gR)(w:World)(h:jN w b p area bJ):Calls prog 169 #[.pointer (some ⟨b,0,none⟩)] w (cX (.int .i64 (rX gR.z1 bJ)) w):=by
 have H:=aa h;clear h;go_enter func169,ntmps169;go_wp2_with ((with_reducible refine ag (yI 254 #[] gR.z1 b p area bJ _ Nu ?_ ?_) ?_);exact H.zo.exts ae;exact fun w' i d cs _ _ hR=>acz d cs w' hR;rintro e w' ⟨rfl,x7,rfl⟩)
 go_ret;exact⟨rfl,ae⟩
def su(f:Int->Bool)(lo hi:Int):Int:=
 if lo<hi then(if f ((lo+hi+1) / 2)=true then su f ((lo+hi+1) / 2) hi else su f lo ((lo+hi+1) / 2 - 1))else lo
 termination_by (hi - lo).toNat
 decreasing_by all_goals omega
theorem EL(f:Int->Bool)(lo hi:Int)(h:lo<=hi):lo<=su f lo hi/\su f lo hi<=hi:=by
 rw[su];split
 ·split
  ·have:=EL f ((lo+hi+1) / 2) hi (by omega)
   omega
  ·have:=EL f lo ((lo+hi+1) / 2 - 1) (by omega)
   omega
 ·omega
 termination_by (hi - lo).toNat
 decreasing_by all_goals omega
theorem VH{f:Int->Bool}{lo hi m:Int}(h:lo<hi)(hm:(lo+hi+1) / 2=m)(hf:f m=true):su f lo hi=su f m hi:=by
 subst hm;conv=>lhs;rw[su]
 rw[if_pos h,if_pos hf]
theorem VI{f:Int->Bool}{lo hi m:Int}(h:lo<hi)(hm:(lo+hi+1) / 2=m)(hf:f m=false):su f lo hi=su f lo (m - 1):=by
 subst hm;conv=>lhs;rw[su]
 rw[if_pos h,if_neg (by rw[hf];simp)]
theorem QT{f:Int->Bool}{lo hi:Int}(h: ¬lo<hi):su f lo hi=lo:=by
 rw[su,if_neg h]
def pC(area:List Rc)(bJ:List gR):Int:=bJ.foldl (fun best v=>su (mU area v.base) 0 best) 1048576
theorem A6{area:List Rc}{l:List gR}{k:Nat}{d:gR}(h:l[k]?=some d):pC area (l.take (k+1))=su (mU area d.base) 0 (pC area (l.take k)):=by
 unfold pC;rw[List.take_add_one,h,Option.toList_some,List.foldl_append];rfl
theorem A7(area:List Rc)(l:List gR):∀k:Nat,0<=pC area (l.take k)/\pC area (l.take k)<=1048576
 |0=>by simp[pC]
 |k+1=>by
  have ih:=A7 area l k;cases hk:l[k]? with
  |none=>
   have hlen:=List.getElem?_eq_none_iff.1 hk;rw[dQ (Nat.le_succ_of_le hlen),<-dQ hlen];exact ih
  |some d=>
   rw[A6 hk];have:=EL (mU area d.base) 0 (pC area (l.take k)) ih.1;omega
theorem Kh(b:Nat)(p:Plan)(area:List Rc)(bJ:List gR)(w:World)(h:jN w b p area bJ)(ha:area.length<=200)(hv:∀v∈bJ,kt v.base=true):Calls prog 171 #[.pointer (some ⟨b,0,none⟩)] w (cX (.int .i64 (pC area bJ)) w):=by
 have UB:=aa h;obtain⟨_,_,vo,vc,c9,hs⟩:=h;have H:=aa hs;have hm:=hs.nle;unfold maxLen at hm;have HV:=aa hv;have lbb:=bP c9;clear hs hv;go_enter func171,ntmps171;go_wp2;go_loopw [3,14] (fun s i wr=> ∃(k:Nat),k<=bJ.length/\i=.int .i64 k/\s=.int .i64 (pC area (bJ.take k))/\af w wr) (fun _ i _=>bJ.length - (intOf i).toNat)
 case atStart=>exact⟨0,by omega,rfl,rfl,ae⟩
 case round=>
  obtain⟨k,hk,rfl,rfl,⟨y,rfl⟩⟩:=hrel;obtain⟨b0,b1⟩:=A7 area bJ k;by_cases hlt:k<bJ.length
  ·obtain⟨d,hd⟩:=H.zo.ex hlt
   obtain⟨bb,off,cs,rfl,lb,hR,hld⟩:=H.zo.ld hd;obtain⟨rfl,_⟩:=hR;have HS2:=aa (A6 (area:=area) hd);have XZ:=aa (HV.zo d (gH hd));obtain⟨M,hM⟩:∃M,pC area (bJ.take k)=M:=⟨_,rfl⟩;rw[hM]at b0 b1 HS2 ⊢;clear hd hM;go_wp2;refine bI ?_;intro W0 hW0;have HW0:=aa (show af w W0 by rw[hW0];exact ae);have C0:=aa (show W0.cell? ⟨w.heap.size+y.bs.size,0,none⟩=some (.int .i64 d.base.x0)by rw[hW0];simp[go_sem]);have C1:=aa (show W0.cell? ⟨w.heap.size+y.bs.size,1,none⟩=some (.int .i64 d.base.y0)by rw[hW0];simp[go_sem]);have C2:=aa (show W0.cell? ⟨w.heap.size+y.bs.size,2,none⟩=some (.int .i64 d.base.x1)by rw[hW0];simp[go_sem]);have C3:=aa (show W0.cell? ⟨w.heap.size+y.bs.size,3,none⟩=some (.int .i64 d.base.y1)by rw[hW0];simp[go_sem]);have G0:=aa (show∀w',af W0 w'->(jf 74 ⟨w.heap.size+y.bs.size,0,none⟩).run prog w'=.ok (.agg #[.int .i64 d.base.x0,.int .i64 d.base.y0,.int .i64 d.base.x1,.int .i64 d.base.y1]) w' from fun w' he=>pg (cs:= [.int .i64 d.base.x0,.int .i64 d.base.y0,.int .i64 d.base.x1,.int .i64 d.base.y1]) rfl (fun j u hu=>af.cell he (by
    match j,hu with
    |0,hu=>(cases hu;exact C0.zo)
    |1,hu=>(cases hu;exact C1.zo)
    |2,hu=>(cases hu;exact C2.zo)
    |3,hu=>(cases hu;exact C3.zo))))
   clear hW0;go_loopw [6,7] (fun a c w2=> ∃(lo hi:Int),a=.int .i64 lo/\c=.int .i64 hi/\0<=lo/\lo<=hi/\hi<=1048576/\su (mU area d.base) lo hi=su (mU area d.base) 0 M/\af W0 w2) (fun a c _=>(intOf c - intOf a).toNat)
   case atStart=>exact⟨0,M,rfl,rfl,by omega,by omega,by omega,rfl,af.refl _⟩
   case round=>
    obtain⟨lo,hi,rfl,rfl,l0,l1,l2,hbs,hx⟩:=hrel;have HX:=aa hx;have HBS:=aa hbs;have c0:=af.cell hx C0.zo;have lbg:=bP c0;have hg:∀w',af wr w'->_:=fun w' he=>G0.zo w' (HX.zo.trans he)
    clear hbs hx;by_cases hlh:lo<hi
    ·have q0:decide (lo<hi)=true:=zdt hlh
     have ht:(lo+hi+1).tdiv 2=(lo+hi+1) / 2:=Int.tdiv_eq_ediv_of_nonneg (by omega);obtain⟨m,hm⟩:∃m,(lo+hi+1) / 2=m:=⟨_,rfl⟩;rw[hm]at ht;have HM:=aa hm;have m0:lo<m:=by omega
     have m1:m<=hi:=by omega
     obtain⟨q,hq⟩:∃q,mU area d.base m=q:=⟨_,rfl⟩;have HQ:=aa hq;clear hq hm;cases q with
     |true=>
      go_wp2_with ((with_reducible refine ag (DR b p area bJ d.base m _ ?_ ha XZ.zo ?_) ?_);exact UB.zo.exts (HW0.zo.trans (HX.zo.trans ae));omega;rw[HQ.zo];rintro e w' ⟨rfl,x7,rfl⟩)
      refine⟨⟨m,hi,rfl,rfl,by omega,by omega,by omega,by rw[<-HBS.zo];exact(VH hlh HM.zo HQ.zo).symm,HX.zo.trans ae⟩,?_⟩;simp[intOf];omega
     |false=>
      go_wp2_with ((with_reducible refine ag (DR b p area bJ d.base m _ ?_ ha XZ.zo ?_) ?_);exact UB.zo.exts (HW0.zo.trans (HX.zo.trans ae));omega;rw[HQ.zo];rintro e w' ⟨rfl,x7,rfl⟩)
      refine⟨⟨lo,m - 1,rfl,rfl,by omega,by omega,by omega,by rw[<-HBS.zo];exact(VI hlh HM.zo HQ.zo).symm,HX.zo.trans ae⟩,?_⟩;simp[intOf];omega
    ·have q0:decide (lo<hi)=false:=jE hlh
     have HE:=aa (show pC area (bJ.take (k+1))=lo by rw[HS2.zo,<-HBS.zo];exact QT hlh);go_wp2;refine⟨⟨k+1,by omega,by go_num,by rw[HE.zo],HW0.zo.trans (HX.zo.trans ae)⟩,?_⟩;simp[intOf];omega
  ·obtain rfl:bJ.length=k:=by omega
   rw[show bJ.take bJ.length=bJ from dQ (Nat.le_refl _)];go_wp2;go_ret;exact⟨rfl,ae⟩
instance aev:iq 432 6:=⟨⟨_,underlying432,rfl⟩,by kernel_rfl⟩
theorem VJ{T:Type}{p:T->Bool}{l:List T}{k:Nat}{d:T}(hd:l[k]?=some d)(hp:p d=true)(h:∀(j:Nat)(x:T),j<k->l[j]?=some x->p x=false):l.find? p=some d:=by
 obtain⟨hk,e⟩:=bw hd;rw[List.find?_eq_some_iff_getElem];exact⟨hp,k,hk,e,fun j hj=>by rw[h j _ hj (fZ (by omega))];rfl⟩
theorem VK{T:Type}{p:T->Bool}{l:List T}(h:∀(j:Nat)(x:T),j<l.length->l[j]?=some x->p x=false):l.find? p=none:=by
 rw[List.find?_eq_none];intro x hx;obtain⟨j,hj⟩:=List.getElem?_of_mem hx;rw[h j x (bw hj).1 hj];simp
def qj:ByteArray:=⟨#[116,114,97,102,102,105,99]⟩
theorem uD:qj.toList= [116,114,97,102,102,105,99]:=by
 first
  |(unfold qj;simp[go_sem];done)
  |decide
  |kernel_rfl
theorem X0(d:Entry)(nm:ByteArray)(u bn bu:Nat)(cs:zv)(w:World)(h:(eY).R w cs d)(c0:w.cell? ⟨bu,0,none⟩=some (.int .i64 u))(c1:w.cell? ⟨bn,u,none⟩=some (.string nm))(hu:u<6):Calls prog 340 (#[.agg cs.toArray]++ #[.pointer (some ⟨bn,0,none⟩),.pointer (some ⟨bu,0,none⟩)]) w (cX (.bool (d.name.toList==nm.toList)) w):=by
 obtain⟨rfl,_⟩:=h;have lb:=bP c0;have lb1:=bP c1;show Calls prog 340 #[.agg #[.string d.name,.int .i64 d.n],.pointer (some ⟨bn,0,none⟩),.pointer (some ⟨bu,0,none⟩)] w _;go_enter func340,ntmps340;go_wp2;refine bI ?_;intro W0 hW0;have HW0:=aa (show af w W0 by rw[hW0];exact ae);have d0:W0.cell? ⟨bu,0,none⟩=some (.int .i64 u):=af.cell HW0.zo c0;have d1:W0.cell? ⟨bn,u,none⟩=some (.string nm):=af.cell HW0.zo c1;have d2:W0.cell? ⟨w.heap.size,0,none⟩=some (.string d.name):=by rw[hW0];simp[go_sem]
 have e0:=bP d0;have e1:=bP d1;have e2:=bP d2;clear hW0 c0 c1 lb lb1;first|refine eK ?_|refine eJ ?_
 repeat (go_big_quiet_step (fail))
 refine eM fun xq=> ?_
 go_wp2;go_ret;exact⟨rfl,HW0.zo.trans ae⟩
theorem DU:Enters 340:=fun a w=>by rfl
def nK:Nat->ByteArray
 |0=>⟨#[104,111,109,101]⟩
 |1=>⟨#[115,104,111,112]⟩
 |2=>⟨#[119,111,114,107]⟩
 |3=>⟨#[112,97,114,107]⟩
 |4=>⟨#[112,108,97,110,116]⟩
 |_=>⟨#[104,97,108,108]⟩
def mz(p:Plan)(u:Nat):Int:=
 match p.tables.find? (fun t=>t.name.toList==qj.toList)with
 |none=>0
 |some t=>jF 0 (ou (match t.rows.find? (fun r=>r.name.toList==(nK u).toList)with|some r=>r.n|none=>t.els) 1048576)
theorem Zs(p:Plan)(u:Nat)(hu:u<6)(cs:zv)(w:World)(h:(bq).R w cs p):Calls prog 311 #[.agg cs.toArray,.int .i64 u] w (cX (.int .i64 (mz p u)) w):=by
 obtain⟨o1,c1,o2,c2,o3,c3,o4,c4,o5,c5,o6,c6,o7,c7,rfl,q1,q2,q3⟩:=h;have HT:=aa q2;have hnt:=q2.nle;unfold maxLen at hnt;obtain⟨res,hres⟩:∃x,mz p u=x:=⟨_,rfl⟩;have aD:=aa hres;rw[hres];clear q1 q2 q3 hres;go_enter func311,ntmps311;go_wp2;refine bI ?_;intro W0 hW0;have HW0:=aa (show af w W0 by rw[hW0];exact ae);have U0:=aa (show W0.cell? ⟨w.heap.size+1,0,none⟩=some (.int .i64 u)by rw[hW0];simp[go_sem]);have N0:=aa (show W0.cell? ⟨w.heap.size+1+1,u,none⟩=some (.string (nK u))by
  rw[hW0]
  match u,hu with
  |0,_=>simp[go_sem,nK]
  |1,_=>simp[go_sem,nK]
  |2,_=>simp[go_sem,nK]
  |3,_=>simp[go_sem,nK]
  |4,_=>simp[go_sem,nK]
  |5,_=>simp[go_sem,nK])
 obtain⟨nm,hnm⟩:∃x,nK u=x:=⟨_,rfl⟩;have EM:=aa hnm;rw[hnm]at N0;clear hW0 hnm;go_loopw [14] (fun i wr=> ∃(k:Nat),k<=p.tables.length/\i=.int .i64 k/\af W0 wr/\∀(j:Nat)(x:xz),j<k->p.tables[j]?=some x->(x.name.toList==qj.toList)=false) (fun i _=>p.tables.length - (intOf i).toNat)
 case atStart=>exact⟨0,by omega,rfl,af.refl _,fun j x hj=>by omega⟩
 case round=>
  obtain⟨k,hk,rfl,hx,hall⟩:=hrel;have HX:=aa hx;have ey:=aa hall;have v0:=af.cell hx U0.zo;have lbu:=bP v0;clear hx hall;by_cases hlt:k<p.tables.length
  ·obtain⟨t,ht⟩:=HT.zo.ex hlt
   obtain⟨bt,off,cst,hao,acp,hR,cZ⟩:=HT.zo.ld ht;subst hao;obtain⟨ro,rc,rfl,qs,qr,qe⟩:=hR;have hld:∀w',af wr w'->_:=fun w' he=>cZ w' (HW0.zo.trans (HX.zo.trans he))
   have HRW:=aa qr;have hnr:=qr.nle;unfold maxLen at hnr;have HTT:=aa ht;cases q:(t.name.toList==qj.toList)with
   |false=>
    have HQ:=aa q;have q1:(t.name.toList== [116,114,97,102,102,105,99])=false:=by rw[<-uD];exact q
    clear ht cZ qs qr qe q;go_wp2;refine⟨⟨k+1,by omega,by go_num,HX.zo.trans ae,fun j x hj hx=> ?_⟩,?_⟩
    ·rcases Nat.lt_or_ge j k with h1|h1
     ·exact ey.zo j x h1 hx
     ·obtain rfl:j=k:=by omega
      have e:=HTT.zo;rw[hx]at e;cases e;exact HQ.zo
    ·simp[intOf];omega
   |true=>
    have HFT:=aa (VJ (p:=fun t:xz=>t.name.toList==qj.toList) ht q ey.zo);have q1:(t.name.toList== [116,114,97,102,102,105,99])=true:=by rw[<-uD];exact q
    rcases oq (fun r:Entry=>r.name.toList==nm.toList) t.rows with⟨i2,f2⟩|⟨k2,r,i2,hr,f2⟩
    ·have HF:=aa (show res=jF 0 (ou t.els 1048576)by rw[<-aD.zo];unfold mz;rw[HFT.zo,EM.zo];simp only;rw[f2])
     have I2:=aa i2;clear ht cZ qs qr qe q f2 i2;go_wp2_with ((with_reducible refine ag (vZ 340 #[.pointer (some ⟨w.heap.size+1+1,0,none⟩),.pointer (some ⟨w.heap.size+1,0,none⟩)] (fun r:Entry=>r.name.toList==nm.toList) _ _ _ t.rows _ DU ?_ ?_) ?_);exact HRW.zo.exts (HW0.zo.trans (HX.zo.trans ae));exact(fun w' i d cs' hx _ hR=>X0 d nm u _ _ cs' w' hR (af.cell (af.trans (HX.zo.trans ae) hx) U0.zo) (af.cell (af.trans (HX.zo.trans ae) hx) N0.zo) hu);rw[I2.zo];rintro z w' ⟨rfl,x8,rfl⟩)
     go_ret;rw[HF.zo];exact⟨rfl,HW0.zo.trans (HX.zo.trans ae)⟩
    ·have HF:=aa (show res=jF 0 (ou r.n 1048576)by rw[<-aD.zo];unfold mz;rw[HFT.zo,EM.zo];simp only;rw[f2])
     obtain⟨br,Vg,hro,Y9,aeU,acD,_,_⟩:=xy HRW.zo hr;subst hro;have c1r:=af.cell (HW0.zo.trans HX.zo) acD;have lbr:=bP c1r;have kb2:k2<t.rows.length:=(bw hr).1;have I2:=aa i2;clear ht cZ qs qr qe q f2 i2 hr aeU acD Y9;go_wp2_with ((with_reducible refine ag (vZ 340 #[.pointer (some ⟨w.heap.size+1+1,0,none⟩),.pointer (some ⟨w.heap.size+1,0,none⟩)] (fun r:Entry=>r.name.toList==nm.toList) _ _ _ t.rows _ DU ?_ ?_) ?_);exact HRW.zo.exts (HW0.zo.trans (HX.zo.trans ae));exact(fun w' i d cs' hx _ hR=>X0 d nm u _ _ cs' w' hR (af.cell (af.trans (HX.zo.trans ae) hx) U0.zo) (af.cell (af.trans (HX.zo.trans ae) hx) N0.zo) hu);rw[I2.zo];rintro z w' ⟨rfl,x8,rfl⟩)
     go_ret;rw[HF.zo];exact⟨rfl,HW0.zo.trans (HX.zo.trans ae)⟩
  ·obtain rfl:p.tables.length=k:=by omega
   have HF:=aa (show res=0 by rw[<-aD.zo];unfold mz;rw[VK ey.zo]);go_wp2;go_ret;rw[HF.zo];exact⟨rfl,HW0.zo.trans (HX.zo.trans ae)⟩
theorem Hm(p:Plan)(u:Nat):0<=mz p u/\mz p u<=1048576:=by
 unfold mz;split
 ·omega
 ·unfold jF ou
  omega
def DV(p:Plan)(v:gR):Int:=if 0<mz p v.use.toNat/\(109951162777600:Int).tdiv (mz p v.use.toNat)<jl v then 1099511627776 else(mz p v.use.toNat*jl v+99).tdiv 100
theorem acE{p:Plan}{u:Nat}{x:Int}(hx:mz p u=x)(hu:u<6)(cs:zv)(w:World)(h:(bq).R w cs p):Calls prog 311 #[.agg cs.toArray,.int .i64 u] w (cX (.int .i64 x) w):=by
 rw[<-hx];exact Zs p u hu cs w h
theorem VL{v:gR}{x:Int}(hx:jl v=x)(w:World):Calls prog 251 #[.agg #[.int .i64 v.base.x0,.int .i64 v.base.y0,.int .i64 v.base.x1,.int .i64 v.base.y1,.int .i64 v.z0,.int .i64 v.z1,.int .i64 v.use,.int .i64 v.units,.bool v.extra]] w (cX (.int .i64 x) w):=by
 rw[<-hx];exact Hk v w
theorem Ki(p:Plan)(v:gR)(cs:zv)(w:World)(hv:iE v=true)(h:(bq).R w cs p):Calls prog 258 #[.agg cs.toArray,.agg #[.int .i64 v.base.x0,.int .i64 v.base.y0,.int .i64 v.base.x1,.int .i64 v.base.y1,.int .i64 v.z0,.int .i64 v.z1,.int .i64 v.use,.int .i64 v.units,.bool v.extra]] w (cX (.int .i64 (DV p v)) w):=by
 have HP:=aa h;obtain⟨o1,c1,o2,c2,o3,c3,o4,c4,o5,c5,o6,c6,o7,c7,rfl,q1⟩:=h;obtain⟨u,hu⟩:∃u:Nat,v.use=(u:Int):=⟨v.use.toNat,by have:=mS hv;omega⟩;have hu6:u<6:=by have:=mS hv;omega
 have HT:=aa (show DV p v=if 0<mz p u/\(109951162777600:Int).tdiv (mz p u)<jl v then 1099511627776 else(mz p u*jl v+99).tdiv 100 by unfold DV;rw[hu];simp);obtain⟨res,hres⟩:∃x,DV p v=x:=⟨_,rfl⟩;rw[hres]at HT ⊢;obtain⟨r0,r1⟩:=Hm p u;obtain⟨f0,f1⟩:=tS v;obtain⟨vb,z0,z1,us,un,ex⟩:=v;dsimp only at hu ⊢
 subst hu;obtain⟨r,hr⟩:∃x,mz p u=x:=⟨_,rfl⟩;obtain⟨f,hf⟩:∃x,jl ⟨vb,z0,z1,(u:Int),un,ex⟩=x:=⟨_,rfl⟩;have HR:=aa hr;have GD:=aa hf;rw[hr]at r0 r1 HT;rw[hf]at f0 f1 HT;clear q1 hres hr hf hv;go_enter func258,ntmps258;go_wp2;refine bI ?_;intro W0 hW0;have HW0:=aa (show af w W0 by rw[hW0];exact ae);have hl1:∀w',af W0 w'->(jf 30 ⟨w.heap.size,0,none⟩).run prog w'=.ok (.agg #[.slice o1 p.defs.length c1,.slice o2 p.tables.length c2,.slice o3 p.zones.length c3,.slice o4 p.rules.length c4,.slice o5 p.caps.length c5,.slice o6 p.views.length c6,.slice o7 p.eA.length c7,.int .i64 p.hours]) w':=fun w' he=>yz (cs:= [.slice o1 p.defs.length c1,.slice o2 p.tables.length c2,.slice o3 p.zones.length c3,.slice o4 p.rules.length c4,.slice o5 p.caps.length c5,.slice o6 p.views.length c6,.slice o7 p.eA.length c7,.int .i64 p.hours]) rfl (fun j u hu=>af.cell he (by
  rw[hW0]
  match j,hu with
  |0,hu=>(cases hu;simp[go_sem])
  |1,hu=>(cases hu;simp[go_sem])
  |2,hu=>(cases hu;simp[go_sem])
  |3,hu=>(cases hu;simp[go_sem])
  |4,hu=>(cases hu;simp[go_sem])
  |5,hu=>(cases hu;simp[go_sem])
  |6,hu=>(cases hu;simp[go_sem])
  |7,hu=>(cases hu;simp[go_sem])))
 have hl2:∀w',af W0 w'->(jf 98 ⟨w.heap.size+1,0,none⟩).run prog w'=.ok (.agg #[.int .i64 vb.x0,.int .i64 vb.y0,.int .i64 vb.x1,.int .i64 vb.y1,.int .i64 z0,.int .i64 z1,.int .i64 (u:Int),.int .i64 un,.bool ex]) w':=fun w' he=>GM (cs:= [.int .i64 vb.x0,.int .i64 vb.y0,.int .i64 vb.x1,.int .i64 vb.y1,.int .i64 z0,.int .i64 z1,.int .i64 (u:Int),.int .i64 un,.bool ex]) rfl (fun j u hu=>af.cell he (by
  rw[hW0]
  match j,hu with
  |0,hu=>(cases hu;simp[go_sem])
  |1,hu=>(cases hu;simp[go_sem])
  |2,hu=>(cases hu;simp[go_sem])
  |3,hu=>(cases hu;simp[go_sem])
  |4,hu=>(cases hu;simp[go_sem])
  |5,hu=>(cases hu;simp[go_sem])
  |6,hu=>(cases hu;simp[go_sem])
  |7,hu=>(cases hu;simp[go_sem])
  |8,hu=>(cases hu;simp[go_sem])))
 have k6:W0.cell? ⟨w.heap.size+1,6,none⟩=some (.int .i64 (u:Int)):=by rw[hW0];simp[go_sem]
 have lbu:=bP k6;clear hW0;first|refine eK ?_|refine eJ ?_
 repeat (go_big_quiet_step (((first|(go_at_call 311;exact Calls.dJ (acE HR.zo hu6 _ _ ((bq).exts HP.zo (HW0.zo.trans ae))))|(go_at_call 251;exact Calls.dJ (VL (v:=⟨vb,z0,z1,(u:Int),un,ex⟩) GD.zo _))))))
 refine eM fun xq=> ?_
 by_cases hr0:0<r
 ·have t0:decide (0<r)=true:=zdt hr0
  have rz:(r==0)=false:=by simp;omega
  have rn:r≠0:=by omega
  obtain⟨m,hm⟩:∃m,(109951162777600:Int).tdiv r=m:=⟨_,rfl⟩;have hm2:(109951162777600:Int) / r=m:=by rw[<-hm,Int.tdiv_eq_ediv_of_nonneg (by decide)]
  have hm0:0<=m:=by rw[<-hm2];exact Int.ediv_nonneg (by decide) (by omega)
  have hm1:m<=109951162777600:=by rw[<-hm2];exact Int.ediv_le_self _ (by decide)
  have hmr:r*m<=109951162777600:=by rw[<-hm2];exact Int.mul_ediv_self_le rn
  have HM:=aa hm;rw[hm]at HT;clear hm2;cases q:decide (m<f)with
  |true=>
   have HF:=aa (show res=1099511627776 by rw[HT.zo,if_pos ⟨hr0,of_decide_eq_true q⟩]);go_wp2;go_ret;rw[HF.zo];exact⟨rfl,HW0.zo.trans ae⟩
  |false=>
   have qf:=of_decide_eq_false q;have HF:=aa (show res=(r*f+99).tdiv 100 by rw[HT.zo,if_neg (fun h=>qf h.2)]);have hrf:r*f<=109951162777600:=Int.le_trans (Int.mul_le_mul_of_nonneg_left (by omega) r0) hmr;have acF:0<=r*f:=Int.mul_nonneg r0 f0;obtain⟨x,hx⟩:∃x,r*f=x:=⟨_,rfl⟩;rw[hx]at HF hrf acF;rw[Int.tdiv_eq_ediv_of_nonneg (by omega)]at HF;have e99:x+100 - 1=x+99:=by omega
   go_wp2;go_ret;rw[HF.zo];exact⟨rfl,HW0.zo.trans ae⟩
 ·have t0:decide (0<r)=false:=jE hr0
  obtain rfl:r=0:=by omega
  have HF:=aa (show res=0 by rw[HT.zo,if_neg (fun h=>hr0 h.1)];simp);go_wp2;go_ret;rw[HF.zo];exact⟨by simp,HW0.zo.trans ae⟩
theorem QU(p:Plan)(v:gR):0<=DV p v/\DV p v<=5497558138880000:=by
 unfold DV;obtain⟨r0,r1⟩:=Hm p v.use.toNat;obtain⟨f0,f1⟩:=tS v;obtain⟨r,hr⟩:∃x,mz p v.use.toNat=x:=⟨_,rfl⟩;obtain⟨f,hf⟩:∃x,jl v=x:=⟨_,rfl⟩;rw[hr]at r0 r1 ⊢;rw[hf]at f0 f1 ⊢;by_cases hr0:0<r
 ·have rn:r≠0:=by omega
  have hmr:r*((109951162777600:Int) / r)<=109951162777600:=Int.mul_ediv_self_le rn;rw[Int.tdiv_eq_ediv_of_nonneg (by decide)];split
  ·omega
  ·rename_i h
   have h2:f<=(109951162777600:Int) / r:=by
    rcases Int.lt_or_le ((109951162777600:Int) / r) f with h3|h3
    ·exact absurd ⟨hr0,h3⟩ h
    ·exact h3
   have hrf:r*f<=109951162777600:=Int.le_trans (Int.mul_le_mul_of_nonneg_left h2 r0) hmr;have acF:0<=r*f:=Int.mul_nonneg r0 f0;rw[Int.tdiv_eq_ediv_of_nonneg (by omega)];omega
 ·obtain rfl:r=0:=by omega
  rw[if_neg (fun h=>hr0 h.1)];simp
theorem acG(b bp:Nat)(p:Plan)(area:List Rc)(bJ:List gR)(v:gR)(cs:zv)(w:World)(hv:iE v=true)(h:jN w b p area bJ)(c0:w.cell? ⟨bp,0,none⟩=some (.pointer (some ⟨b,0,none⟩)))(hR:(iD).R w cs v):Calls prog 257 (#[.agg cs.toArray]++ #[.pointer (some ⟨bp,0,none⟩)]) w (cX (.int .i64 (DV p v)) w):=by
 obtain⟨rfl,_⟩:=hR;obtain⟨⟨pc,hp,hc⟩,_,_⟩:=h;have HP:=aa hp;have HC:=aa hc;obtain⟨o1,c1,o2,c2,o3,c3,o4,c4,o5,c5,o6,c6,o7,c7,rfl,q1⟩:=hp;have lb:=bP c0;have b0:=hc 0 _ rfl;show Calls prog 257 #[.agg #[.int .i64 v.base.x0,.int .i64 v.base.y0,.int .i64 v.base.x1,.int .i64 v.base.y1,.int .i64 v.z0,.int .i64 v.z1,.int .i64 v.use,.int .i64 v.units,.bool v.extra],.pointer (some ⟨bp,0,none⟩)] w _;have HT:=aa (fun w' he=>Ki p v _ w' hv ((bq).exts HP.zo he));obtain⟨res,hres⟩:∃x,DV p v=x:=⟨_,rfl⟩;rw[hres]at HT ⊢;clear q1 hc hres;go_enter func257,ntmps257;go_wp2;refine bI ?_;intro W0 hW0;have HW0:=aa (show af w W0 by rw[hW0];exact ae);have hl1:∀w',af W0 w'->(jf 30 ⟨b,0,none⟩).run prog w'=.ok (.agg #[.slice o1 p.defs.length c1,.slice o2 p.tables.length c2,.slice o3 p.zones.length c3,.slice o4 p.rules.length c4,.slice o5 p.caps.length c5,.slice o6 p.views.length c6,.slice o7 p.eA.length c7,.int .i64 p.hours]) w':=fun w' he=>yz (cs:= [.slice o1 p.defs.length c1,.slice o2 p.tables.length c2,.slice o3 p.zones.length c3,.slice o4 p.rules.length c4,.slice o5 p.caps.length c5,.slice o6 p.views.length c6,.slice o7 p.eA.length c7,.int .i64 p.hours]) rfl (fun j u hu=>af.cell he (af.cell HW0.zo (by rw[Nat.zero_add];exact HC.zo j u hu)))
 have hl2:∀w',af W0 w'->(jf 98 ⟨w.heap.size,0,none⟩).run prog w'=.ok (.agg #[.int .i64 v.base.x0,.int .i64 v.base.y0,.int .i64 v.base.x1,.int .i64 v.base.y1,.int .i64 v.z0,.int .i64 v.z1,.int .i64 v.use,.int .i64 v.units,.bool v.extra]) w':=fun w' he=>GM (cs:= [.int .i64 v.base.x0,.int .i64 v.base.y0,.int .i64 v.base.x1,.int .i64 v.base.y1,.int .i64 v.z0,.int .i64 v.z1,.int .i64 v.use,.int .i64 v.units,.bool v.extra]) rfl (fun j u hu=>af.cell he (by
  rw[hW0]
  match j,hu with
  |0,hu=>(cases hu;simp[go_sem])
  |1,hu=>(cases hu;simp[go_sem])
  |2,hu=>(cases hu;simp[go_sem])
  |3,hu=>(cases hu;simp[go_sem])
  |4,hu=>(cases hu;simp[go_sem])
  |5,hu=>(cases hu;simp[go_sem])
  |6,hu=>(cases hu;simp[go_sem])
  |7,hu=>(cases hu;simp[go_sem])
  |8,hu=>(cases hu;simp[go_sem])))
 have d0:W0.cell? ⟨bp,0,none⟩=some (.pointer (some ⟨b,0,none⟩)):=af.cell HW0.zo c0;have d1:=af.cell HW0.zo b0;have e0:=bP d0;have e1:=bP d1;clear hW0 c0 b0 lb;first|refine eK ?_|refine eJ ?_
 repeat (go_big_quiet_step (((go_at_call 258;exact Calls.dJ (HT.zo _ (HW0.zo.trans ae))))))
 refine eM fun xq=> ?_
 go_wp2;go_ret;exact⟨rfl,HW0.zo.trans ae⟩
theorem Ny:Enters 257:=fun a w=>by rfl
theorem Kj(b:Nat)(p:Plan)(area:List Rc)(bJ:List gR)(w:World)(h:jN w b p area bJ)(hl:bJ.length<=40)(hv:∀v∈bJ,iE v=true):Calls prog 172 #[.pointer (some ⟨b,0,none⟩)] w (cX (.int .i64 (sumF (DV p) bJ)) w):=by
 have H:=aa h;have HV:=aa hv;clear h hv;go_enter func172,ntmps172;go_wp2_with ((with_reducible refine ag (Kg 257 #[.pointer (some ⟨w.heap.size,0,none⟩)] (DV p) b p area bJ _ Ny ?_ hl (fun v _=>QU p v) ?_) ?_);exact H.zo.exts ae;exact(fun w' i d cs he hd hR=>acG b w.heap.size p area bJ d cs w' (HV.zo d (gH hd)) (H.zo.exts (af.trans ae he)) (af.cell he (by simp[go_sem])) hR);rintro e w' ⟨rfl,x7,rfl⟩)
 go_ret;exact⟨rfl,ae⟩
theorem ae5(b:Rc)(p:Dv)(v:gR)(hv:iE v=true)(bB bR:Nat)(cs:zv)(w:World)(hR:(iD).R w cs v)(hp:(um).R w [.int .i64 p.side,.int .i64 p.base,.int .i64 p.num,.int .i64 p.den] p)(hlB:∀w',af w w'->(jf 74 ⟨bB,0,none⟩).run prog w'=.ok (.agg #[.int .i64 b.x0,.int .i64 b.y0,.int .i64 b.x1,.int .i64 b.y1]) w')(hlP:∀w',af w w'->(jf 50 ⟨bR,13,none⟩).run prog w'=.ok (.agg #[.int .i64 p.side,.int .i64 p.base,.int .i64 p.num,.int .i64 p.den]) w')(lB:bB<w.heap.size)(lR:bR<w.heap.size):
 Calls prog 80 (#[.agg cs.toArray]++ #[.pointer (some ⟨bB,0,none⟩),.pointer (some ⟨bR,0,none⟩)]) w (cX (.bool (!qU b p v)) w):=by
 have HR:=aa hR;have HP:=aa hp;obtain⟨rfl,_⟩:=hR;show Calls prog 80 #[.agg #[.int .i64 v.base.x0,.int .i64 v.base.y0,.int .i64 v.base.x1,.int .i64 v.base.y1,.int .i64 v.z0,.int .i64 v.z1,.int .i64 v.use,.int .i64 v.units,.bool v.extra],.pointer (some ⟨bB,0,none⟩),.pointer (some ⟨bR,0,none⟩)] w _;obtain⟨res,hres⟩:∃x,qU b p v=x:=⟨_,rfl⟩;have aD:=aa hres;rw[hres];have HV:=aa hv;have HLB:=aa hlB;have HLP:=aa hlP;clear hres hv hp hlB hlP;go_enter func80,ntmps80;go_wp2;refine bI ?_;intro W3 hW3;have HW3:=aa (show af w W3 by rw[hW3];exact ae);have T0:∀w',af W3 w'->_:=fun w' he=>HLB.zo w' (HW3.zo.trans he)
 have T1:∀w',af W3 w'->_:=fun w' he=>HLP.zo w' (HW3.zo.trans he)
 have T2:∀w',af W3 w'->(jf 98 ⟨w.heap.size,0,none⟩).run prog w'=.ok (.agg #[.int .i64 v.base.x0,.int .i64 v.base.y0,.int .i64 v.base.x1,.int .i64 v.base.y1,.int .i64 v.z0,.int .i64 v.z1,.int .i64 v.use,.int .i64 v.units,.bool v.extra]) w':=fun w' he=>GM (cs:= [.int .i64 v.base.x0,.int .i64 v.base.y0,.int .i64 v.base.x1,.int .i64 v.base.y1,.int .i64 v.z0,.int .i64 v.z1,.int .i64 v.use,.int .i64 v.units,.bool v.extra]) rfl (fun j u hu=>af.cell he (by
  rw[hW3]
  match j,hu with
  |0,hu=>(cases hu;simp[go_sem])
  |1,hu=>(cases hu;simp[go_sem])
  |2,hu=>(cases hu;simp[go_sem])
  |3,hu=>(cases hu;simp[go_sem])
  |4,hu=>(cases hu;simp[go_sem])
  |5,hu=>(cases hu;simp[go_sem])
  |6,hu=>(cases hu;simp[go_sem])
  |7,hu=>(cases hu;simp[go_sem])
  |8,hu=>(cases hu;simp[go_sem])))
 clear hW3 lB lR;go_region_held3 (fun w'=>af W3 w') (first|assumption|exact(af.refl _).drew|exact ae) ((first|((with_reducible refine ag (LK v _ _ ?_) ?_);exact(iD).exts HR.zo (HW3.zo.trans ae);rintro e w' ⟨bo,rfl,⟨y1,rfl⟩,hs⟩;(try simp only[bf,au]at hs);(have VO:=aa hs);clear hs)|((with_reducible refine ag (QY b p v HV.zo _ _ _ _ _ ?_ ?_) ?_);exact sj (by simp<;>omega) ((um).exts HP.zo (HW3.zo.trans ae)) (sw (by simp[go_sem]) (by simp[go_sem]) (by simp[go_sem]) (by simp[go_sem]));exact VO.zo.exts ae;rw[aD.zo];rintro e w' ⟨rfl,y2,rfl⟩)))
 all_goals(
  go_wp2;go_ret;exact⟨rfl,HW3.zo.trans ae⟩)
theorem Hn(s:jH)(r:Rule)(hk:r.kind=2)(hvv:∀v∈s.bJ,iE v=true)(ur rcs:zv)(w:World)(h:(jO).R w ur s)(hr:(aw).R w rcs r):Calls prog 26 #[.agg ur.toArray,.agg rcs.toArray] w (cX (.bool (s.bJ.any fun v=>LU r.uses v.use)) w):=by
 have HS:=aa h;have HR:=aa hr;have HVV:=aa hvv;obtain⟨dK,dL,dp,dt,dA,dB,dC,dD,dM,dN,dE,dF,dW,dX,gW,gX,gJ,gK,gY,gZ,gL,gM,ic,ie,gA,gB,ig,ij,gC,gD,ng,nh,ly,lC,rfl,zD,zE,zF,zG,zH,zI,zJ,zK,A9,Ba,sx,rH,sA,rI,rJ,ql,rK,rL,rM,sB,rN⟩:=h;obtain⟨cN,cO,dY,dZ,ej,ek,rfl,Bb,Bc,Bd,Bf,Bg,Bh,Bi,zL,zM,zN,rO,rP,sD,sF,sG⟩:=hr;have HU:=aa hk;rw[hk];rw[hk]at HR;clear hk hvv zD zE zF zG zH zI zJ zK A9 Ba sx rH sA rI rJ ql rK rL rM sB rN Bb Bc Bd Bf Bg Bh Bi zL zM zN rO rP sD sF sG;go_enter func26,ntmps26;go_wp2_with ((with_reducible refine ag (LS 82 #[.pointer (some ⟨w.heap.size+1,0,none⟩)] (fun v=>LU r.uses v.use) s _ _ Ra ?_ ?_) ?_);exact(jO).exts HS.zo ae;exact(fun w' i d cs he hd GG=>ae6 r.uses d (HVV.zo d (gH hd)) (w.heap.size+1) cs w' GG (af.cell he (by simp[go_sem])));rintro e w' ⟨rfl,x7,rfl⟩)
 go_ret;exact⟨rfl,ae⟩
theorem Ho(s:jH)(r:Rule)(hk:r.kind=3)(hvv:∀v∈s.bJ,iE v=true)(ur rcs:zv)(w:World)(h:(jO).R w ur s)(hr:(aw).R w rcs r):Calls prog 26 #[.agg ur.toArray,.agg rcs.toArray] w (cX (.bool (s.bJ.any fun v=>s.cC.built.any (pQ s.d.lot v r.uses r.other r.n))) w):=by
 have HS:=aa h;have HR:=aa hr;have HVV:=aa hvv;obtain⟨dK,dL,dp,dt,dA,dB,dC,dD,dM,dN,dE,dF,dW,dX,gW,gX,gJ,gK,gY,gZ,gL,gM,ic,ie,gA,gB,ig,ij,gC,gD,ng,nh,ly,lC,rfl,zD,zE,zF,zG,zH,zI,zJ,zK,A9,Ba,sx,rH,sA,rI,rJ,ql,rK,rL,rM,sB,rN⟩:=h;obtain⟨cN,cO,dY,dZ,ej,ek,rfl,Bb,Bc,Bd,Bf,Bg,Bh,Bi,zL,zM,zN,rO,rP,sD,sF,sG⟩:=hr;have HU:=aa hk;rw[hk];rw[hk]at HR;clear hk hvv zD zE zF zG zH zI zJ zK A9 Ba sx rH sA rI rJ ql rK rL rM sB rN Bb Bc Bd Bf Bg Bh Bi zL zM zN rO rP sD sF sG;go_enter func26,ntmps26;go_wp2_with (go_at_call 27;((with_reducible refine ag (LS 83 #[.pointer (some ⟨w.heap.size,0,none⟩),.pointer (some ⟨w.heap.size+1,0,none⟩)] (fun v=>s.cC.built.any (pQ s.d.lot v r.uses r.other r.n)) s _ _ QZ ?_ ?_) ?_);exact(jO).exts HS.zo ae;exact(fun w' i d cs he hd GG=>ae4 s r d w.heap.size (w.heap.size+1) cs _ _ w' GG ((jO).exts HS.zo (af.trans ae he)) ((aw).exts HR.zo (af.trans ae he)) (bP (af.cell he (show World.cell? _ ⟨w.heap.size,17,none⟩=some (.int .i64 s.d.lot)by simp[go_sem]))) (bP (af.cell he (show World.cell? _ ⟨w.heap.size+1,17,none⟩=some (.int .i64 r.uses)by simp[go_sem]))) (fun w2 he2=>acH (cs:= [.slice dK s.cC.plan.defs.length dL,.slice dp s.cC.plan.tables.length dt,.slice dA s.cC.plan.zones.length dB,.slice dC s.cC.plan.rules.length dD,.slice dM s.cC.plan.caps.length dN,.slice dE s.cC.plan.views.length dF,.slice dW s.cC.plan.eA.length dX,.int .i64 s.cC.plan.hours,.slice gW s.cC.land.length gX,.slice gJ s.cC.dH.length gK,.slice gY s.cC.wins.length gZ,.slice gL s.cC.built.length gM,.slice ic s.cC.base.length ie,.int .i64 s.lot.id,.int .i64 s.lot.owner,.slice gA s.lot.area.length gB,.slice ig s.lot.old.length ij,.int .i64 s.d.lot,.slice gC s.d.phases.length gD,.slice ng s.bJ.length nh,.slice ly s.zones.length lC]) rfl (fun j u hu=>af.cell he2 (af.cell he (by rw[Nat.zero_add];(match j,hu with|0,hu=>(cases hu;simp[go_sem])|1,hu=>(cases hu;simp[go_sem])|2,hu=>(cases hu;simp[go_sem])|3,hu=>(cases hu;simp[go_sem])|4,hu=>(cases hu;simp[go_sem])|5,hu=>(cases hu;simp[go_sem])|6,hu=>(cases hu;simp[go_sem])|7,hu=>(cases hu;simp[go_sem])|8,hu=>(cases hu;simp[go_sem])|9,hu=>(cases hu;simp[go_sem])|10,hu=>(cases hu;simp[go_sem])|11,hu=>(cases hu;simp[go_sem])|12,hu=>(cases hu;simp[go_sem])|13,hu=>(cases hu;simp[go_sem])|14,hu=>(cases hu;simp[go_sem])|15,hu=>(cases hu;simp[go_sem])|16,hu=>(cases hu;simp[go_sem])|17,hu=>(cases hu;simp[go_sem])|18,hu=>(cases hu;simp[go_sem])|19,hu=>(cases hu;simp[go_sem])|20,hu=>(cases hu;simp[go_sem])))))) (fun w2 he2=>yy (cs:= [.string r.name,.slice cN r.zones.length cO,.slice dY r.exc.length dZ,.int .i64 r.start,.int .i64 r.stop,.int .i64 r.bM,.bool r.vary,.int .i64 3,.int .i64 r.test.op,.int .i64 r.test.num,.string r.test.str,.string r.test.key,.slice ej r.test.args.length ek,.int .i64 r.ah.side,.int .i64 r.ah.base,.int .i64 r.ah.num,.int .i64 r.ah.den,.int .i64 r.uses,.int .i64 r.other,.int .i64 r.n]) rfl (fun j u hu=>af.cell he2 (af.cell he (by rw[Nat.zero_add];(match j,hu with|0,hu=>(cases hu;simp[go_sem])|1,hu=>(cases hu;simp[go_sem])|2,hu=>(cases hu;simp[go_sem])|3,hu=>(cases hu;simp[go_sem])|4,hu=>(cases hu;simp[go_sem])|5,hu=>(cases hu;simp[go_sem])|6,hu=>(cases hu;simp[go_sem])|7,hu=>(cases hu;simp[go_sem])|8,hu=>(cases hu;simp[go_sem])|9,hu=>(cases hu;simp[go_sem])|10,hu=>(cases hu;simp[go_sem])|11,hu=>(cases hu;simp[go_sem])|12,hu=>(cases hu;simp[go_sem])|13,hu=>(cases hu;simp[go_sem])|14,hu=>(cases hu;simp[go_sem])|15,hu=>(cases hu;simp[go_sem])|16,hu=>(cases hu;simp[go_sem])|17,hu=>(cases hu;simp[go_sem])|18,hu=>(cases hu;simp[go_sem])|19,hu=>(cases hu;simp[go_sem])))))));rintro e w' ⟨rfl,x7,rfl⟩))
 go_ret;exact⟨rfl,ae⟩
theorem Hp(s:jH)(r:Rule)(h0:r.kind≠0)(h1:r.kind≠1)(h2:r.kind≠2)(h3:r.kind≠3)(ur rcs:zv)(w:World)(h:(jO).R w ur s)(hr:(aw).R w rcs r):Calls prog 26 #[.agg ur.toArray,.agg rcs.toArray] w (cX (.bool false) w):=by
 obtain⟨dK,dL,dp,dt,dA,dB,dC,dD,dM,dN,dE,dF,dW,dX,gW,gX,gJ,gK,gY,gZ,gL,gM,ic,ie,gA,gB,ig,ij,gC,gD,ng,nh,ly,lC,rfl,zD,zE,zF,zG,zH,zI,zJ,zK,A9,Ba,sx,rH,sA,rI,rJ,ql,rK,rL,rM,sB,rN⟩:=h;obtain⟨cN,cO,dY,dZ,ej,ek,rfl,Bb,Bc,Bd,Bf,Bg,Bh,Bi,zL,zM,zN,rO,rP,sD,sF,sG⟩:=hr;have k0:(r.kind==0)=false:=by simp[h0]
 have k1:(r.kind==1)=false:=by simp[h1]
 have k2:(r.kind==2)=false:=by simp[h2]
 have k3:(r.kind==3)=false:=by simp[h3]
 clear h0 h1 h2 h3 zD zE zF zG zH zI zJ zK A9 Ba sx rH sA rI rJ ql rK rL rM sB rN Bb Bc Bd Bf Bg Bh Bi zL zM zN rO rP sD sF sG;go_enter func26,ntmps26;go_wp2;go_ret;exact⟨rfl,ae⟩
theorem Hq(s:jH)(r:Rule)(hk:r.kind=1)(hvv:∀v∈s.bJ,iE v=true)(ur rcs:zv)(w:World)(h:(jO).R w ur s)(hr:(aw).R w rcs r):Calls prog 26 #[.agg ur.toArray,.agg rcs.toArray] w (cX (.bool (s.bJ.any fun v=> !qU (iA s.lot.area).1 r.ah v)) w):=by
 have HS:=aa h;have HVV:=aa hvv;obtain⟨dK,dL,dp,dt,dA,dB,dC,dD,dM,dN,dE,dF,dW,dX,gW,gX,gJ,gK,gY,gZ,gL,gM,ic,ie,gA,gB,ig,ij,gC,gD,ng,nh,ly,lC,rfl,zD,zE,zF,zG,zH,zI,zJ,zK,A9,Ba,sx,rH,sA,rI,rJ,ql,rK,rL,rM,sB,rN⟩:=h;obtain⟨cN,cO,dY,dZ,ej,ek,rfl,Bb,Bc,Bd,Bf,Bg,Bh,Bi,zL,zM,zN,rO,rP,sD,sF,sG⟩:=hr;have HA:=aa ql;have HPL:=aa (show(um).R w [.int .i64 r.ah.side,.int .i64 r.ah.base,.int .i64 r.ah.num,.int .i64 r.ah.den] r.ah from⟨rfl,zM,zN,rO,rP⟩);rw[hk];clear hk hvv zD zE zF zG zH zI zJ zK A9 Ba sx rH sA rI rJ ql rK rL rM sB rN Bb Bc Bd Bf Bg Bh Bi zL zM zN rO rP sD sF sG;go_enter func26,ntmps26;go_wp2_with (first|((with_reducible refine ag (QM _ _ _ s.lot.area _ ?_) ?_);exact HA.zo.exts ae;rintro e w' ⟨rfl,x5,rfl⟩)|((with_reducible refine ag (LS 80 #[.pointer (some ⟨w.heap.size+1+1+x5.bs.size,0,none⟩),.pointer (some ⟨w.heap.size+1,0,none⟩)] (fun v=> !qU (iA s.lot.area).1 r.ah v) s _ _ Rb ?_ ?_) ?_);exact(jO).exts HS.zo ae;exact(fun w' i d cs he hd GG=>ae5 (iA s.lot.area).1 r.ah d (HVV.zo d (gH hd)) (w.heap.size+1+1+x5.bs.size) (w.heap.size+1) cs w' GG HPL.zo (fun w2 he2=>pg (cs:= [.int .i64 (iA s.lot.area).1.x0,.int .i64 (iA s.lot.area).1.y0,.int .i64 (iA s.lot.area).1.x1,.int .i64 (iA s.lot.area).1.y1]) rfl (fun j u hu=>af.cell he2 (af.cell he (by(match j,hu with|0,hu=>(cases hu;simp[go_sem])|1,hu=>(cases hu;simp[go_sem])|2,hu=>(cases hu;simp[go_sem])|3,hu=>(cases hu;simp[go_sem])))))) (fun w2 he2=>abY (cs:= [.int .i64 r.ah.side,.int .i64 r.ah.base,.int .i64 r.ah.num,.int .i64 r.ah.den]) rfl (fun j u hu=>af.cell he2 (af.cell he (by(match j,hu with|0,hu=>(cases hu;simp[go_sem])|1,hu=>(cases hu;simp[go_sem])|2,hu=>(cases hu;simp[go_sem])|3,hu=>(cases hu;simp[go_sem])))))) (bP (af.cell he (show World.cell? _ ⟨w.heap.size+1+1+x5.bs.size,0,none⟩=some (.int .i64 (iA s.lot.area).1.x0)by simp[go_sem]))) (bP (af.cell he (show World.cell? _ ⟨w.heap.size+1,17,none⟩=some (.int .i64 r.uses)by simp[go_sem]))));rintro e w' ⟨rfl,x7,rfl⟩))
 go_ret;exact⟨rfl,ae⟩
theorem Sl.take{T:Type}{L:Lay T}{w:World}{ao:Option Addr}{n c:Nat}{l:List T}(h:Sl L w ao n c l){k:Nat}(hk:k<=n):Sl L w ao k c (l.take k):=by
 obtain⟨h1,xs,⟨q1,zx,c2,hv,q2,q3,q4,q5⟩,h3⟩:=h;simp only[Value.slice.injEq,true_and]at hv;obtain⟨rfl,rfl⟩:=hv;have hkk:k*L.k<=n*L.k:=Nat.mul_le_mul_right _ hk;refine⟨by rw[List.length_take];omega,xs.take (k*L.k),⟨by rw[List.length_take];omega,ao,c,rfl,by omega,q3,q4,fun h0=> ?_⟩,fun i d hd=> ?_⟩
 ·obtain⟨b,off,e,hs,hb,hc⟩:=q5 (by omega)
  refine⟨b,off,e,hs,hb,fun t v ht=> ?_⟩;rw[List.getElem?_take]at ht;split at ht
  ·exact hc t v ht
  ·cases ht
 ·rw[List.getElem?_take]at hd
  split at hd
  ·rename_i hi
   have:(i+1)*L.k<=k*L.k:=Nat.mul_le_mul_right _ hi;rw[Nat.add_mul,Nat.one_mul]at this;have e1:((xs.take (k*L.k)).drop (i*L.k)).take L.k=(xs.drop (i*L.k)).take L.k:=by
    rw[List.drop_take,List.take_take];rw[Nat.min_eq_left (by omega)]
   rw[e1];exact h3 i d hd
  ·cases hd
theorem Sl.cap{T:Type}{L:Lay T}{w:World}{ao:Option Addr}{n c:Nat}{l:List T}(h:Sl L w ao n c l):n<=c/\c<=maxLen:=by
 obtain⟨_,xs,⟨_,zx,c2,hv,q2,q3,_⟩,_⟩:=h;simp only[Value.slice.injEq,true_and]at hv;obtain⟨rfl,rfl⟩:=hv;exact⟨q2,q3⟩
theorem LX{w:World}{b:Nat}{u0 u1 u2 u3 u4 u5:Value}(h0:w.cell? ⟨b,0,none⟩=some u0)(h1:w.cell? ⟨b,1,none⟩=some u1)(h2:w.cell? ⟨b,2,none⟩=some u2)(h3:w.cell? ⟨b,3,none⟩=some u3)(h4:w.cell? ⟨b,4,none⟩=some u4)(h5:w.cell? ⟨b,5,none⟩=some u5):∀j u,[u0,u1,u2,u3,u4,u5][j]?=some u->w.cell? ⟨b,j,none⟩=some u:=fun j u hu=>by
 match j,hu with
 |0,hu=>(cases hu;exact h0)
 |1,hu=>(cases hu;exact h1)
 |2,hu=>(cases hu;exact h2)
 |3,hu=>(cases hu;exact h3)
 |4,hu=>(cases hu;exact h4)
 |5,hu=>(cases hu;exact h5)
def pD(l:List gR)(j:Nat):Bool:=match l[j]? with|some v=>iE v&& !(l.take j).any (yJ v)|none=>true
def oF(l:List gR):Bool:=(List.range l.length).all (pD l)
def wG(s:ByteArray)(x:Entry):Bool:=x.name.data.toList==s.data.toList
def ND:List Entry->List Entry->Bool
 |_,[]=>true
 |seen,x::l=>(!seen.any (wG x.name)&&(nameB x.name&&(!decide (x.n<0)&& !decide (1073741824<x.n))))&&ND (seen++ [x]) l
def EP(l:List Entry):Bool:=ND [] l
def xQ(d:rW):Bool:= !decide (d.lot<0)&&(!decide (1073741824<d.lot)&&(!decide (d.phases.length<1)&& !decide ((dw d).length<1)))
def sI(d:rW):Bool:=xQ d&&(oF (dw d)&&d.phases.all fun p=>EP p.gives)
theorem NF{l:List Entry}{k:Nat}{d:Entry}(hd:l[k]?=some d):ND (l.take k) (l.drop k)=((!(l.take k).any (wG d.name)&&(nameB d.name&&(!decide (d.n<0)&& !decide (1073741824<d.n))))&&ND (l.take (k+1)) (l.drop (k+1))):=by
 obtain⟨hk,e⟩:=bw hd;rw[List.drop_eq_getElem_cons hk,e,List.take_add_one,hd];rfl
theorem Rj{l:List Entry}{k:Nat}{d:Entry}{f:Lit->Bool}(hd:l[k]?=some d)(hf:∀s:ByteArray,f (.string s.data.toList)=(l.take k).any (wG s))(s:ByteArray):xC f (.string d.name.data.toList) true (.string s.data.toList)=(l.take (k+1)).any (wG s):=by
 rw[List.take_add_one,hd,List.any_append];by_cases h:d.name.data.toList=s.data.toList
 ·rw[h,tF]
  simp[wG,h]
 ·rw[om _ _ (fun e=>h (by injection e with e;exact e.symm)),hf s]
  have:wG s d=false:=by simpa[wG]using h
  simp[this]
theorem DW:Enters 233:=fun a w=>by rfl
theorem Ac(d:rW)(cs:zv)(w:World)(hg:Gl w)(h:(e6).R w cs d)(hp:d.phases.length<=3)(hv:∀(i:Nat)(x:Phase),d.phases[i]?=some x->x.cA.length<=3)(hgv:∀(i:Nat)(x:Phase),d.phases[i]?=some x->x.gives.length<=3):Calls prog 150 #[.agg cs.toArray] w (cX (.bool (sI d)) w):=by
 have hvl:(dw d).length<=9:=by
  have:=wm hv (k:=d.phases.length) (Nat.le_refl _);rw[List.take_length]at this;exact Nat.le_trans this (by omega)
 obtain⟨o,c,rfl,i1,q1⟩:=h;have HR:=aa (show(e6).R w [.int .i64 d.lot,.slice o d.phases.length c] d from⟨o,c,rfl,i1,q1⟩);have HP:=aa q1;have HV:=aa hv;have Zx:=aa hgv;have HG:=aa hg;obtain⟨res,hres⟩:∃r,sI d=r:=⟨_,rfl⟩;have aD:=aa hres;rw[hres];have hmm:= @run_makeMap prog;have z8:decide ((8:Int)<(d.phases.length:Int))=false:=jE (by omega);clear hres hv hgv hg i1 q1;cases t0:decide (d.lot<0)with
 |true=>
  have HF:=aa (show res=false by rw[<-aD.zo];unfold sI xQ;rw[t0];rfl);go_enter func150,ntmps150;go_wp2_with ((with_reducible refine ag (xI d _ _ ?_ hp HV.zo) ?_);exact(e6).exts HR.zo ae;rintro e w' ⟨vo,vc,rfl,⟨y0,rfl⟩,hs⟩;(have HS:=aa hs);clear hs)
  go_ret;rw[HF.zo];exact⟨rfl,ae⟩
 |false=>
 cases t1:decide ((1073741824:Int)<d.lot)with
 |true=>
  have HF:=aa (show res=false by rw[<-aD.zo];unfold sI xQ;rw[t0,t1];rfl);go_enter func150,ntmps150;go_wp2_with ((with_reducible refine ag (xI d _ _ ?_ hp HV.zo) ?_);exact(e6).exts HR.zo ae;rintro e w' ⟨vo,vc,rfl,⟨y0,rfl⟩,hs⟩;(have HS:=aa hs);clear hs)
  go_ret;rw[HF.zo];exact⟨rfl,ae⟩
 |false=>
 cases t2:decide ((d.phases.length:Int)<1)with
 |true=>
  have HF:=aa (show res=false by rw[<-aD.zo];unfold sI xQ;rw[t0,t1,zdt (show d.phases.length<1 by have:=of_decide_eq_true t2;omega)];rfl);go_enter func150,ntmps150;go_wp2_with ((with_reducible refine ag (xI d _ _ ?_ hp HV.zo) ?_);exact(e6).exts HR.zo ae;rintro e w' ⟨vo,vc,rfl,⟨y0,rfl⟩,hs⟩;(have HS:=aa hs);clear hs)
  go_ret;rw[HF.zo];exact⟨rfl,ae⟩
 |false=>
 cases t3:decide (((dw d).length:Int)<1)with
 |true=>
  have HF:=aa (show res=false by rw[<-aD.zo];unfold sI xQ;rw[t0,t1,jE (show ¬d.phases.length<1 by have:=of_decide_eq_false t2;omega),zdt (show(dw d).length<1 by have:=of_decide_eq_true t3;omega)];rfl);go_enter func150,ntmps150;go_wp2_with ((with_reducible refine ag (xI d _ _ ?_ hp HV.zo) ?_);exact(e6).exts HR.zo ae;rintro e w' ⟨vo,vc,rfl,⟨y0,rfl⟩,hs⟩;(have HS:=aa hs);clear hs)
  go_ret;rw[HF.zo];exact⟨rfl,ae⟩
 |false=>
 have HF:=aa (show res=(oF (dw d)&&d.phases.all fun p=>EP p.gives)by rw[<-aD.zo];unfold sI xQ;rw[t0,t1,jE (show ¬d.phases.length<1 by have:=of_decide_eq_false t2;omega),jE (show ¬(dw d).length<1 by have:=of_decide_eq_false t3;omega)];rfl);have z40:decide ((40:Int)<((dw d).length:Int))=false:=jE (by omega);have HFA:=aa (show∀j,pD (dw d) j=false->res=false from fun j hj=>by
  rw[HF.zo];have:oF (dw d)=false:=by
   unfold oF;rw[List.all_eq_false];refine⟨j,List.mem_range.2 ?_,by rw[hj];simp⟩;rcases Nat.lt_or_ge j (dw d).length with h|h
   ·exact h
   ·unfold pD at hj
    rw[List.getElem?_eq_none h]at hj;cases hj
  rw[this];rfl)
 have XR:=aa (show∀(j:Nat)(p:Phase),d.phases[j]?=some p->EP p.gives=false->res=false from fun j p hj hp2=>by
  rw[HF.zo];have:(d.phases.all fun p=>EP p.gives)=false:=by
   rw[List.all_eq_false];exact⟨p,gH hj,by rw[hp2];simp⟩
  rw[this,Bool.and_false])
 obtain⟨l,hl⟩:∃l,dw d=l:=⟨_,rfl⟩;have QV:=aa hl;rw[hl]at HF HFA hvl z40 t3;clear hl;go_enter func150,ntmps150;go_wp2_with ((with_reducible refine ag (xI d _ _ ?_ hp HV.zo) ?_);exact(e6).exts HR.zo ae;rw[QV.zo];rintro e w' ⟨vo,vc,rfl,⟨y0,rfl⟩,hs⟩;(have HS:=aa hs);clear hs)
 go_loopw [45] (fun i wr=> ∃(k:Nat),k<=l.length/\i=.int .i64 k/\af (av (w.alloc (.cells #[.int .i64 d.lot,.slice o d.phases.length c] 40)) y0) wr/\∀j,j<k->pD l j=true) (fun i _=>l.length - (intOf i).toNat)
 case atStart=>exact⟨0,by omega,rfl,af.refl _,fun j hj=>by omega⟩
 case round=>
  obtain⟨k,hk,rfl,hx,hall⟩:=hrel;have HX:=aa hx;have ey:=aa hall;clear hx hall;by_cases hlt:k<l.length
  ·obtain⟨v,hvv⟩:=HS.zo.ex hlt
   obtain⟨b,off,cs,rfl,lb,hR,cZ⟩:=HS.zo.ld hvv;obtain⟨rfl,_⟩:=hR;have hld:∀w',af wr w'->_:=fun w' he=>cZ w' (HX.zo.trans he)
   have GH:=aa (show pD l k=(iE v&& !(l.take k).any (yJ v))by unfold pD;rw[hvv]);obtain⟨r,hr⟩:∃r,iE v=r:=⟨_,rfl⟩;obtain⟨t,ht⟩:∃t,(l.take k).any (yJ v)=t:=⟨_,rfl⟩;rw[hr,ht]at GH;have HRR:=aa hr;have HTT:=aa ht;have VC:=aa (HS.zo.take (show k<=l.length by omega));have hsz:=HX.zo.below.size;have hcap:=HS.zo.cap.1;have hcm:=HS.zo.cap.2;unfold maxLen at hcm;clear hvv cZ hr ht;cases r with
   |false=>
    have HF2:=aa (HFA.zo k (by rw[GH.zo];rfl));go_wp2_with ((with_reducible refine ag (js v _) ?_);rintro e w' ⟨rfl,x9,rfl⟩;rw[HRR.zo])
    go_ret;rw[HF2.zo];exact⟨rfl,af.trans ae (HX.zo.trans ae)⟩
   |true=>
    cases t with
    |true=>
     have HF2:=aa (HFA.zo k (by rw[GH.zo];rfl));go_wp2_with (first|((with_reducible refine ag (js v _) ?_);rintro e w' ⟨rfl,x9,rfl⟩;rw[HRR.zo])|((with_reducible refine ag (uU 233 #[.pointer (some ⟨wr.heap.size,0,none⟩)] (yJ v) _ k _ (l.take k) _ DW ?_ ?_) ?_);exact VC.zo.exts (HX.zo.trans ae);exact fun w' i d2 cs he _ hR=>yK v d2 wr.heap.size cs w' hR (fun j u hu=>af.cell he (LX (by simp[go_sem]) (by simp[go_sem]) (by simp[go_sem]) (by simp[go_sem]) (by simp[go_sem]) (by simp[go_sem]) j u hu));rw[HTT.zo];rintro e w' ⟨rfl,x8,rfl⟩))
     go_ret;rw[HF2.zo];exact⟨rfl,af.trans ae (HX.zo.trans ae)⟩
    |false=>
     have ae7:=aa (show pD l k=true by rw[GH.zo];rfl);go_wp2_with (first|((with_reducible refine ag (js v _) ?_);rintro e w' ⟨rfl,x9,rfl⟩;rw[HRR.zo])|((with_reducible refine ag (uU 233 #[.pointer (some ⟨wr.heap.size,0,none⟩)] (yJ v) _ k _ (l.take k) _ DW ?_ ?_) ?_);exact VC.zo.exts (HX.zo.trans ae);exact fun w' i d2 cs he _ hR=>yK v d2 wr.heap.size cs w' hR (fun j u hu=>af.cell he (LX (by simp[go_sem]) (by simp[go_sem]) (by simp[go_sem]) (by simp[go_sem]) (by simp[go_sem]) (by simp[go_sem]) j u hu));rw[HTT.zo];rintro e w' ⟨rfl,x8,rfl⟩))
     refine⟨⟨k+1,by omega,by go_num,HX.zo.trans ae,fun j hj=> ?_⟩,?_⟩
     ·rcases Nat.lt_or_ge j k with h1|h1
      ·exact ey.zo j h1
      ·obtain rfl:j=k:=by omega
       exact ae7.zo
     ·simp[intOf];omega
  ·obtain rfl:l.length=k:=by omega
   have HVG:=aa (show oF l=true by
    unfold oF;rw[List.all_eq_true];exact fun j hj=>ey.zo j (List.mem_range.1 hj))
   have HF3:=aa (show res=d.phases.all fun p=>EP p.gives by rw[HF.zo,HVG.zo];rfl);have uB:=aa (show af w wr from af.trans ae HX.zo);have c0:=af.cell HX.zo (show(av (w.alloc (.cells #[.int .i64 d.lot,.slice o d.phases.length c] 40)) y0).cell? ⟨w.heap.size,1,none⟩=some (.slice o d.phases.length c)by simp[go_sem]);go_wp2;go_loopw [64] (fun i w2=> ∃(k:Nat),k<=d.phases.length/\i=.int .i64 k/\af wr w2/\∀(j:Nat)(p:Phase),j<k->d.phases[j]?=some p->EP p.gives=true) (fun i _=>d.phases.length - (intOf i).toNat)
   case atStart=>exact⟨0,by omega,rfl,ae,fun j p hj=>by omega⟩
   case round=>
    obtain⟨k,hk,rfl,hx,hall⟩:=hrel;obtain⟨V,hVV⟩:∃V:World,V=wr:=⟨_,rfl⟩;subst hVV;have gm:=aa (uB.zo.trans hx);have Rk:=aa hall;have wH:=aa hx;clear hx hall;by_cases hlt:k<d.phases.length
    ·obtain⟨p,hpp⟩:=HP.zo.ex hlt
     obtain⟨b,off,cs,rfl,lb,hR,cZ⟩:=HP.zo.ld hpp;obtain⟨o1,c1,o2,c2,rfl,r1,r2⟩:=hR;have hld:∀w',af V w'->_:=fun w' he=>cZ w' (gm.zo.trans he)
     have HPP:=aa hpp;have hgl:=Zx.zo k p hpp;have HGE:=aa r2;have hsz:=gm.zo.below.size;clear hpp cZ r1 r2;go_wp2;go_loopw [72] (fun i w3=> ∃(q:Nat)(f:Lit->Bool),q<=p.gives.length/\i=.int .i64 q/\af (V.alloc (.cells #[.slice o1 p.cA.length c1,.slice o2 p.gives.length c2] 83)) w3/\iT w3 9 (V.heap.size+1) q f/\(∀s:ByteArray,f (.string s.data.toList)=(p.gives.take q).any (wG s))/\EP p.gives=ND (p.gives.take q) (p.gives.drop q)) (fun i _=>p.gives.length - (intOf i).toNat)
     case atStart=>exact⟨0,fun _=>false,by omega,rfl,ae,by simpa using iT.made (V.alloc (.cells #[.slice o1 p.cA.length c1,.slice o2 p.gives.length c2] 83)) 9,fun s=>rfl,rfl⟩
     case round=>
      obtain⟨q,f,hq,rfl,hx,hmap,hf,hn⟩:=hrel;have iU:=aa hx;have nv:=aa (gm.zo.trans (af.trans ae hx));have sH:=aa hmap;have JL:=aa hf;have HN:=aa hn;clear hx hmap hf hn;by_cases hlq:q<p.gives.length
      ·obtain⟨g,hgg⟩:=HGE.zo.ex hlq
       obtain⟨bg,acM,csg,rfl,lbg,hRg,Ht⟩:=HGE.zo.ld hgg;obtain⟨rfl,gs,gi⟩:=hRg;have HST:=aa (NF hgg);have ae8:∀w',af wr w'->_:=fun w' he=>Ht w' (nv.zo.trans he)
       have tV:=aa gs;have HD:=aa hgg;obtain⟨t,ht⟩:∃t,(p.gives.take q).any (wG g.name)=t:=⟨_,rfl⟩;obtain⟨r,hr⟩:∃r,nameB g.name=r:=⟨_,rfl⟩;rw[hr,ht,<-HN.zo]at HST;have HR2:=aa hr;have HT:=aa ht;have hlook:∀w',af wr w'->(Instr.lookup 113 (.map (some (V.heap.size+1))) (.string g.name) false).run prog w'=.ok (.bool t) w':=fun w' he=>by
        rw[<-HT.zo,<-JL.zo g.name];exact(sH.zo.exts he).look mF underlying113 (WideMaps.keyOf_string_mk underlying9 tV.zo)
       have hsz3:V.heap.size+1<=wr.heap.size:=by have:=iU.zo.below.size;simpa using this
       clear hgg Ht gs gi ht hr;cases t with
       |true=>
        have Kl:=aa (XR.zo k p HPP.zo (by rw[HST.zo];rfl));go_wp2_with ((with_reducible refine(gF g.name _ (HG.zo.exts (nv.zo.trans ae)) tV.zo).mono ?_);rintro e w' ⟨rfl,x9,rfl⟩;rw[HR2.zo])
        go_ret;rw[Kl.zo];exact⟨rfl,nv.zo.trans ae⟩
       |false=>
       cases r with
       |false=>
        have Kl:=aa (XR.zo k p HPP.zo (by rw[HST.zo];rfl));go_wp2_with ((with_reducible refine(gF g.name _ (HG.zo.exts (nv.zo.trans ae)) tV.zo).mono ?_);rintro e w' ⟨rfl,x9,rfl⟩;rw[HR2.zo])
        go_ret;rw[Kl.zo];exact⟨rfl,nv.zo.trans ae⟩
       |true=>
       cases e1:decide (g.n<0)with
       |true=>
        have Kl:=aa (XR.zo k p HPP.zo (by rw[HST.zo,e1];rfl));go_wp2_with ((with_reducible refine(gF g.name _ (HG.zo.exts (nv.zo.trans ae)) tV.zo).mono ?_);rintro e w' ⟨rfl,x9,rfl⟩;rw[HR2.zo])
        go_ret;rw[Kl.zo];exact⟨rfl,nv.zo.trans ae⟩
       |false=>
       cases e2:decide ((1073741824:Int)<g.n)with
       |true=>
        have Kl:=aa (XR.zo k p HPP.zo (by rw[HST.zo,e1,e2];rfl));go_wp2_with ((with_reducible refine(gF g.name _ (HG.zo.exts (nv.zo.trans ae)) tV.zo).mono ?_);rintro e w' ⟨rfl,x9,rfl⟩;rw[HR2.zo])
        go_ret;rw[Kl.zo];exact⟨rfl,nv.zo.trans ae⟩
       |false=>
        have ae9:=aa (show EP p.gives=ND (p.gives.take (q+1)) (p.gives.drop (q+1))by rw[HST.zo,e1,e2];rfl);go_wp2_with (first|((with_reducible refine(gF g.name _ (HG.zo.exts (nv.zo.trans ae)) tV.zo).mono ?_);rintro e w' ⟨rfl,x9,rfl⟩;rw[HR2.zo])|(at_mapUpdate;refine lq rfl _ _ _ 113 9 rfl mF underlying113 (V.heap.size+1) q _ rfl (sH.zo.exts ae) (by unfold maxLen;omega) _ _ _ rfl rfl (WideMaps.keyOf_string_mk underlying9 tV.zo) trivial ?_;intro w9 hmap' hgrow))
        refine⟨⟨q+1,_,by omega,by go_num,aF (W:=V.alloc (.cells #[.slice o1 p.cA.length c1,.slice (some ⟨bg,acM,none⟩) p.gives.length c2] 83)) (iU.zo.trans ae) hgrow (fun b hb=>by cases hb;simp),hmap',fun s=> ?_,ae9.zo⟩,?_⟩
        ·exact Rj HD.zo JL.zo s
        ·simp[intOf];omega
      ·obtain rfl:p.gives.length=q:=by omega
       have HEB:=aa (show EP p.gives=true by rw[HN.zo,List.drop_of_length_le (Nat.le_refl _)];rfl);have z30:decide ((30:Int)<(p.gives.length:Int))=false:=jE (by omega);have c3:=af.cell iU.zo (show(V.alloc (.cells #[.slice o1 p.cA.length c1,.slice o2 p.gives.length c2] 83)).cell? ⟨V.heap.size,1,none⟩=some (.slice o2 p.gives.length c2)by simp[go_sem]);go_wp2;refine⟨⟨k+1,by omega,by go_num,wH.zo.trans (af.trans ae (iU.zo.trans ae)),fun j p2 hj hp2=> ?_⟩,?_⟩
       ·rcases Nat.lt_or_ge j k with h1|h1
        ·exact Rk.zo j p2 h1 hp2
        ·obtain rfl:j=k:=by omega
         have e:=HPP.zo;rw[hp2]at e;cases e;exact HEB.zo
       ·simp[intOf];omega
    ·obtain rfl:d.phases.length=k:=by omega
     have HR3:=aa (show res=true by
      rw[HF3.zo,List.all_eq_true];intro x hx;obtain⟨j,hj⟩:=List.getElem?_of_mem hx;exact Rk.zo j x (bw hj).1 hj)
     go_wp2;go_ret;rw[HR3.zo];exact⟨rfl,gm.zo.trans ae⟩
def uu(v:gR)(e:uO):Bool:=decide (e.top<v.z1)&&LP [v.base] e.area
def ko(es:List uO)(lot:Int)(v:gR):Bool:=ew [v.base]&&es.all fun e=> !((e.lot==lot)&&(ew e.area&&uu v e))
theorem Ig{l l2:List Rc}{q:Bool}(hq:LP l l2=q)(ao bo:Option Addr)(n c m cc:Nat)(w:World)(h:Sl je w ao n c l)(h2:Sl je w bo m cc l2):Calls prog 90 #[.slice ao n c,.slice bo m cc] w (cX (.bool q) w):=by
 rw[<-hq];exact Zp ao bo n c m cc l l2 w h h2
theorem VV(e:uO)(v:gR)(bp:Nat)(eo:Option Addr)(ec:Nat)(cs:zv)(w:World)(h:(Pr).R w cs (j8 v))(he:Sl je w eo e.area.length ec e.area)(c1:w.cell? ⟨bp,1,none⟩=some (.slice eo e.area.length ec))(c2:w.cell? ⟨bp,2,none⟩=some (.int .i64 e.top)):Calls prog 89 (#[.agg cs.toArray]++ #[.pointer (some ⟨bp,0,none⟩)]) w fun e' w'=>e'=.returned (.bool (uu v e))/\af w w':=by
 obtain⟨so,sc,rfl,_,_,hs⟩:=h;have HS:=aa (show Sl je w so 1 sc [v.base]from hs);have HE:=aa he;have lb:=bP c1;show Calls prog 89 #[.agg #[.int .i64 v.z0,.int .i64 v.z1,.slice so 1 sc],.pointer (some ⟨bp,0,none⟩)] w _;obtain⟨t,ht⟩:∃t,LP [v.base] e.area=t:=⟨_,rfl⟩;have HT:=aa ht;have HF:=aa (show uu v e=(decide (e.top<v.z1)&&t)by unfold uu;rw[ht]);rw[HF.zo];clear hs he ht;cases q:decide (e.top<v.z1)with
 |false=>
  go_enter func89,ntmps89;go_wp2_with ((with_reducible refine ag (Ig HT.zo _ _ _ _ _ _ _ (HS.zo.exts ae) (HE.zo.exts ae)) ?_);rintro e w' ⟨rfl,x7,rfl⟩)
  go_ret;exact⟨rfl,ae⟩
 |true=>
  go_enter func89,ntmps89;go_wp2_with ((with_reducible refine ag (Ig HT.zo _ _ _ _ _ _ _ (HS.zo.exts ae) (HE.zo.exts ae)) ?_);rintro e w' ⟨rfl,x7,rfl⟩)
  go_ret;exact⟨rfl,ae⟩
theorem NR(es:List uO)(lot:Int)(v:gR)(hv:iE v=true)(eo so:Option Addr)(n ec sc:Nat)(w:World)(h:Sl vG w eo n ec es)(hs:Sl Pr w so 1 sc [j8 v]):Calls prog 29 #[.slice eo n ec,.int .i64 lot,.slice so 1 sc] w (cX (.bool (ko es lot v)) w):=by
 obtain⟨hr,h0,h1,h2,_⟩:=mS hv;have HE:=aa h;have CO:=aa h.1;have hm:=h.nle;unfold maxLen at hm;have HS:=aa hs;obtain⟨t2,ht2⟩:∃t,ew [v.base]=t:=⟨_,rfl⟩;have zC:=aa ht2;obtain⟨res,hres⟩:∃r,ko es lot v=r:=⟨_,rfl⟩;have HF:=aa (show res=(t2&&es.all fun e=> !((e.lot==lot)&&(ew e.area&&uu v e)))by rw[<-hres,<-ht2];rfl);rw[hres];clear h hs ht2 hres hv;cases t2 with
 |false=>
  go_enter func29,ntmps29;go_wp2_with ((with_reducible refine ag (wD v _ zC.zo h0 h1 h2 _ _ _ ?_) ?_);exact HS.zo.exts ae;rintro e w' ⟨rfl,x8,rfl⟩)
  go_ret;rw[HF.zo];exact⟨rfl,ae⟩
 |true=>
  have UF:=aa (show∀(j:Nat)(e:uO),es[j]?=some e->((e.lot==lot)&&(ew e.area&&uu v e))=true->res=false from fun j e hj he=>by
   rw[HF.zo,Bool.true_and,List.all_eq_false];exact⟨e,gH hj,by rw[he];simp⟩)
  go_enter func29,ntmps29;go_wp2_with ((with_reducible refine ag (wD v _ zC.zo h0 h1 h2 _ _ _ ?_) ?_);exact HS.zo.exts ae;rintro e w' ⟨rfl,x8,rfl⟩)
  go_loopw [14] (fun i wr=> ∃(k:Nat),k<=n/\i=.int .i64 k/\af w wr/\∀(j:Nat)(e:uO),j<k->es[j]?=some e->((e.lot==lot)&&(ew e.area&&uu v e))=false) (fun i _=>n - (intOf i).toNat)
  case atStart=>exact⟨0,by omega,rfl,ae,fun j e hj=>by omega⟩
  case round=>
   obtain⟨k,hk,rfl,hx,hall⟩:=hrel;have HX:=aa hx;have ey:=aa hall;clear hx hall;by_cases hlt:k<n
   ·obtain⟨e,he⟩:=HE.zo.ex hlt
    obtain⟨b,off,cs,rfl,lb,hR,cZ⟩:=HE.zo.ld he;obtain⟨ao,ac,rfl,i1,hs,i2⟩:=hR;have hld:∀w',af wr w'->_:=fun w' he=>cZ w' (HX.zo.trans he)
    have HA:=aa hs;have HD:=aa he;obtain⟨t,ht⟩:∃t,ew e.area=t:=⟨_,rfl⟩;have HT:=aa ht;obtain⟨u,hu⟩:∃t,uu v e=t:=⟨_,rfl⟩;have HU:=aa (show([j8 v].any fun _=>uu v e)=u by rw[<-hu];simp);have HB:=aa (show((e.lot==lot)&&(ew e.area&&uu v e))=((e.lot==lot)&&(t&&u))by rw[ht,hu]);clear he cZ i1 i2 hs ht hu;cases q:(e.lot==lot)with
    |false=>
     have q1:(e.lot !=lot)=true:=by simpa using q
     have q2: ¬e.lot=lot:=by simpa using q
     have HN:=aa (show((e.lot==lot)&&(ew e.area&&uu v e))=false by rw[HB.zo,q];rfl);go_wp2_with (first|((with_reducible refine ag (ep HT.zo _ _ _ _ (HA.zo.exts (HX.zo.trans ae))) ?_);rintro e w' ⟨rfl,x7,rfl⟩)|((with_reducible refine ag (kU 89 #[.pointer (some ⟨wr.heap.size,0,none⟩)] (fun _=>uu v e) _ _ _ [j8 v] _ wE ?_ ?_) ?_);exact HS.zo.exts (HX.zo.trans ae);exact(fun w' i d cs he hd hR=>VV e v wr.heap.size ao ac cs w' (by match i,hd with|0,hd=>(cases hd;exact hR)) (HA.zo.exts (HX.zo.trans (af.trans ae he))) (af.cell he (by simp[go_sem])) (af.cell he (by simp[go_sem])));rw[HU.zo];rintro e w' ⟨rfl,x9,rfl⟩))
     refine⟨⟨k+1,by omega,by go_num,HX.zo.trans ae,fun j e2 hj he2=> ?_⟩,?_⟩
     ·rcases Nat.lt_or_ge j k with h1|h1
      ·exact ey.zo j e2 h1 he2
      ·obtain rfl:j=k:=by omega
       have e3:=HD.zo;rw[he2]at e3;cases e3;rw[HN.zo];try rfl
     ·simp[intOf];omega
    |true=>
    have HN:=aa (show((e.lot==lot)&&(ew e.area&&uu v e))=(t&&u)by rw[HB.zo,q];rfl);have q1:(e.lot !=lot)=false:=by simpa using q
    have q2:e.lot=lot:=by simpa using q
    cases t with
    |false=>
     go_wp2_with (first|((with_reducible refine ag (ep HT.zo _ _ _ _ (HA.zo.exts (HX.zo.trans ae))) ?_);rintro e w' ⟨rfl,x7,rfl⟩)|((with_reducible refine ag (kU 89 #[.pointer (some ⟨wr.heap.size,0,none⟩)] (fun _=>uu v e) _ _ _ [j8 v] _ wE ?_ ?_) ?_);exact HS.zo.exts (HX.zo.trans ae);exact(fun w' i d cs he hd hR=>VV e v wr.heap.size ao ac cs w' (by match i,hd with|0,hd=>(cases hd;exact hR)) (HA.zo.exts (HX.zo.trans (af.trans ae he))) (af.cell he (by simp[go_sem])) (af.cell he (by simp[go_sem])));rw[HU.zo];rintro e w' ⟨rfl,x9,rfl⟩))
     refine⟨⟨k+1,by omega,by go_num,HX.zo.trans ae,fun j e2 hj he2=> ?_⟩,?_⟩
     ·rcases Nat.lt_or_ge j k with h1|h1
      ·exact ey.zo j e2 h1 he2
      ·obtain rfl:j=k:=by omega
       have e3:=HD.zo;rw[he2]at e3;cases e3;rw[HN.zo];try rfl
     ·simp[intOf];omega
    |true=>
    cases u with
    |true=>
     have JL:=aa (UF.zo k e HD.zo HN.zo);go_wp2_with (first|((with_reducible refine ag (ep HT.zo _ _ _ _ (HA.zo.exts (HX.zo.trans ae))) ?_);rintro e w' ⟨rfl,x7,rfl⟩)|((with_reducible refine ag (kU 89 #[.pointer (some ⟨wr.heap.size,0,none⟩)] (fun _=>uu v e) _ _ _ [j8 v] _ wE ?_ ?_) ?_);exact HS.zo.exts (HX.zo.trans ae);exact(fun w' i d cs he hd hR=>VV e v wr.heap.size ao ac cs w' (by match i,hd with|0,hd=>(cases hd;exact hR)) (HA.zo.exts (HX.zo.trans (af.trans ae he))) (af.cell he (by simp[go_sem])) (af.cell he (by simp[go_sem])));rw[HU.zo];rintro e w' ⟨rfl,x9,rfl⟩))
     go_ret;rw[JL.zo];exact⟨rfl,HX.zo.trans ae⟩
    |false=>
     go_wp2_with (first|((with_reducible refine ag (ep HT.zo _ _ _ _ (HA.zo.exts (HX.zo.trans ae))) ?_);rintro e w' ⟨rfl,x7,rfl⟩)|((with_reducible refine ag (kU 89 #[.pointer (some ⟨wr.heap.size,0,none⟩)] (fun _=>uu v e) _ _ _ [j8 v] _ wE ?_ ?_) ?_);exact HS.zo.exts (HX.zo.trans ae);exact(fun w' i d cs he hd hR=>VV e v wr.heap.size ao ac cs w' (by match i,hd with|0,hd=>(cases hd;exact hR)) (HA.zo.exts (HX.zo.trans (af.trans ae he))) (af.cell he (by simp[go_sem])) (af.cell he (by simp[go_sem])));rw[HU.zo];rintro e w' ⟨rfl,x9,rfl⟩))
     refine⟨⟨k+1,by omega,by go_num,HX.zo.trans ae,fun j e2 hj he2=> ?_⟩,?_⟩
     ·rcases Nat.lt_or_ge j k with h1|h1
      ·exact ey.zo j e2 h1 he2
      ·obtain rfl:j=k:=by omega
       have e3:=HD.zo;rw[he2]at e3;cases e3;rw[HN.zo];try rfl
     ·simp[intOf];omega
   ·obtain rfl:n=k:=by omega
    have JL:=aa (show res=true by
     rw[HF.zo,Bool.true_and,List.all_eq_true];intro x hx;obtain⟨j,hj⟩:=List.getElem?_of_mem hx;rw[ey.zo j x (by have:=(bw hj).1;rw[CO.zo]at this;exact this) hj];rfl)
    go_wp2;go_ret;rw[JL.zo];exact⟨rfl,HX.zo.trans ae⟩
def pd(w:World)(k:TypeId)(b n:Nat)(f:Lit->Option Int):Prop:= ∃D:DataW Unit,w.ownsMap prog k (plainElem prog 3) b n D/\(∀l,D.atKey l (.lit (.int .i64 0))=.lit (.int .i64 ((f l).getD 0)))/\∀l,WideAt.IsKeyLit l->Maps.has D l=(f l).isSome
open Classical in
noncomputable def Dn(f:Lit->Option Int)(kl:Lit)(x:Int):Lit->Option Int:=fun l=>if l=kl then some x else f l
theorem ug(f:Lit->Option Int)(kl:Lit)(x:Int):Dn f kl x kl=some x:=by simp[Dn]
theorem oV(f:Lit->Option Int){kl l:Lit}(x:Int)(h:l≠kl):Dn f kl x l=f l:=by simp[Dn,h]
theorem pd.made(w:World)(k:TypeId):pd (w.alloc (.map #[] 0)) k w.heap.size 0 fun _=>none:=⟨_,World.ownsMap_made _ _ _ _,fun l=>rfl,fun l _=>rfl⟩
theorem pd.kept{w w':World}{k:TypeId}{b n:Nat}{f:Lit->Option Int}{row:Option Nat}(h:pd w k b n f)(hg:w.grownBy w' row)(hne:some b≠row):pd w' k b n f:=by
 obtain⟨D,h1,h2⟩:=h;exact⟨D,h1.kept hg hne,h2⟩
theorem pd.exts{w w':World}{k:TypeId}{b n:Nat}{f:Lit->Option Int}(h:pd w k b n f)(he:af w w'):pd w' k b n f:=h.kept (er he none) (by simp)
theorem pd.lt{w:World}{k:TypeId}{b n:Nat}{f:Lit->Option Int}(h:pd w k b n f):b<w.heap.size:=by
 obtain⟨D,h1,_⟩:=h;exact h1.lt
theorem pd.look{w:World}{k t b n:Nat}{f:Lit->Option Int}{key:Value}{kl:Lit}(h:pd w k b n f)(K:Keyed prog k)(ht:prog.underlying t=some (.map k 3))(hkey:keyOf prog k key=some kl)(hk:WideAt.IsKeyLit kl):(Instr.lookup t (.map (some b)) key true).run prog w=.ok (.tuple #[.int .i64 ((f kl).getD 0),.bool (f kl).isSome]) w:=by
 obtain⟨D,h1,h2,h3⟩:=h;obtain⟨v,ps,hrun,hv⟩:=h1.look_ok K ht (XN w) (plainElem_int underlying3 (by decide)) hkey;obtain⟨x,rfl,hx,_⟩:=plainElem_int_inv underlying3 hv;rw[hrun,h3 kl hk];have:=h2 kl;simp only[Prod.mk.injEq]at hx;rw[hx.1]at this;cases this;rfl
theorem pd.put{w:World}{k t b n:Nat}{f:Lit->Option Int}{key:Value}{kl:Lit}(h:pd w k b n f)(K:Keyed prog k)(ht:prog.underlying t=some (.map k 3))(hn:n<maxLen)(hkey:keyOf prog k key=some kl)(hk:WideAt.IsKeyLit kl)(x:Int)(hx:I64 x):∃w',(Instr.mapUpdate t (.map (some b)) key (.int .i64 x)).run prog w=.ok () w'/\pd w' k b (n+1) (Dn f kl x)/\w.grownBy w' (some b):=by
 obtain⟨D,h1,h2,h3⟩:=h;obtain⟨w',r1,r2,r3⟩:=h1.update K ht hn hkey (plainElem_int underlying3 (XO hx));refine⟨w',r1,⟨_,r2,fun l=> ?_,fun l hl=> ?_⟩,r3⟩
 ·by_cases hl:l=kl
  ·subst hl
   rw[ug];exact atKey_put_same h1.isMap hk _ _
  ·rw[oV f x hl,atKey_put_other hl]
   exact h2 l
 ·by_cases e:l=kl
  ·subst e
   rw[ug,has_put_same h1.isMap hk];rfl
  ·rw[oV f x e,has_put_other e]
   exact h3 l hl
theorem Jn{w:World}{ops:Array Oper}{rest:List Oper}{o:Oper}{a:Act}{Q:Exit->Act->World->Prop}
 (hg:o.guard=none) (m x v:Operand) (t k:TypeId) (hop:o.op=Op.mapUpdate t m x v) (K:Keyed prog k) (ht:prog.underlying t=some (.map k 3)) (b n:Nat) (f:Lit->Option Int)
 (hm:a.eval m=.map (some b)) (hown:pd w k b n f) (hn:n<maxLen) (key:Value) (y:Int) (kl:Lit) (hx:a.eval x=key) (hv:a.eval v=.int .i64 y) (hy:I64 y) (hkey:keyOf prog k key=some kl) (hk:WideAt.IsKeyLit kl)
 (hK:∀w',pd w' k b (n+1) (Dn f kl y)->w.grownBy w' (some b)->wpList prog ops Q rest (a.put o.dst undef) w'):
 wpList prog ops Q (o::rest) a w:=by
 refine wpList_plain hg fun K' hK'=> ?_
 obtain⟨w',hrun,r1,r2⟩:=hown.put K ht hn hkey hk y hy;unfold Oper.wp;simp[execOp,hop,hm,hx,hv,hrun,Result.andThen];exact hK' _ _ (hK w' r1 r2)
theorem ags(es:List uO)(lot:Int)(v:gR)(hv:iE v=true)(bT bD:Nat)(eo:Option Addr)(en ec:Nat)(cs:zv)(w:World)(hR:(iD).R w cs v)(hE:Sl vG w eo en ec es)(cT:w.cell? ⟨bT,9,none⟩=some (.slice eo en ec))(cD:w.cell? ⟨bD,0,none⟩=some (.int .i64 lot)):
 Calls prog 28 (#[.agg cs.toArray]++ #[.pointer (some ⟨bT,0,none⟩),.pointer (some ⟨bD,0,none⟩)]) w (cX (.bool (!ko es lot v)) w):=by
 have HR:=aa hR;have HE:=aa hE;obtain⟨rfl,_⟩:=hR;have lT:=bP cT;have lD:=bP cD;clear hE;show Calls prog 28 #[.agg #[.int .i64 v.base.x0,.int .i64 v.base.y0,.int .i64 v.base.x1,.int .i64 v.base.y1,.int .i64 v.z0,.int .i64 v.z1,.int .i64 v.use,.int .i64 v.units,.bool v.extra],.pointer (some ⟨bT,0,none⟩),.pointer (some ⟨bD,0,none⟩)] w _;obtain⟨res,hres⟩:∃x,ko es lot v=x:=⟨_,rfl⟩;have aD:=aa hres;rw[hres];have HV:=aa hv;clear hres hv;go_enter func28,ntmps28;go_wp2;refine bI ?_;intro W3 hW3;have HW3:=aa (show af w W3 by rw[hW3];exact ae);have T0:∀w',af W3 w'->w'.cell? ⟨bT,9,none⟩=some (.slice eo en ec):=pL (af.refl W3) (af.cell HW3.zo cT);have T1:∀w',af W3 w'->w'.cell? ⟨bD,0,none⟩=some (.int .i64 lot):=pL (af.refl W3) (af.cell HW3.zo cD);have T2:∀w',af W3 w'->(jf 98 ⟨w.heap.size,0,none⟩).run prog w'=.ok (.agg #[.int .i64 v.base.x0,.int .i64 v.base.y0,.int .i64 v.base.x1,.int .i64 v.base.y1,.int .i64 v.z0,.int .i64 v.z1,.int .i64 v.use,.int .i64 v.units,.bool v.extra]) w':=fun w' he=>GM (cs:= [.int .i64 v.base.x0,.int .i64 v.base.y0,.int .i64 v.base.x1,.int .i64 v.base.y1,.int .i64 v.z0,.int .i64 v.z1,.int .i64 v.use,.int .i64 v.units,.bool v.extra]) rfl (fun j u hu=>af.cell he (by
  rw[hW3]
  match j,hu with
  |0,hu=>(cases hu;simp[go_sem])
  |1,hu=>(cases hu;simp[go_sem])
  |2,hu=>(cases hu;simp[go_sem])
  |3,hu=>(cases hu;simp[go_sem])
  |4,hu=>(cases hu;simp[go_sem])
  |5,hu=>(cases hu;simp[go_sem])
  |6,hu=>(cases hu;simp[go_sem])
  |7,hu=>(cases hu;simp[go_sem])
  |8,hu=>(cases hu;simp[go_sem])))
 clear hW3 cT cD lT lD;go_region_held3 (fun w'=>af W3 w') (first|assumption|exact(af.refl _).drew|exact ae) ((first|((with_reducible refine ag (LK v _ _ ?_) ?_);exact(iD).exts HR.zo (HW3.zo.trans ae);rintro e w' ⟨bo,rfl,⟨y1,rfl⟩,hs⟩;(try simp only[bf,au]at hs);(have VO:=aa hs);clear hs)|((with_reducible refine ag (NR es lot v HV.zo _ _ _ _ _ _ ?_ ?_) ?_);exact HE.zo.exts (HW3.zo.trans ae);exact VO.zo.exts ae;rw[aD.zo];rintro e w' ⟨rfl,y2,rfl⟩)))
 all_goals(
  go_wp2;go_ret;exact⟨rfl,HW3.zo.trans ae⟩)
end Go.Proofs.YtomgpelfmgkknaaGreatDoor
