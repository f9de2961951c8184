/- Lemmas for the law. No conditions. -/
import Derived.Laws.StructEq
import Derived.Test.YtomgpelfmgkknaaGreatDoorM5
import Derived.Test.YtomgpelfmgkknaaGreatDoorM4
import Derived.Laws.MakeOwn
import Derived.Laws.OwnMore
import Derived.Laws.CopyRow
import Derived.StillTailTactics
namespace Go.Proofs.YtomgpelfmgkknaaGreatDoor
open Go.RowKit Go.Maps
open Go.Proofs.Tryz
set_option maxRecDepth 100000
set_option maxHeartbeats 40000000
set_option linter.unusedVariables false
set_option linter.unusedSimpArgs false
theorem acu:prog.underlying 74=some (.struct (prog.fieldsOf 74)):=by kernel_rfl
theorem Zi:prog.stoodInHeld 74=false:=by kernel_rfl
@[go_sem high] theorem ahA(w:World)(a0 b0:Int)(a1 b1:Int)(a2 b2:Int)(a3 b3:Int):(Op.equalIn 10000 74 (.agg #[.int .i64 a0,.int .i64 a1,.int .i64 a2,.int .i64 a3]) (.agg #[.int .i64 b0,.int .i64 b1,.int .i64 b2,.int .i64 b3])).run prog w=.ok ((a0==b0)&&((a1==b1)&&((a2==b2)&&(a3==b3)))) w:=by
 rw[run_equalIn_agg w 9999 74 _ _ acu Zi];cases h0:(a0==b0)<;>cases h1:(a1==b1)<;>cases h2:(a2==b2)<;>cases h3:(a3==b3)<;>simp[go_sem,underlying74,h0,h1,h2,h3]
theorem Zj:prog.underlying 167=some (.struct (prog.fieldsOf 167)):=by kernel_rfl
theorem Vx:prog.stoodInHeld 167=false:=by kernel_rfl
@[go_sem high] theorem aho(w:World)(a0 b0:Int)(a1 b1:Int):(Op.equalIn 10000 167 (.agg #[.int .i64 a0,.int .i64 a1]) (.agg #[.int .i64 b0,.int .i64 b1])).run prog w=.ok ((a0==b0)&&(a1==b1)) w:=by
 rw[run_equalIn_agg w 9999 167 _ _ Zj Vx];cases h0:(a0==b0)<;>cases h1:(a1==b1)<;>simp[go_sem,underlying167,h0,h1]
theorem Zk:prog.underlying 134=some (.struct (prog.fieldsOf 134)):=by kernel_rfl
theorem Vy:prog.stoodInHeld 134=false:=by kernel_rfl
@[go_sem high] theorem ahp(w:World)(a0 b0:Int)(a1 b1:Int)(a2 b2:Int):(Op.equalIn 10000 134 (.agg #[.int .i64 a0,.int .i64 a1,.int .i64 a2]) (.agg #[.int .i64 b0,.int .i64 b1,.int .i64 b2])).run prog w=.ok ((a0==b0)&&((a1==b1)&&(a2==b2))) w:=by
 rw[run_equalIn_agg w 9999 134 _ _ Zk Vy];cases h0:(a0==b0)<;>cases h1:(a1==b1)<;>cases h2:(a2==b2)<;>simp[go_sem,underlying134,h0,h1,h2]
theorem acv:prog.underlying 50=some (.struct (prog.fieldsOf 50)):=by kernel_rfl
theorem Zl:prog.stoodInHeld 50=false:=by kernel_rfl
@[go_sem high] theorem ahB(w:World)(a0 b0:Int)(a1 b1:Int)(a2 b2:Int)(a3 b3:Int):(Op.equalIn 10000 50 (.agg #[.int .i64 a0,.int .i64 a1,.int .i64 a2,.int .i64 a3]) (.agg #[.int .i64 b0,.int .i64 b1,.int .i64 b2,.int .i64 b3])).run prog w=.ok ((a0==b0)&&((a1==b1)&&((a2==b2)&&(a3==b3)))) w:=by
 rw[run_equalIn_agg w 9999 50 _ _ acv Zl];cases h0:(a0==b0)<;>cases h1:(a1==b1)<;>cases h2:(a2==b2)<;>cases h3:(a3==b3)<;>simp[go_sem,underlying50,h0,h1,h2,h3]
theorem Zm:prog.underlying 406=some (.struct (prog.fieldsOf 406)):=by kernel_rfl
theorem Vz:prog.stoodInHeld 406=false:=by kernel_rfl
@[go_sem high] theorem ahq(w:World)(a0 b0:Int)(a1 b1:Int):(Op.equalIn 10000 406 (.agg #[.int .i64 a0,.int .i64 a1]) (.agg #[.int .i64 b0,.int .i64 b1])).run prog w=.ok ((a0==b0)&&(a1==b1)) w:=by
 rw[run_equalIn_agg w 9999 406 _ _ Zm Vz];cases h0:(a0==b0)<;>cases h1:(a1==b1)<;>simp[go_sem,underlying406,h0,h1]
theorem Zn:prog.underlying 152=some (.struct (prog.fieldsOf 152)):=by kernel_rfl
theorem VA:prog.stoodInHeld 152=false:=by kernel_rfl
@[go_sem high] theorem ahr(w:World)(a0 b0:ByteArray)(a1 b1:Int):(Op.equalIn 10000 152 (.agg #[.string a0,.int .i64 a1]) (.agg #[.string b0,.int .i64 b1])).run prog w=.ok ((a0.toList==b0.toList)&&(a1==b1)) w:=by
 rw[run_equalIn_agg w 9999 152 _ _ Zn VA];cases h0:(a0.toList==b0.toList)<;>cases h1:(a1==b1)<;>simp[go_sem,underlying152,h0,h1]
abbrev UA(f:Nat){T:Type}(L:Lay T)(e:T->T->Bool):Prop:= ∀(ao bo:Option Addr)(n c m cc:Nat)(l l2:List T)(w:World)(h:Sl L w ao n c l)(h2:Sl L w bo m cc l2),Calls prog f #[.slice ao n c,.slice bo m cc] w (cX (.bool (lj e l l2)) w)
theorem Qw:(∀e,e=rcE->UA 184 je e)/\(∀e,e=Vd->UA 189 zV e)/\(∀e,e=Ao->UA 271 eY e)/\(∀e,e=Y0->UA 275 yw e)/\(∀e,e=Am->UA 316 eQ e):=by
 refine⟨?_,?_,?_,?_,?_⟩<;>intro e hE ao bo n c m cc l l2 w h h2
 all_goals
  have HE:=aa hE;clear hE;have H:=aa h;have H2:=aa h2;have hm:=h.nle;unfold maxLen at hm;have HL:=aa h.1;have HL2:=aa h2.1;clear h h2;by_cases hnm:n=m
  ·subst hnm
   have q:((n:Int) !=(n:Int))=false:=by simp
   first|go_enter func184,ntmps184|go_enter func189,ntmps189|go_enter func271,ntmps271|go_enter func275,ntmps275|go_enter func316,ntmps316
   go_wp2;go_loopw [13] (fun i wr=> ∃(k:Nat),k<=n/\i=.int .i64 k/\af w wr/\∀j x y,j<k->l[j]?=some x->l2[j]?=some y->e x y=true) (fun i _=>n - (intOf i).toNat)
   case atStart=>exact⟨0,by omega,rfl,af.refl _,fun j x y hj=>by omega⟩
   case round=>
    obtain⟨k,hk,rfl,⟨y,rfl⟩,hall⟩:=hrel;have HA:=aa hall;clear hall;by_cases hlt:k<n
    ·obtain⟨d,hd⟩:=H.zo.ex hlt
     obtain⟨d2,hd2⟩:=H2.zo.ex hlt;obtain⟨b,off,cs,rfl,lb,hR,hld⟩:=H.zo.ld hd;obtain⟨b2,off2,cs2,rfl,Uz,hR2,Ez⟩:=H2.zo.ld hd2;obtain⟨rfl,_⟩:=hR;obtain⟨rfl,_⟩:=hR2;have HD:=aa hd;have HD2:=aa hd2;clear hd hd2;obtain⟨r,hr⟩:∃r,e d d2=r:=⟨_,rfl⟩;have HP:=aa hr;rw[HE.zo]at hr;first|unfold rcE at hr|unfold Vd at hr|unfold Ao at hr|unfold Y0 at hr|unfold Am at hr
     cases r with
     |true=>
      go_wp2;first|refine eK ?_|refine eJ ?_
      repeat (go_big_quiet_step (fail))
      refine eM fun xq=> ?_
      go_wp2;refine⟨⟨k+1,by omega,by go_num,ae,fun j x y hj hx hy=> ?_⟩,?_⟩
      ·rcases Nat.lt_or_ge j k with h1|h1
       ·exact HA.zo j x y h1 hx hy
       ·obtain rfl:j=k:=by omega
        have e9:=HD.zo;have e2:=HD2.zo;rw[hx]at e9;rw[hy]at e2;cases e9;cases e2;exact HP.zo
      ·simp[intOf];omega
     |false=>
      go_wp2;first|refine eK ?_|refine eJ ?_
      repeat (go_big_quiet_step (fail))
      refine eM fun xq=> ?_
      go_wp2;go_ret;exact⟨by rw[tD HD.zo HD2.zo HP.zo];rfl,ae⟩
    ·obtain rfl:k=n:=by omega
     go_wp2;go_ret;exact⟨by rw[vT (HL.zo.trans HL2.zo.symm) fun j x y hx hy=>HA.zo j x y (by have:=(bw hx).1;rw[HL.zo]at this;exact this) hx hy];rfl,ae⟩
  ·have q:((n:Int) !=(m:Int))=true:=by simp;omega
   have E:=aa (vS (e:=e) (l:=l) (m:=l2) (by rw[HL.zo,HL2.zo];exact hnm));clear hnm;first|go_enter func184,ntmps184|go_enter func189,ntmps189|go_enter func271,ntmps271|go_enter func275,ntmps275|go_enter func316,ntmps316
   go_wp2;go_ret;exact⟨by rw[E.zo];rfl,ae⟩
theorem Qx:UA 184 je rcE:=Qw.1 _ rfl
theorem qi:UA 189 zV Vd:=Qw.2.1 _ rfl
theorem Hi:UA 271 eY Ao:=Qw.2.2.1 _ rfl
theorem AU:UA 275 yw Y0:=Qw.2.2.2.1 _ rfl
theorem Qy:UA 316 eQ Am:=Qw.2.2.2.2 _ rfl
theorem dT(ao bo:Option Addr)(n c m cc:Nat)(l l2:List ByteArray)(w:World)(h:Sl fC w ao n c l)(h2:Sl fC w bo m cc l2):Calls prog 229 #[.slice ao n c,.slice bo m cc] w (cX (.bool (lj pN l l2)) w):=by
 have H:=aa h;have H2:=aa h2;have hm:=h.nle;unfold maxLen at hm;have HL:=aa h.1;have HL2:=aa h2.1;clear h h2;by_cases hnm:n=m
 ·subst hnm
  have q:((n:Int) !=(n:Int))=false:=by simp
  go_enter func229,ntmps229;go_wp2;go_loopw [13] (fun i wr=> ∃(k:Nat),k<=n/\i=.int .i64 k/\af w wr/\∀j x y,j<k->l[j]?=some x->l2[j]?=some y->pN x y=true) (fun i _=>n - (intOf i).toNat)
  case atStart=>exact⟨0,by omega,rfl,af.refl _,fun j x y hj=>by omega⟩
  case round=>
   obtain⟨k,hk,rfl,⟨y,rfl⟩,hall⟩:=hrel;have HA:=aa hall;clear hall;by_cases hlt:k<n
   ·obtain⟨d,hd⟩:=H.zo.ex hlt
    obtain⟨d2,hd2⟩:=H2.zo.ex hlt;obtain⟨b,off,rfl,lb,c0,r0⟩:=lH H.zo hd;obtain⟨b2,off2,rfl,Uz,d0,s0⟩:=lH H2.zo hd2;clear r0 s0;have HD:=aa hd;have HD2:=aa hd2;clear hd hd2;obtain⟨r,hr⟩:∃r,(d.toList==d2.toList)=r:=⟨_,rfl⟩;have HP:=aa (show pN d d2=r from hr);cases r with
    |true=>
     go_wp2;first|refine eK ?_|refine eJ ?_
     repeat (go_big_quiet_step (fail))
     refine eM fun xq=> ?_
     go_wp2;refine⟨⟨k+1,by omega,by go_num,ae,fun j x y hj hx hy=> ?_⟩,?_⟩
     ·rcases Nat.lt_or_ge j k with h1|h1
      ·exact HA.zo j x y h1 hx hy
      ·obtain rfl:j=k:=by omega
       have e:=HD.zo;have e2:=HD2.zo;rw[hx]at e;rw[hy]at e2;cases e;cases e2;exact HP.zo
     ·simp[intOf];omega
    |false=>
     go_wp2;first|refine eK ?_|refine eJ ?_
     repeat (go_big_quiet_step (fail))
     refine eM fun xq=> ?_
     go_wp2;go_ret;exact⟨by rw[tD HD.zo HD2.zo HP.zo];rfl,ae⟩
   ·obtain rfl:k=n:=by omega
    go_wp2;go_ret;exact⟨by rw[vT (HL.zo.trans HL2.zo.symm) fun j x y hx hy=>HA.zo j x y (by have:=(bw hx).1;rw[HL.zo]at this;exact this) hx hy];rfl,ae⟩
 ·have q:((n:Int) !=(m:Int))=true:=by simp;omega
  have E:=aa (vS (e:=pN) (l:=l) (m:=l2) (by rw[HL.zo,HL2.zo];exact hnm));clear hnm;go_enter func229,ntmps229;go_wp2;go_ret;exact⟨by rw[E.zo];rfl,ae⟩
theorem yF(v:gR):0<=fM v/\fM v<=5000:=by
 unfold fM;cases q:iE v with
 |false=>simp
 |true=>
  obtain⟨h0,h1,h2,h3,_⟩:=mS q;cases v.extra with
  |true=>simp
  |false=>exact XS (by omega) (by omega)
theorem nT(r:Rc):0<=fO r/\fO r<=1099511627776:=by
 unfold fO;cases q:kt r with
 |false=>simp
 |true=>
  obtain⟨a1,a2,a3,a4,a5,a6⟩:=qK q;exact Qe (by omega) (by omega) (by omega) (by omega)
def jl(v:gR):Int:=if iE v then fO v.base*fM v else 0
theorem DJ(v:gR):0<=fO v.base*fM v/\fO v.base*fM v<=5497558138880000:=by
 obtain⟨a1,a2⟩:=nT v.base;obtain⟨b1,b2⟩:=yF v;exact⟨Int.mul_nonneg a1 b1,Int.le_trans (Int.mul_le_mul a2 b2 b1 (by decide)) (by decide)⟩
theorem Hk(v:gR)(w:World):Calls prog 251 #[.agg #[.int .i64 v.base.x0,.int .i64 v.base.y0,.int .i64 v.base.x1,.int .i64 v.base.y1,.int .i64 v.z0,.int .i64 v.z1,.int .i64 v.use,.int .i64 v.units,.bool v.extra]] w (cX (.int .i64 (jl v)) w):=by
 cases q:iE v with
 |false=>
  have Q:=aa q;have e:jl v=0:=by simp[jl,q]
  rw[e];clear q e;go_enter func251,ntmps251;go_wp2_with (go_at_call 164;(with_reducible refine(js v _).mono ?_);rintro e w' ⟨rfl,x9,rfl⟩;rw[Q.zo])
  go_ret;exact⟨rfl,ae⟩
 |true=>
  have Q:=aa q;obtain⟨m1,m2⟩:=DJ v;have e:jl v=fO v.base*fM v:=by simp[jl,q]
  rw[e];have w1:IntKind.i64.wrap (fO v.base*fM v)=fO v.base*fM v:=ji (by omega) (by omega);clear q e m1 m2;go_enter func251,ntmps251;go_wp2_with (go_at_call 164;(with_reducible refine(js v _).mono ?_);rintro e w' ⟨rfl,x9,rfl⟩;rw[Q.zo])
  refine bI ?_;intro W3 hW3;have iU:=aa (show af w W3 by rw[hW3];exact ae);have L1:∀w',af W3 w'->(jf 98 ⟨w.heap.size,0,none⟩).run prog w'=.ok (.agg #[.int .i64 v.base.x0,.int .i64 v.base.y0,.int .i64 v.base.x1,.int .i64 v.base.y1,.int .i64 v.z0,.int .i64 v.z1,.int .i64 v.use,.int .i64 v.units,.bool v.extra]) w':=fun w' he=>GM (cs:= [.int .i64 v.base.x0,.int .i64 v.base.y0,.int .i64 v.base.x1,.int .i64 v.base.y1,.int .i64 v.z0,.int .i64 v.z1,.int .i64 v.use,.int .i64 v.units,.bool v.extra]) rfl (fun j u hu=>af.cell he (by rw[hW3];match j,hu with
   |0,hu=>(simp at hu;subst hu;simp[go_sem])
   |1,hu=>(simp at hu;subst hu;simp[go_sem])
   |2,hu=>(simp at hu;subst hu;simp[go_sem])
   |3,hu=>(simp at hu;subst hu;simp[go_sem])
   |4,hu=>(simp at hu;subst hu;simp[go_sem])
   |5,hu=>(simp at hu;subst hu;simp[go_sem])
   |6,hu=>(simp at hu;subst hu;simp[go_sem])
   |7,hu=>(simp at hu;subst hu;simp[go_sem])
   |8,hu=>(simp at hu;subst hu;simp[go_sem])))
  have L2:∀w',af W3 w'->(jf 74 ⟨w.heap.size,0,none⟩).run prog w'=.ok (.agg #[.int .i64 v.base.x0,.int .i64 v.base.y0,.int .i64 v.base.x1,.int .i64 v.base.y1]) w':=fun w' he=>pg (cs:= [.int .i64 v.base.x0,.int .i64 v.base.y0,.int .i64 v.base.x1,.int .i64 v.base.y1]) rfl (fun j u hu=>af.cell he (by rw[hW3];match j,hu with
   |0,hu=>(simp at hu;subst hu;simp[go_sem])
   |1,hu=>(simp at hu;subst hu;simp[go_sem])
   |2,hu=>(simp at hu;subst hu;simp[go_sem])
   |3,hu=>(simp at hu;subst hu;simp[go_sem])))
  clear hW3;go_region_held3 (fun w'=>af W3 w') (first|assumption|exact(af.refl _).drew|exact ae) ((first|(go_at_call 154;(with_reducible refine(tG v.base _).mono ?_);rintro e w' ⟨rfl,x8,rfl⟩)|(go_at_call 253;(with_reducible refine(AW v _).mono ?_);rintro e w' ⟨rfl,x7,rfl⟩)))
  all_goals(
   go_wp2;go_ret;exact⟨rfl,iU.zo.trans ae⟩)
theorem Hl(a b:Nat)(h:a+b<4611686018427387904):((a:Int)+(b:Int)) / 2=(((a+b) / 2:Nat):Int):=by omega
theorem XU(fid:FuncId)(caps:Array Value)(p:Span->Bool)(ao:Option Addr)(n c:Nat)(l:List Span)(t:Int)(w:World)(hcf:Enters fid)(h:Sl eQ w ao n c l)(hn:n<=100000000)
 (hf:∀(w':World)(i:Nat)(d:Span)(cs:zv),af w w'->l[i]?=some d->(eQ).R w' cs d->Calls prog fid (#[.agg cs.toArray,.int .i64 t]++caps) w' (cX (.int .i64 (if p d then -1 else 1)) w')):
 Calls prog 350 #[.slice ao n c,.int .i64 t,.func (.func fid) #[] caps] w (cX (.tuple #[.int .i64 (CC (DF p l) (n+1) 0 n:Nat),.bool false]) w):=by
 have H:=aa h;have HF:=aa hf;have hm:=h.nle;unfold maxLen at hm;unfold Enters at hcf;obtain⟨res,hres⟩:∃r,CC (DF p l) (n+1) 0 n=r:=⟨_,rfl⟩;rw[hres];have aD:=aa hres;clear h hf hres;go_enter func350,ntmps350;go_wp2;go_loopw [9,10] (fun a b wr=> ∃(i j f:Nat),i<=j/\j<=n/\a=.int .i64 i/\b=.int .i64 j/\af w wr/\j - i<f/\CC (DF p l) f i j=res) (fun a b _=>(intOf b).toNat - (intOf a).toNat)
 case atStart=>exact⟨0,n,n+1,by omega,by omega,rfl,rfl,af.refl _,by omega,aD.zo⟩
 case round=>
  obtain⟨i,j,f,hij,hj,rfl,rfl,⟨y,rfl⟩,hf,hr⟩:=hrel;obtain⟨f,rfl⟩:∃g,f=g+1:=⟨f - 1,by omega⟩;have HR:=aa hr;clear hr;by_cases hlt:i<j
  ·obtain⟨m,hm2⟩:∃m,(i+j) / 2=m:=⟨_,rfl⟩
   have hm1:i<=m:=by omega
   have UC:m<j:=by omega
   have HM:=aa hm2;have sh:=Hl i j (by omega);rw[hm2]at sh;obtain⟨d,hd⟩:=H.zo.ex (by omega:m<n);obtain⟨b,off,cs,rfl,lb,hR,hld⟩:=H.zo.ld hd;have HD:=aa hd;have HRR:=aa hR;have hp:DF p l m=p d:=by unfold DF;rw[hd]
   have HB:=aa (show CC (DF p l) (f+1) i j=if p d then CC (DF p l) f (m+1) j else CC (DF p l) f i m by
    conv=>lhs;unfold CC
    rw[if_pos hlt,hm2,hp])
   clear hd hR hm2 hp;obtain⟨r,hr⟩:∃r,p d=r:=⟨_,rfl⟩;have HP:=aa hr;clear hr;cases r with
   |false=>
    go_wp2_with ((with_reducible refine ag (HF.zo _ m d _ ae HD.zo ((eQ).exts HRR.zo ae)) ?_);rintro e w' ⟨rfl,x9,rfl⟩;rw[HP.zo])
    refine⟨⟨i,m,f,by omega,by omega,rfl,rfl,ae,by omega,?_⟩,?_⟩
    ·rw[<-HR.zo,HB.zo,HP.zo]
     rfl
    ·simp[intOf];omega
   |true=>
    go_wp2_with ((with_reducible refine ag (HF.zo _ m d _ ae HD.zo ((eQ).exts HRR.zo ae)) ?_);rintro e w' ⟨rfl,x9,rfl⟩;rw[HP.zo])
    refine⟨⟨m+1,j,f,by omega,by omega,by go_num,rfl,ae,by omega,?_⟩,?_⟩
    ·rw[<-HR.zo,HB.zo,HP.zo]
     rfl
    ·simp[intOf];omega
  ·obtain rfl:i=j:=by omega
   have e0:res=i:=by
    rw[<-HR.zo];unfold CC;rw[if_neg (Nat.lt_irrefl _)]
   subst e0;by_cases hin:res<n
   ·obtain⟨d,hd⟩:=H.zo.ex hin
    obtain⟨b,off,cs,rfl,lb,hR,hld⟩:=H.zo.ld hd;have HD:=aa hd;have HRR:=aa hR;clear hd hR;obtain⟨r,hr⟩:∃r,p d=r:=⟨_,rfl⟩;have HP:=aa hr;clear hr;cases r with
    |false=>
     go_wp2_with ((with_reducible refine ag (HF.zo _ res d _ ae HD.zo ((eQ).exts HRR.zo ae)) ?_);rintro e w' ⟨rfl,x9,rfl⟩;rw[HP.zo])
     go_ret2;exact⟨rfl,ae⟩
    |true=>
     go_wp2_with ((with_reducible refine ag (HF.zo _ res d _ ae HD.zo ((eQ).exts HRR.zo ae)) ?_);rintro e w' ⟨rfl,x9,rfl⟩;rw[HP.zo])
     go_ret2;exact⟨rfl,ae⟩
   ·go_wp2
    go_ret2;exact⟨rfl,ae⟩
theorem QE(fid:FuncId)(caps:Array Value)(p:Strip->Bool)(ao:Option Addr)(n c:Nat)(l:List Strip)(t:Int)(w:World)(hcf:Enters fid)(h:Sl stripL w ao n c l)(hn:n<=100000000)
 (hf:∀(w':World)(i:Nat)(d:Strip)(cs:zv),af w w'->l[i]?=some d->(stripL).R w' cs d->Calls prog fid (#[.agg cs.toArray,.int .i64 t]++caps) w' (cX (.int .i64 (if p d then -1 else 1)) w')):
 Calls prog 325 #[.slice ao n c,.int .i64 t,.func (.func fid) #[] caps] w (cX (.tuple #[.int .i64 (CC (DF p l) (n+1) 0 n:Nat),.bool false]) w):=by
 have H:=aa h;have HF:=aa hf;have hm:=h.nle;unfold maxLen at hm;unfold Enters at hcf;obtain⟨res,hres⟩:∃r,CC (DF p l) (n+1) 0 n=r:=⟨_,rfl⟩;rw[hres];have aD:=aa hres;clear h hf hres;go_enter func325,ntmps325;go_wp2;go_loopw [9,10] (fun a b wr=> ∃(i j f:Nat),i<=j/\j<=n/\a=.int .i64 i/\b=.int .i64 j/\af w wr/\j - i<f/\CC (DF p l) f i j=res) (fun a b _=>(intOf b).toNat - (intOf a).toNat)
 case atStart=>exact⟨0,n,n+1,by omega,by omega,rfl,rfl,af.refl _,by omega,aD.zo⟩
 case round=>
  obtain⟨i,j,f,hij,hj,rfl,rfl,⟨y,rfl⟩,hf,hr⟩:=hrel;obtain⟨f,rfl⟩:∃g,f=g+1:=⟨f - 1,by omega⟩;have HR:=aa hr;clear hr;by_cases hlt:i<j
  ·obtain⟨m,hm2⟩:∃m,(i+j) / 2=m:=⟨_,rfl⟩
   have hm1:i<=m:=by omega
   have UC:m<j:=by omega
   have HM:=aa hm2;have sh:=Hl i j (by omega);rw[hm2]at sh;obtain⟨d,hd⟩:=H.zo.ex (by omega:m<n);obtain⟨b,off,cs,rfl,lb,hR,hld⟩:=H.zo.ld hd;have HD:=aa hd;have HRR:=aa hR;have hp:DF p l m=p d:=by unfold DF;rw[hd]
   have HB:=aa (show CC (DF p l) (f+1) i j=if p d then CC (DF p l) f (m+1) j else CC (DF p l) f i m by
    conv=>lhs;unfold CC
    rw[if_pos hlt,hm2,hp])
   clear hd hR hm2 hp;obtain⟨r,hr⟩:∃r,p d=r:=⟨_,rfl⟩;have HP:=aa hr;clear hr;cases r with
   |false=>
    go_wp2_with ((with_reducible refine ag (HF.zo _ m d _ ae HD.zo ((stripL).exts HRR.zo ae)) ?_);rintro e w' ⟨rfl,x9,rfl⟩;rw[HP.zo])
    refine⟨⟨i,m,f,by omega,by omega,rfl,rfl,ae,by omega,?_⟩,?_⟩
    ·rw[<-HR.zo,HB.zo,HP.zo]
     rfl
    ·simp[intOf];omega
   |true=>
    go_wp2_with ((with_reducible refine ag (HF.zo _ m d _ ae HD.zo ((stripL).exts HRR.zo ae)) ?_);rintro e w' ⟨rfl,x9,rfl⟩;rw[HP.zo])
    refine⟨⟨m+1,j,f,by omega,by omega,by go_num,rfl,ae,by omega,?_⟩,?_⟩
    ·rw[<-HR.zo,HB.zo,HP.zo]
     rfl
    ·simp[intOf];omega
  ·obtain rfl:i=j:=by omega
   have e0:res=i:=by
    rw[<-HR.zo];unfold CC;rw[if_neg (Nat.lt_irrefl _)]
   subst e0;by_cases hin:res<n
   ·obtain⟨d,hd⟩:=H.zo.ex hin
    obtain⟨b,off,cs,rfl,lb,hR,hld⟩:=H.zo.ld hd;have HD:=aa hd;have HRR:=aa hR;clear hd hR;obtain⟨r,hr⟩:∃r,p d=r:=⟨_,rfl⟩;have HP:=aa hr;clear hr;cases r with
    |false=>
     go_wp2_with ((with_reducible refine ag (HF.zo _ res d _ ae HD.zo ((stripL).exts HRR.zo ae)) ?_);rintro e w' ⟨rfl,x9,rfl⟩;rw[HP.zo])
     go_ret2;exact⟨rfl,ae⟩
    |true=>
     go_wp2_with ((with_reducible refine ag (HF.zo _ res d _ ae HD.zo ((stripL).exts HRR.zo ae)) ?_);rintro e w' ⟨rfl,x9,rfl⟩;rw[HP.zo])
     go_ret2;exact⟨rfl,ae⟩
   ·go_wp2
    go_ret2;exact⟨rfl,ae⟩
def nJ(p:Pt):Bool:=decide ((0:Int)<=p.x)&&decide (p.x<=1048576)&&decide ((0:Int)<=p.y)&&decide (p.y<=1048576)
theorem nU(p:Pt)(w:World):Calls prog 225 #[.agg #[.int .i64 p.x,.int .i64 p.y]] w (cX (.bool (nJ p)) w):=by
 cases q0:decide ((0:Int)<=p.x)with
 |false=>
  go_enter func225,ntmps225;go_wp2;go_ret;exact⟨by simp[nJ, *],ae⟩
 |true=>
  cases q1:decide (p.x<=1048576)with
  |false=>
   go_enter func225,ntmps225;go_wp2;go_ret;exact⟨by simp[nJ, *],ae⟩
  |true=>
   cases q2:decide ((0:Int)<=p.y)with
   |false=>
    go_enter func225,ntmps225;go_wp2;go_ret;exact⟨by simp[nJ, *],ae⟩
   |true=>
    cases q3:decide (p.y<=1048576)with
    |false=>
     go_enter func225,ntmps225;go_wp2;go_ret;exact⟨by simp[nJ, *],ae⟩
    |true=>
     go_enter func225,ntmps225;go_wp2;go_ret;exact⟨by simp[nJ, *],ae⟩
def xN(s:Side):Bool:=s.a.x==s.b.x
theorem j9(s:Side)(w:World):Calls prog 226 #[.agg #[.int .i64 s.a.x,.int .i64 s.a.y,.int .i64 s.b.x,.int .i64 s.b.y]] w (cX (.bool (xN s)) w):=by
 go_enter func226,ntmps226;go_wp2;go_ret;exact⟨rfl,ae⟩
def xO(s t:Side):Bool:=decide (jF (ou s.a.x s.b.x) (ou t.a.x t.b.x)<=ou (jF s.a.x s.b.x) (jF t.a.x t.b.x))&&decide (jF (ou s.a.y s.b.y) (ou t.a.y t.b.y)<=ou (jF s.a.y s.b.y) (jF t.a.y t.b.y))
theorem uX(s t:Side)(w:World):Calls prog 228 #[.agg #[.int .i64 s.a.x,.int .i64 s.a.y,.int .i64 s.b.x,.int .i64 s.b.y],.agg #[.int .i64 t.a.x,.int .i64 t.a.y,.int .i64 t.b.x,.int .i64 t.b.y]] w (cX (.bool (xO s t)) w):=by
 obtain⟨r,hr⟩:∃r,xO s t=r:=⟨_,rfl⟩;rw[hr];have HR:=aa hr;clear hr;go_enter func228,ntmps228;go_wp2_with fail
 all_goals(
  go_ret;refine⟨?_,ae⟩;rw[<-HR.zo];rename_i hq;unfold xO;first
   |(rw[zdt hq];rfl)
   |(rw[jE (Int.not_le.2 hq)];rfl))
theorem XY(a b:Int)(ao:Option Addr)(w:World)(h:Sl dv w ao 2 2 [a,b]):Calls prog 295 #[.slice ao 2 2] w (cX (.int .i64 (if a=0 then b else a)) w):=by
 obtain⟨bl,off,rfl,lb,c0,r0⟩:=dV h (i:=0) (d:=a) rfl;obtain⟨bl2,off2,h2,Uz,c1,r1⟩:=dV h (i:=1) (d:=b) rfl;simp only[Option.some.injEq,Addr.mk.injEq,and_true]at h2;obtain⟨rfl,rfl⟩:=h2;rw[Nat.add_zero]at c0;clear r0 r1 h;by_cases ha:a=0
 ·subst ha
  by_cases hb:b=0
  ·subst hb
   go_enter func295,ntmps295;go_wp2_with (first|(refine wp_loop_rounds 4 ?_;rw[rounds_succ])|(rw[rounds_succ]))
   go_ret;exact⟨rfl,ae⟩
  ·have q:(b !=0)=true:=by simpa using hb
   go_enter func295,ntmps295;go_wp2_with (first|(refine wp_loop_rounds 4 ?_;rw[rounds_succ])|(rw[rounds_succ]))
   go_ret;exact⟨rfl,ae⟩
 ·have q:(a !=0)=true:=by simpa using ha
  rw[if_neg ha];go_enter func295,ntmps295;go_wp2_with (first|(refine wp_loop_rounds 4 ?_;rw[rounds_succ])|(rw[rounds_succ]))
  go_ret;exact⟨rfl,ae⟩
def DN(a b:Pt):Int:=if Lib.compareInt a.x b.x=0 then Lib.compareInt a.y b.y else Lib.compareInt a.x b.x
theorem EK(x y:Int):I64 (Lib.compareInt x y):=by
 unfold Lib.compareInt;constructor<;>((repeat' split)<;>omega)
theorem QN{W:World}{b:Nat}{x y:Int}(hx:I64 x)(hy:I64 y)(c0:W.cell? ⟨b,0,none⟩=some (.int .i64 x))(c1:W.cell? ⟨b,1,none⟩=some (.int .i64 y)):Sl dv W (some ⟨b,0,none⟩) 2 2 [x,y]:=by
 refine ints_at (bP c0) rfl (by decide) (by intro z hz;simp at hz;rcases hz with rfl|rfl;exact hx;exact hy) (fun j z hj=> ?_)
 match j,hj with
 |0,hj=>(simp at hj;subst hj;exact c0)
 |1,hj=>(simp at hj;subst hj;exact c1)
theorem uY(a b:Pt)(w:World):Calls prog 227 #[.agg #[.int .i64 a.x,.int .i64 a.y],.agg #[.int .i64 b.x,.int .i64 b.y]] w (cX (.int .i64 (DN a b)) w):=by
 obtain⟨p,hp⟩:∃p,Lib.compareInt a.x b.x=p:=⟨_,rfl⟩;obtain⟨q,hq⟩:∃q,Lib.compareInt a.y b.y=q:=⟨_,rfl⟩;have e:DN a b=if p=0 then q else p:=by unfold DN;rw[hp,hq]
 rw[e];have HP:=aa hp;have HQ:=aa hq;have IP:=aa (show I64 p by rw[<-hp];exact EK _ _);have IQ:=aa (show I64 q by rw[<-hq];exact EK _ _);obtain⟨r,hr⟩:∃r,(if p=0 then q else p)=r:=⟨_,rfl⟩;rw[hr];have HR:=aa hr;clear hp hq e hr;go_enter func227,ntmps227;go_wp2;refine bI ?_;intro W3 hW3;have iU:=aa (show af w W3 by rw[hW3];exact ae);have T0:∀w',af W3 w'->w'.cell? ⟨w.heap.size,0,none⟩=some (.int .i64 a.x):=pL (af.refl W3) (by rw[hW3];simp[go_sem]);have T1:∀w',af W3 w'->w'.cell? ⟨w.heap.size,1,none⟩=some (.int .i64 a.y):=pL (af.refl W3) (by rw[hW3];simp[go_sem]);have U0:∀w',af W3 w'->w'.cell? ⟨w.heap.size+1,0,none⟩=some (.int .i64 b.x):=pL (af.refl W3) (by rw[hW3];simp[go_sem]);have U1:∀w',af W3 w'->w'.cell? ⟨w.heap.size+1,1,none⟩=some (.int .i64 b.y):=pL (af.refl W3) (by rw[hW3];simp[go_sem]);clear hW3;go_region_held3 (fun w'=>af W3 w') (first|assumption|exact(af.refl _).drew|exact ae) ((first|(go_at_call 249;(with_reducible refine(Tryz.cmp_Compare_int a.x b.x _).mono ?_);rintro e w' ⟨rfl,rfl⟩;rw[HP.zo])|(go_at_call 249;(with_reducible refine(Tryz.cmp_Compare_int a.y b.y _).mono ?_);rintro e w' ⟨rfl,rfl⟩;rw[HQ.zo])|(go_at_call 295;refine(XY p q _ _ (QN IP.zo IQ.zo (by simp[go_sem]) (by simp[go_sem]))).mono ?_;rintro e w' ⟨rfl,x3,rfl⟩;rw[HR.zo])))
 all_goals(
  go_wp2;go_ret;exact⟨rfl,iU.zo.trans ae⟩)
def ES(l:List Pt)(i:Nat):Pt:=l.getD i ⟨0,0⟩
def fH(l:List Pt)(i:Nat):Side:=⟨ES l i,ES l ((i+1)%l.length)⟩
def mI(l:List Pt):List Side:=(List.range l.length).map (fH l)
theorem tW{l:List Pt}{i:Nat}{d:Pt}(h:l[i]?=some d):ES l i=d:=by unfold ES;rw[List.getD_eq_getElem?_getD,h];rfl
theorem Rm:(prog.info? 321).map (fun i=>(i.zero,i.size,i.bytes))=some (some (.agg #[.int .i64 0,.int .i64 0,.int .i64 0,.int .i64 0]),4,32):=by kernel_rfl
theorem acP(w:World)(n:Nat)(hn:n<=1000):(Instr.makeSlice 318 (.int .i64 n) (.int .i64 n)).run prog w=.ok (.slice (some ⟨w.heap.size,0,none⟩) n n) (w.alloc (.cells (madeCells #[.int .i64 0,.int .i64 0,.int .i64 0,.int .i64 0] (n*4)) 321)):=by
 obtain⟨i0,hi,q⟩:=Option.map_eq_some_iff.1 Rm;simp only[Prod.mk.injEq]at q;obtain⟨hz0,hz1,hz2⟩:=q;have h:=run_make (P:=prog) w 318 321 i0 _ underlying318 hi hz0 .i64 .i64 n n (by omega) (by omega) (by rw[hz2];omega) (by omega);rw[hz1,Int.toNat_natCast]at h;exact h
def DZ(s:Side):zv:= [.int .i64 s.a.x,.int .i64 s.a.y,.int .i64 s.b.x,.int .i64 s.b.y]
theorem Rn:(prog.info? 321).map (·.size)=some 4:=by kernel_rfl
def putAt(arr:Array Value)(o:Nat)(vs:zv):Array Value:=(arr.toList.take o++vs++arr.toList.drop (o+vs.length)).toArray
theorem Ro(w:World)(arr:Array Value)(x:Ex)(o:Nat)(a b c d:Int)(ho:o+4<=arr.size):(PW 321 ⟨w.heap.size,o,none⟩ (.agg #[.int .i64 a,.int .i64 b,.int .i64 c,.int .i64 d])).run prog (av (w.alloc (.cells arr 321)) x)=.ok () (av (w.alloc (.cells (putAt arr o [.int .i64 a,.int .i64 b,.int .i64 c,.int .i64 d]) 321)) x):=by
 have hg:(av (w.alloc (.cells arr 321)) x).heap[w.heap.size]?=some (.cells arr 321 (0,0)):=by
  rw[iQ _ _ _ (by simp),mR,if_neg (Nat.lt_irrefl _),if_pos rfl]
 have h:=run_storeCells_at prog w.heap.size o 321 [.int .i64 a,.int .i64 b,.int .i64 c,.int .i64 d] 0 arr _ hg (by simpa using ho) (by simp[Value.oneCell']);rw[yx,if_pos (by simp),Ey,if_neg (Nat.lt_irrefl _),if_pos rfl]at h;obtain⟨i,hi,hs⟩:=Option.map_eq_some_iff.1 Rn;simp only[Nat.add_zero]at h;unfold PW putAt;rw[<-h];simp[storeVar,sizeOf,typeInfo,hi,Value.cells,hs]
theorem Km{arr:Array Value}{o:Nat}{vs:zv}(h:o+vs.length<=arr.size):(putAt arr o vs).size=arr.size:=by
 unfold putAt;simp only[List.size_toArray,dG,List.length_take,List.length_drop,Array.length_toList];omega
theorem NH{arr:Array Value}{o i:Nat}{vs:zv}(h:o<=arr.size)(hi:i<o):(putAt arr o vs)[i]?=arr[i]?:=by
 unfold putAt;rw[List.getElem?_toArray,List.append_assoc,List.getElem?_append_left (by simp;omega),List.getElem?_take,if_pos hi];simp
theorem NI{arr:Array Value}{o t:Nat}{vs:zv}{u:Value}(h:o<=arr.size)(ht:vs[t]?=some u):(putAt arr o vs)[o+t]?=some u:=by
 have hl:=(bw ht).1;unfold putAt;rw[List.getElem?_toArray,List.append_assoc,List.getElem?_append_right (by simp;omega),List.getElem?_append_left (by simp;omega)];rw[show o+t - (List.take o arr.toList).length=t by simp;omega];exact ht
theorem D5(ao:Option Addr)(n c:Nat)(l:List Pt)(w:World)(hn:n<=1000)(h:Sl zV w ao n c l):Calls prog 224 #[.slice ao n c] w fun e w'=> ∃v,e=.returned v/\SlV XG w' v (mI l)/\af w w':=by
 have M:=acP (n:=n) (hn:=hn);have H:=aa h;have HL:=aa h.1;clear h;go_enter func224,ntmps224;go_wp2;go_loopw [10] (fun i wr=> ∃(k:Nat)(arr:Array Value)(y:Ex),k<=n/\i=.int .i64 k/\wr=av (w.alloc (.cells arr 321)) y/\arr.size=n*4/\∀j t u,j<k->(DZ (fH l j))[t]?=some u->arr[j*4+t]?=some u) (fun i _=>n - (intOf i).toNat)
 case atStart=>exact⟨0,_,_,by omega,rfl,(cF _).symm,size_madeCells _ _,fun j t u hj=>by omega⟩
 case round=>
  obtain⟨k,arr,y,hk,rfl,rfl,hsz,hall⟩:=hrel;have HA:=aa hall;clear hall;by_cases hlt:k<n
  ·obtain⟨d,hd⟩:=H.zo.ex hlt
   obtain⟨b,off,cs,rfl,lb,hR,hld⟩:=H.zo.ld hd;have hlt2:(k+1)%n<n:=Nat.mod_lt _ (by omega);obtain⟨d2,hd2⟩:=H.zo.ex hlt2;obtain⟨b2,off2,cs2,h2,Uz,hR2,Ez⟩:=H.zo.ld hd2;simp only[Option.some.injEq,Addr.mk.injEq,and_true]at h2;obtain⟨rfl,rfl⟩:=h2;obtain⟨rfl,r0,r1⟩:=hR;obtain⟨rfl,s0,s1⟩:=hR2;clear r0 r1 s0 s1;obtain⟨m,hm⟩:∃m,(k+1)%n=m:=⟨_,rfl⟩;rw[hm]at Ez hlt2 hd2;have W1:((k:Int)+1)%(n:Int)=(m:Int):=by
    rw[<-hm];rfl
   have HD:=aa hd;have HD2:=aa hd2;have HM:=aa hm;clear hd hd2 hm;go_wp2;have L1:∀x,(jf 167 ⟨b,off+k*2,none⟩).run prog (av (w.alloc (.cells arr 321)) x)=_:=fun x=>hld _ ae
   have L2:∀x,(jf 167 ⟨b,off+m*2,none⟩).run prog (av (w.alloc (.cells arr 321)) x)=_:=fun x=>Ez _ ae
   have L3:∀x,(jf 167 ⟨b,off+k*2,none⟩).run prog (av (w.alloc (.cells arr 321)) x).drew=_:=fun x=>hld _ ae
   have L4:∀x,(jf 167 ⟨b,off+m*2,none⟩).run prog (av (w.alloc (.cells arr 321)) x).drew=_:=fun x=>Ez _ ae
   clear hld Ez;have Qu:k*4+4<=arr.size:=by rw[hsz];omega
   have ST:=fun x=>Ro w arr x (k*4) d.x d.y d2.x d2.y Qu
   go_region;go_wp2;have e0:DZ (fH l k)= [.int .i64 d.x,.int .i64 d.y,.int .i64 d2.x,.int .i64 d2.y]:=by
    unfold DZ fH;rw[HL.zo,HM.zo,tW HD.zo,tW HD2.zo]
   refine⟨⟨k+1,_,_,by omega,by go_num,rfl,(Km (by simpa using Qu)).trans hsz,fun j t u hj hu=> ?_⟩,?_⟩
   ·rcases Nat.lt_or_ge j k with h1|h1
    ·have ht:t<4:=(bw hu).1
     rw[NH (by omega) (by omega)];exact HA.zo j t u h1 hu
    ·obtain rfl:j=k:=by omega
     rw[e0]at hu;exact NI (by omega) hu
   ·simp[intOf];omega
  ·obtain rfl:k=n:=by omega
   go_wp2;go_ret;refine⟨_,rfl,?_,ae⟩;have hcell:∀t,(av (w.alloc (.cells arr 321)) y).cell? ⟨w.heap.size,t,none⟩=arr[t]?:=fun t=>by
    rw[Du _ _ _ _ (by simp)];exact cell_of_row _ _ t arr 321 (0,0) (by rw[mR,if_neg (Nat.lt_irrefl _),if_pos rfl])
   have hl:(mI l).length=k:=by simp[mI,HL.zo]
   refine Sl.toV ⟨hl,arr.toList,⟨by rw[Array.length_toList,hsz];rfl,some ⟨w.heap.size,0,none⟩,k,rfl,Nat.le_refl _,by unfold maxLen;omega,(fun h=>by cases h),fun _=>⟨w.heap.size,0,rfl,trivial,(by simp;omega),fun t u hu=> ?_⟩⟩,fun i d hd=> ?_⟩
   ·rw[Nat.zero_add,hcell]
    simpa using hu
   ·have hi:i<k:=by have:=(bw hd).1;omega
    have e:fH l i=d:=by
     unfold mI at hd;rw[List.getElem?_map,List.getElem?_range (by rw[HL.zo];exact hi)]at hd;simpa using hd
    obtain⟨p,hp⟩:=H.zo.ex hi;obtain⟨p2,hp2⟩:=H.zo.ex (Nat.mod_lt (i+1) (by omega:0<k));obtain⟨_,_,_,_,_,_,i1,i2⟩:=PO H.zo hp;obtain⟨_,_,_,_,_,_,i3,i4⟩:=PO H.zo hp2;have e1:d.a=p:=by rw[<-e];exact tW hp
    have e2:d.b=p2:=by rw[<-e];show ES l ((i+1)%l.length)=p2;rw[HL.zo];exact tW hp2
    refine⟨?_,by rw[e1];exact i1,by rw[e1];exact i2,by rw[e2];exact i3,by rw[e2];exact i4⟩;show(arr.toList.drop (i*4)).take 4=DZ d;apply List.ext_getElem?;intro t;rw[List.getElem?_take];by_cases ht:t<4
    ·rw[if_pos ht,List.getElem?_drop,Array.getElem?_toList]
     have hs:(DZ d)[t]?=some (DZ d)[t]:=fZ ht;rw[hs];exact HA.zo i t _ hi (by rw[e];exact hs)
    ·rw[if_neg ht,List.getElem?_eq_none (by show 4<=t;omega)]
def kO(l:List Pt)(i:Nat):Bool:=
 nJ (fH l i).a&& !(((fH l i).a.x==(fH l i).b.x)==((fH l i).a.y==(fH l i).b.y))&& !(xN (fH l i)==xN (fH l ((i+1)%l.length)))&& !(decide (0<i)&&decide (0<=DN (ES l 0) (ES l i)))
def mh(l:List Pt)(i k:Nat):Bool:= !(decide (1<i+l.length - k)&&xO (fH l i) (fH l k))
def jt(l:List Pt):Bool:=
 decide (4<=l.length)&&decide (l.length<=60)&&(List.range l.length).all (kO l)&&(List.range l.length).all (fun i=>(List.range l.length).all fun k=>decide (k<i+2)||mh l i k)&& !(xN (fH l 0))
theorem sJ{l:List Pt}{i:Nat}(h:i<l.length):(mI l)[i]?=some (fH l i):=by
 unfold mI;rw[List.getElem?_map,List.getElem?_range h];rfl
theorem NJ(l:List Pt):(mI l).length=l.length:=by simp[mI]
theorem Hu{l:List Pt}(h:l.length<4):jt l=false:=by
 unfold jt;rw[jE (by omega)];rfl
theorem Kn{l:List Pt}(h:60<l.length):jt l=false:=by
 unfold jt;rw[jE (show ¬l.length<=60 by omega),Bool.and_false];rfl
theorem CW(ao:Option Addr)(n c:Nat)(l:List Pt)(w:World)(h:Sl zV w ao n c l)(hn:n<4∨60<n):Calls prog 147 #[.slice ao n c] w (cX (.bool (jt l)) w):=by
 have hm:=h.nle;unfold maxLen at hm;have hL:=h.1;have e:jt l=false:=by
  rcases hn with h1|h1
  ·exact Hu (by omega)
  ·exact Kn (by omega)
 rw[e];clear e h hL;rcases hn with h1|h1
 ·have q1:decide ((n:Int)<4)=true:=zdt (by omega)
  go_enter func147,ntmps147;go_wp2;go_ret;exact⟨rfl,ae⟩
 ·have q1:decide ((n:Int)<4)=false:=jE (by omega)
  have q2:decide ((60:Int)<(n:Int))=true:=zdt (by omega);go_enter func147,ntmps147;go_wp2;go_ret;exact⟨rfl,ae⟩
abbrev pH(f:Nat){T:Type}(L:Lay T):Prop:= ∀(fid:FuncId)(caps:Array Value)(nm:T->ByteArray)(most:Int)(ao:Option Addr)(n c:Nat)(l:List T)(w:World)(hcf:Enters fid)(hg:Gl w)(hn:n<=1000)(h:Sl L w ao n c l)
 (hf:∀(w':World)(i:Nat)(d:T)(cs:zv),af w w'->l[i]?=some d->L.R w' cs d->gS (nm d)/\Calls prog fid (#[.agg cs.toArray]++caps) w' fun r w''=>r=.returned (.string (nm d))/\af w' w''),
 Calls prog f #[.slice ao n c,.int .i64 most,.func (.func fid) #[] caps] w (cX (.bool (decide ((n:Int)<=most)&&mH true (l.map nm))) w)
theorem rf:pH 42 mC/\pH 44 nB/\pH 46 jV/\pH 48 aw/\pH 50 iR/\pH 52 kM/\pH 55 eY:=by
 refine⟨?_,?_,?_,?_,?_,?_,?_⟩<;>intro fid caps nm most ao n c l w hcf hg hn h hf
 all_goals
  obtain⟨i0,hi,hz0,hz1,hz2⟩:=info_parts sk;obtain⟨res,hres⟩:∃r,(decide ((n:Int)<=most)&&mH true (l.map nm))=r:=⟨_,rfl⟩;rw[hres];have aD:=aa hres;clear hres;have H:=aa h;have HF:=aa hf;have HG:=aa hg;have hm:=h.nle;have HL:=aa h.1;unfold maxLen at hm;unfold Enters at hcf;clear h hf hg;first|go_enter func42,ntmps42|go_enter func44,ntmps44|go_enter func46,ntmps46|go_enter func48,ntmps48|go_enter func50,ntmps50|go_enter func52,ntmps52|go_enter func55,ntmps55
  go_wp2;go_loopw [7,12] (fun o i wr=> ∃(k:Nat)(oo:Option Addr)(oc:Nat),k<=n/\i=.int .i64 k/\o=.slice oo k oc/\af w wr/\aq fC w.heap.size 9 wr (.slice oo k oc) ((l.take k).map nm)) (fun _ i _=>n - (intOf i).toNat)
  case atStart=>exact⟨0,none,0,by omega,rfl,rfl,af.refl _,aq.made _ _ _ _⟩
  case round=>
   obtain⟨k,oo,oc,hk,rfl,rfl,hx,ho⟩:=hrel;have HX:=aa hx;have hlen:((l.take k).map nm).length=k:=by rw[List.length_map,List.length_take,HL.zo];omega
   by_cases hlt:k<n
   ·obtain⟨d,hd⟩:=H.zo.ex hlt
    obtain⟨b,off,cs,rfl,lb,hR,cZ⟩:=H.zo.ld hd;have hld:∀w',af wr w'->_:=fun w' he=>cZ w' (HX.zo.trans he)
    have one1:=List.all_eq_true.2 (Lay.one _ hR);have len1:=Lay.len _ hR
    (try simp only[mC,nB,jV,aw,iR,kM,eY]at len1)
    obtain⟨xs,ho1,ho2⟩:=ho;rw[hlen]at ho1;have lv:=aa ho1;have jY:=aa ho2;have HD:=aa hd;have HR:=aa hR;have HN:=aa hlen;obtain⟨s,hs⟩:∃s,nm d=s:=⟨_,rfl⟩;have HS:=aa hs;clear hd hR hx ho1 ho2 cZ hlen hs;go_wp2_with (first|((with_reducible refine ag (HF.zo _ k d _ (HX.zo.trans ae) HD.zo (Lay.exts _ HR.zo (HX.zo.trans ae))).2 ?_);rintro e w' ⟨rfl,x9,rfl⟩;rw[HS.zo])|(at_builtin;refine wpList_append_own _ rfl (.tmp 16) (.tmp 20) 45 rfl w.heap.size 9 i0 _ 1 16 underlying45 hi hz0 hz1 hz2 rfl (by decide) _ k xs rfl (eX lv.zo ae) _ 1 1 [.string s] rfl rfl (JO (by simp[go_sem])) (by simp[Value.oneCell']) (by unfold maxLen;omega) (by omega) ((af.trans HX.zo ae).below.size) ?_;intro v' w1 hown hgrow hnil))
    obtain⟨oo',oc',rfl⟩:=eC hown;refine⟨⟨k+1,oo',oc',by omega,by go_num,rfl,aF (W:=w) (HX.zo.trans ae) hgrow (cm lv.zo),?_⟩,?_⟩
    ·have hz:gS s:=by rw[<-HS.zo];exact(HF.zo w k d _ (af.refl _) HD.zo HR.zo).1
     have e1:(l.take (k+1)).map nm=(l.take k).map nm++ [s]:=by rw[List.take_add_one,HD.zo,List.map_append,<-HS.zo];rfl
     rw[e1];refine aq.snoc (cs:= [.string s]) (by rw[HN.zo];exact hown) ?_ jY.zo ⟨rfl,hz⟩;rw[HN.zo];exact lv.zo.1
    ·simp[intOf];omega
   ·obtain rfl:k=n:=by omega
    have e:l.take k=l:=dQ (by rw[HL.zo];exact Nat.le_refl _);rw[e]at ho hlen;have HO:=aa (ho.sl hlen);cases q:decide ((k:Int)<=most)with
    |false=>
     clear hx ho hlen;have HQ:=aa (show res=false by rw[<-aD.zo,q];rfl);go_wp2;go_ret;exact⟨by rw[HQ.zo];rfl,HX.zo.trans ae⟩
    |true=>
     clear hx ho hlen;have HQ:=aa (show res=mH true (l.map nm)by rw[<-aD.zo,q];rfl);go_wp2_with ((with_reducible refine(dR true _ _ _ _ _ (HG.zo.exts (HX.zo.trans ae)) (HO.zo.exts ae)).mono ?_);rintro e w' ⟨rfl,x8,rfl⟩)
     go_ret;exact⟨by rw[HQ.zo];rfl,HX.zo.trans ae⟩
theorem RU:pH 42 mC:=rf.1
theorem RV:pH 44 nB:=rf.2.1
theorem RX:pH 46 jV:=rf.2.2.1
theorem RY:pH 48 aw:=rf.2.2.2.1
theorem RZ:pH 50 iR:=rf.2.2.2.2.1
theorem R7:pH 52 kM:=rf.2.2.2.2.2.1
theorem R9:pH 55 eY:=rf.2.2.2.2.2.2
end Go.Proofs.YtomgpelfmgkknaaGreatDoor
