/- Lemmas for the law. No conditions. -/
import Derived.Deep.MidRow
import Derived.Laws.EntriesVeiled
import Derived.Test.YtomgpelfmgkknaaGreatDoorM2
import Derived.StringKeys
namespace Go.Proofs.YtomgpelfmgkknaaGreatDoor
open Go.RowKit Go.Maps
open Go.Proofs.Tryz
set_option maxRecDepth 100000
set_option maxHeartbeats 40000000
set_option linter.unusedVariables false
set_option linter.unusedSimpArgs false
@[go_sem high] theorem XK(w:World)(n:Nat):rowOf w.drew n=rowOf w n:=by unfold rowOf;rfl
@[go_sem high] theorem XL(w:World)(n k:Nat):isRow w.drew n k=isRow w n k:=by unfold isRow;rfl
def jf(t:TypeId)(a:Addr):Sem Value:=loadVar t a
def PW(t:TypeId)(a:Addr)(v:Value):Sem Unit:=storeVar t a v
@[go_sem] theorem aer(k:IntKind)(n:Int):(Value.int k n).oneCell'=true:=rfl
@[go_sem] theorem abW(b:Bool):(Value.bool b).oneCell'=true:=rfl
@[go_sem] theorem YY(s:ByteArray):(Value.string s).oneCell'=true:=rfl
@[go_sem] theorem abb(a:Option Addr)(n c:Nat):(Value.slice a n c).oneCell'=true:=rfl
@[go_sem] theorem XM(a:Option Addr):(Value.pointer a).oneCell'=true:=rfl
@[go_sem] theorem aes(a:Option Nat):(Value.map a).oneCell'=true:=rfl
class iq(t:TypeId)(k:outParam Nat):Prop where
 u:∃d,prog.underlying t=some d/\d.isRow=true
 s:(prog.info? t).map (fun i=>i.size)=some k
@[go_sem ↓] theorem abX(t k:Nat) [iq t k] (a:Addr):loadVar t a=jf t a:=rfl
@[go_sem ↓] theorem abd(t k:Nat) [iq t k] (a:Addr)(v:Value):storeVar t a v=PW t a v:=rfl
@[go_sem] theorem ldT(t k:Nat) [h0:iq t k] (w:World)(b:Nat)(h:isRow w b k):(jf t ⟨b,0,none⟩).run prog w=.ok (.agg (rowOf w b)) w:=by
 obtain⟨c,t',hb,hc⟩:=h;obtain⟨d,h1,h2⟩:=h0.u;rw[gI hb];have:=run_loadVar_mid w b 0 t c.toList d (fun j u hj=>by rw[Nat.zero_add,cell_of_row _ _ _ _ _ _ hb];simpa using hj) h1 h2 (by rw[Array.length_toList,hc];exact h0.s);simpa[jf]using this
@[go_sem] theorem stT(t k:Nat) [h0:iq t k] (w:World)(b:Nat)(cs:zv)(h:isRow w b k)(hl:cs.length=k)(h1:cs.all (·.oneCell')=true):(PW t ⟨b,0,none⟩ (.agg cs.toArray)).run prog w=.ok () (w.setRow b cs.toArray):=by
 obtain⟨c0,t',hb,hc⟩:=h;exact run_storeVar_row w b t' t c0 _ hb (by simp only[List.size_toArray];rw[hl];exact h0.s) (by simp only[List.size_toArray];rw[hl];exact hc) (by rw[List.all_toArray];exact h1)
theorem xA{t k:Nat} [h0:iq t k] {w:World}{b o:Nat}{cs:zv}(hl:cs.length=k)(h:∀j u,cs[j]?=some u->w.cell? ⟨b,o+j,none⟩=some u):(jf t ⟨b,o,none⟩).run prog w=.ok (.agg cs.toArray) w:=by
 obtain⟨d,h1,h2⟩:=h0.u;exact run_loadVar_mid w b o t cs d h h1 h2 (by rw[hl];exact h0.s)
class nE{T:Type}(L:Lay T)(t k:outParam Nat):Prop where
 r:iq t k
 k:L.k=k
theorem Sl.ld{t k:Nat}{T:Type}{L:Lay T} [h0:nE L t k] {w:World}{ao:Option Addr}{n c:Nat}{l:List T}(h:Sl L w ao n c l){i:Nat}{d:T}(hd:l[i]?=some d):
 ∃b off cs,ao=some ⟨b,off,none⟩/\b<w.heap.size/\L.R w cs d/\∀w',af w w'->(jf t ⟨b,off+i*k,none⟩).run prog w'=.ok (.agg cs.toArray) w':=by
 obtain⟨b,off,cs,rfl,hb,hR,hc⟩:=h.at hd;exact⟨b,off,cs,rfl,hb,hR,fun w' he=>xA (h0:=h0.r) (by rw[L.len hR];exact h0.k) fun j u hu=>af.cell he (by rw[Nat.add_assoc,<-h0.k];exact hc j u hu)⟩
instance :iq 126 6:=⟨⟨_,underlying126,rfl⟩,by kernel_rfl⟩
instance :nE mC 126 6:=⟨inferInstance,rfl⟩
instance :iq 132 3:=⟨⟨_,underlying132,rfl⟩,by kernel_rfl⟩
instance :nE nB 132 3:=⟨inferInstance,rfl⟩
instance :iq 128 3:=⟨⟨_,underlying128,rfl⟩,by kernel_rfl⟩
instance :nE jV 128 3:=⟨inferInstance,rfl⟩
instance :iq 52 20:=⟨⟨_,underlying52,rfl⟩,by kernel_rfl⟩
abbrev yy{w:World}{b o:Nat}{cs:zv}:= @xA 52 20 _ w b o cs
instance :nE aw 52 20:=⟨inferInstance,rfl⟩
instance :iq 130 4:=⟨⟨_,underlying130,rfl⟩,by kernel_rfl⟩
instance :nE iR 130 4:=⟨inferInstance,rfl⟩
instance :iq 136 6:=⟨⟨_,underlying136,rfl⟩,by kernel_rfl⟩
instance :nE kM 136 6:=⟨inferInstance,rfl⟩
instance :iq 134 3:=⟨⟨_,underlying134,rfl⟩,by kernel_rfl⟩
instance :nE yw 134 3:=⟨inferInstance,rfl⟩
instance :iq 152 2:=⟨⟨_,underlying152,rfl⟩,by kernel_rfl⟩
instance :nE eY 152 2:=⟨inferInstance,rfl⟩
instance :iq 167 2:=⟨⟨_,underlying167,rfl⟩,by kernel_rfl⟩
instance :nE zV 167 2:=⟨inferInstance,rfl⟩
instance :iq 74 4:=⟨⟨_,underlying74,rfl⟩,by kernel_rfl⟩
abbrev pg{w:World}{b o:Nat}{cs:zv}:= @xA 74 4 _ w b o cs
instance :nE je 74 4:=⟨inferInstance,rfl⟩
instance :iq 121 4:=⟨⟨_,underlying121,rfl⟩,by kernel_rfl⟩
abbrev YZ{w:World}{b o:Nat}{cs:zv}:= @xA 121 4 _ w b o cs
instance :nE vR 121 4:=⟨inferInstance,rfl⟩
instance :iq 98 9:=⟨⟨_,underlying98,rfl⟩,by kernel_rfl⟩
abbrev GM{w:World}{b o:Nat}{cs:zv}:= @xA 98 9 _ w b o cs
instance :nE iD 98 9:=⟨inferInstance,rfl⟩
instance :iq 188 3:=⟨⟨_,underlying188,rfl⟩,by kernel_rfl⟩
instance :nE Pr 188 3:=⟨inferInstance,rfl⟩
instance :iq 48 5:=⟨⟨_,underlying48,rfl⟩,by kernel_rfl⟩
abbrev uy{w:World}{b o:Nat}{cs:zv}:= @xA 48 5 _ w b o cs
instance :nE j7 48 5:=⟨inferInstance,rfl⟩
instance :iq 283 10:=⟨⟨_,underlying283,rfl⟩,by kernel_rfl⟩
instance :nE lI 283 10:=⟨inferInstance,rfl⟩
instance :iq 50 4:=⟨⟨_,underlying50,rfl⟩,by kernel_rfl⟩
abbrev abY{w:World}{b o:Nat}{cs:zv}:= @xA 50 4 _ w b o cs
instance :nE um 50 4:=⟨inferInstance,rfl⟩
instance :iq 406 2:=⟨⟨_,underlying406,rfl⟩,by kernel_rfl⟩
instance :nE eQ 406 2:=⟨inferInstance,rfl⟩
instance :iq 389 3:=⟨⟨_,underlying389,rfl⟩,by kernel_rfl⟩
instance :nE stripL 389 3:=⟨inferInstance,rfl⟩
instance :iq 321 4:=⟨⟨_,underlying321,rfl⟩,by kernel_rfl⟩
instance :nE XG 321 4:=⟨inferInstance,rfl⟩
instance :iq 77 4:=⟨⟨_,underlying77,rfl⟩,by kernel_rfl⟩
instance :nE pM 77 4:=⟨inferInstance,rfl⟩
instance :iq 80 3:=⟨⟨_,underlying80,rfl⟩,by kernel_rfl⟩
instance :nE vG 80 3:=⟨inferInstance,rfl⟩
instance :iq 83 2:=⟨⟨_,underlying83,rfl⟩,by kernel_rfl⟩
instance :nE uP 83 2:=⟨inferInstance,rfl⟩
instance :iq 55 30:=⟨⟨_,underlying55,rfl⟩,by kernel_rfl⟩
abbrev LF{w:World}{b o:Nat}{cs:zv}:= @xA 55 30 _ w b o cs
instance :nE cY 55 30:=⟨inferInstance,rfl⟩
instance :iq 30 8:=⟨⟨_,underlying30,rfl⟩,by kernel_rfl⟩
abbrev yz{w:World}{b o:Nat}{cs:zv}:= @xA 30 8 _ w b o cs
instance :iq 37 13:=⟨⟨_,underlying37,rfl⟩,by kernel_rfl⟩
abbrev PX{w:World}{b o:Nat}{cs:zv}:= @xA 37 13 _ w b o cs
instance :iq 40 2:=⟨⟨_,underlying40,rfl⟩,by kernel_rfl⟩
abbrev abZ{w:World}{b o:Nat}{cs:zv}:= @xA 40 2 _ w b o cs
abbrev vU(f:Nat){T:Type}(L:Lay T):Prop:= ∀(fid:FuncId)(caps:Array Value)(e:T->T->Bool)(ao bo:Option Addr)(n c m cc:Nat)(l l2:List T)(w:World)(hcf:Enters fid)(h:Sl L w ao n c l)(h2:Sl L w bo m cc l2)
 (hf:∀(w':World)(i:Nat)(d d2:T)(cs cs2:zv),af w w'->l[i]?=some d->l2[i]?=some d2->L.R w' cs d->L.R w' cs2 d2->Calls prog fid (#[.agg cs.toArray,.agg cs2.toArray]++caps) w' fun r w''=>r=.returned (.bool (e d d2))/\af w' w''),
 Calls prog f #[.slice ao n c,.slice bo m cc,.func (.func fid) #[] caps] w (cX (.bool (lj e l l2)) w)
theorem JS:vU 276 mC/\vU 277 nB/\vU 278 aw/\vU 279 jV/\vU 280 iR/\vU 281 kM/\vU 296 j7:=by
 refine⟨?_,?_,?_,?_,?_,?_,?_⟩<;>intro fid caps e ao bo n c m cc l l2 w hcf h h2 hf
 all_goals
  have H:=aa h;have H2:=aa h2;have HF:=aa hf;have hm:=h.nle;unfold maxLen at hm;unfold Enters at hcf;have HL:=aa h.1;have HL2:=aa h2.1;clear h h2 hf;by_cases hnm:n=m
  ·subst hnm
   have q:((n:Int) !=(n:Int))=false:=by simp
   first|go_enter func276,ntmps276|go_enter func277,ntmps277|go_enter func278,ntmps278|go_enter func279,ntmps279|go_enter func280,ntmps280|go_enter func281,ntmps281|go_enter func296,ntmps296
   go_wp2;go_loopw [17] (fun i wr=> ∃(k:Nat),k<=n/\i=.int .i64 k/\af w wr/\∀j x y,j<k->l[j]?=some x->l2[j]?=some y->e x y=true) (fun i _=>n - (intOf i).toNat)
   case atStart=>exact⟨0,by omega,rfl,af.refl _,fun j x y hj=>by omega⟩
   case round=>
    obtain⟨k,hk,rfl,⟨y,rfl⟩,hall⟩:=hrel;have HA:=aa hall;clear hall;by_cases hlt:k<n
    ·obtain⟨d,hd⟩:=H.zo.ex hlt
     obtain⟨d2,hd2⟩:=H2.zo.ex hlt;obtain⟨b,off,cs,rfl,lb,hR,hld⟩:=H.zo.ld hd;obtain⟨b2,off2,cs2,rfl,Uz,hR2,Ez⟩:=H2.zo.ld hd2;have HD:=aa hd;have HD2:=aa hd2;have HR:=aa hR;have HR2:=aa hR2;have one1:=List.all_eq_true.2 (Lay.one _ hR);have aeS:=List.all_eq_true.2 (Lay.one _ hR2);have len1:=Lay.len _ hR;have len2:=Lay.len _ hR2
     (try simp only[mC,nB,aw,jV,iR,kM,j7]at len1 len2)
     clear hd hd2 hR hR2;obtain⟨r,hr⟩:∃r,e d d2=r:=⟨_,rfl⟩;have HP:=aa hr;clear hr;cases r with
     |true=>
      go_wp2_with ((with_reducible refine ag (HF.zo _ k d d2 _ _ ae HD.zo HD2.zo (Lay.exts _ HR.zo ae) (Lay.exts _ HR2.zo ae)) ?_);rintro e w' ⟨rfl,x9,rfl⟩;rw[HP.zo])
      refine⟨⟨k+1,by omega,by go_num,ae,fun j x y hj hx hy=> ?_⟩,?_⟩
      ·rcases Nat.lt_or_ge j k with h1|h1
       ·exact HA.zo j x y h1 hx hy
       ·obtain rfl:j=k:=by omega
        have e:=HD.zo;have e2:=HD2.zo;rw[hx]at e;rw[hy]at e2;cases e;cases e2;exact HP.zo
      ·simp[intOf];omega
     |false=>
      go_wp2_with ((with_reducible refine ag (HF.zo _ k d d2 _ _ ae HD.zo HD2.zo (Lay.exts _ HR.zo ae) (Lay.exts _ HR2.zo ae)) ?_);rintro e w' ⟨rfl,x9,rfl⟩;rw[HP.zo])
      go_ret;exact⟨by rw[tD HD.zo HD2.zo HP.zo];rfl,ae⟩
    ·obtain rfl:k=n:=by omega
     go_wp2;go_ret;exact⟨by rw[vT (HL.zo.trans HL2.zo.symm) fun j x y hx hy=>HA.zo j x y (by have:=(bw hx).1;rw[HL.zo]at this;exact this) hx hy];rfl,ae⟩
  ·have q:((n:Int) !=(m:Int))=true:=by simp;omega
   have E:=aa (vS (e:=e) (l:=l) (m:=l2) (by rw[HL.zo,HL2.zo];exact hnm));clear hnm;first|go_enter func276,ntmps276|go_enter func277,ntmps277|go_enter func278,ntmps278|go_enter func279,ntmps279|go_enter func280,ntmps280|go_enter func281,ntmps281|go_enter func296,ntmps296
   go_wp2;go_ret;exact⟨by rw[E.zo];rfl,ae⟩
theorem MH:vU 276 mC:=JS.1
theorem MI:vU 277 nB:=JS.2.1
theorem MJ:vU 278 aw:=JS.2.2.1
theorem MK:vU 279 jV:=JS.2.2.2.1
theorem ML:vU 280 iR:=JS.2.2.2.2.1
theorem MM:vU 281 kM:=JS.2.2.2.2.2.1
theorem MN:vU 296 j7:=JS.2.2.2.2.2.2
theorem Xp.ind{P:Xp->Prop}(h:∀(op num:Int)(str key:ByteArray)(args:List Xp),(∀x∈args,P x)->P (.mk op num str key args)):∀e,P e
 | .mk op num str key args=>h op num str key args fun x hx=>Xp.ind h x
 termination_by e=>SizeOf.sizeOf e
 decreasing_by
 have:=List.sizeOf_lt_of_mem hx;simp;omega
def xpN(a b:Xp):Bool:=(a.op==b.op)&&((a.num==b.num)&&((a.str.toList==b.str.toList)&&(a.key.toList==b.key.toList)))
mutual
def JI:Xp->Xp->Bool
 | .mk o n s k l,b=>xpN (.mk o n s k l) b&&EA l b.args
def EA:List Xp->List Xp->Bool
 | [],[]=>true
 |a::l,b::m=>JI a b&&EA l m
 |_,_=>false
end
theorem LG:∀(l m:List Xp),EA l m=lj JI l m
 | [],[]=>by simp[EA,lj]
 |a::l,b::m=>by simp[EA,lj,LG l m]
 | [],b::m=>by simp[EA,lj]
 |a::l,[]=>by simp[EA,lj]
theorem Y1(a b:Xp):JI a b=(xpN a b&&lj JI a.args b.args):=by
 obtain⟨o,n,s,k,l⟩:=a;rw[JI,LG];rfl
theorem MO:Enters 230:=fun a w=>by rfl
theorem fp(a:Xp):∀(b:Xp)(cs cs2:zv)(w:World),iP w cs a->iP w cs2 b->Calls prog 230 #[.agg cs.toArray,.agg cs2.toArray] w (cX (.bool (JI a b)) w):=by
 induction a using Xp.ind with
 |h op num str key args ih=>
 intro b cs cs2 w h h2;obtain⟨ao,ac,rfl,hv⟩:=h.opened;obtain⟨bo,bc,rfl,hv2⟩:=h2.opened;have HV:=aa hv.2.2.2.2;have MP:=aa hv2.2.2.2.2;have IH:=aa ih;have e:=Y1 (.mk op num str key args) b;unfold xpN at e;obtain⟨res,hres⟩:∃r,JI (.mk op num str key args) b=r:=⟨_,rfl⟩;rw[hres]at e;rw[hres];have E:=aa e;clear h h2 hv hv2 e hres ih;cases q1:((Xp.mk op num str key args).op==b.op)with
 |false=>
  have HQ:=aa (show res=false by rw[E.zo,q1];rfl);go_enter func230,ntmps230;go_wp2;go_ret;exact⟨by rw[HQ.zo];rfl,ae⟩
 |true=>
 cases q2:((Xp.mk op num str key args).num==b.num)with
 |false=>
  have HQ:=aa (show res=false by rw[E.zo,q1,q2];rfl);go_enter func230,ntmps230;go_wp2;go_ret;exact⟨by rw[HQ.zo];rfl,ae⟩
 |true=>
 cases q3:((Xp.mk op num str key args).str.toList==b.str.toList)with
 |false=>
  have HQ:=aa (show res=false by rw[E.zo,q1,q2,q3];rfl);go_enter func230,ntmps230;go_wp2;go_ret;exact⟨by rw[HQ.zo];rfl,ae⟩
 |true=>
 cases q4:((Xp.mk op num str key args).key.toList==b.key.toList)with
 |false=>
  have HQ:=aa (show res=false by rw[E.zo,q1,q2,q3,q4];rfl);go_enter func230,ntmps230;go_wp2;go_ret;exact⟨by rw[HQ.zo];rfl,ae⟩
 |true=>
  have HQ:=aa (show res=lj JI args b.args by rw[E.zo,q1,q2,q3,q4];rfl);go_enter func230,ntmps230;have HF:=aa (show∀(W w':World)(i:Nat)(d d2:Xp)(cs cs2:zv),af W w'->args[i]?=some d->b.args[i]?=some d2->(j7).R w' cs d->(j7).R w' cs2 d2->Calls prog 230 (#[.agg cs.toArray,.agg cs2.toArray]++ #[]) w' fun r w''=>r=.returned (.bool (JI d d2))/\af w' w'' from fun W w' i d d2 cs cs2 _ hd _ hR hR2=>IH.zo d (gH hd) d2 cs cs2 w' hR hR2);go_wp2_with ((with_reducible refine(MN 230 #[] JI ao bo _ ac _ bc args b.args _ MO (HV.zo.exts ae) (MP.zo.exts ae) (HF.zo _)).mono ?_);rintro e w' ⟨rfl,x9,rfl⟩)
  go_ret;exact⟨by rw[HQ.zo];rfl,ae⟩
section
mutual
def dS:Xp->List ByteArray
 | .mk op _ s _ args=>(if op=1 then [s]else [])++dm args
def dm:List Xp->List ByteArray
 | []=> []
 |a::l=>dS a++dm l
end
theorem sg:∀l m:List Xp,dm (l++m)=dm l++dm m
 | [],m=>by simp[dm]
 |a::l,m=>by simp[dm,sg l m]
theorem nG{l:List Xp}{k:Nat}{d:Xp}(h:l[k]?=some d):dm (l.take (k+1))=dm (l.take k)++dS d:=by
 rw[List.take_add_one,h,Option.toList_some,sg];simp[dm]
section
variable (U:List (List Nat))
def jr(i k:Nat):Bool:=(U.getD i []).contains k
def od(k:Nat)(s:List Int×List Nat)(i:Nat):List Int×List Nat:=
 if(decide (s.1.getD i 0<0)&&jr U i k)=true then(s.1.set i (s.1.getD k 0+1),s.2++ [i])else s
def xu(k m:Nat)(s:List Int×List Nat):List Int×List Nat:=(List.range m).foldl (od U k) s
def uQ:Nat->List Int×List Nat->List Int
 |0,s=>s.1
 |f+1,(o,[])=>o
 |f+1,(o,k::q)=>uQ f (xu U k U.length (o,q))
def lQ(t:Nat):List Int×List Nat:=((List.replicate U.length (-1:Int)).set t 0,[t])
def pW(t:Nat):List Int:=uQ U (U.length+1) (lQ U t)
theorem GN(k m:Nat)(s:List Int×List Nat):xu U k (m+1) s=od U k (xu U k m s) m:=by
 unfold xu;rw[List.range_succ,List.foldl_append];rfl
end
def mE(o:List Int):Nat:=(o.filter fun x=>decide (x<0)).length
theorem Aq:∀(o:List Int)(i:Nat)(x:Int),o.getD i 0<0->0<=x->mE (o.set i x)+1=mE o
 | [],i,x,h,_=>by simp at h
 |y::o,0,x,h,h2=>by
  simp at h;simp[mE,h,show ¬x<0 by omega]
 |y::o,i+1,x,h,h2=>by
  have:=Aq o i x (by simpa using h) h2;unfold mE at*;rw[List.set_cons_succ,List.filter_cons,List.filter_cons];split<;>simp_all<;>omega
structure uR(U:List (List Nat))(t:Nat)(s:List Int×List Nat):Prop where
 len:s.1.length=U.length
 root:s.1.getD t 0=0
 q:∀k∈s.2,k<U.length/\0<=s.1.getD k 0
 top:∀i,i<U.length->s.1.getD i 0<U.length - mE s.1
 low:∀i,i<U.length-> -1<=s.1.getD i 0
 via:∀i,i<U.length->0<=s.1.getD i 0->i=t∨∃k,k<U.length/\jr U i k=true/\0<=s.1.getD k 0/\s.1.getD k 0<s.1.getD i 0
def ab1(U:List (List Nat))(s:List Int×List Nat)(k m:Nat):Prop:= ∀i,i<m->jr U i k=true->0<=s.1.getD i 0
theorem Ve(o:List Int):mE o<=o.length:=List.length_filter_le _ _
theorem pX{α:Type}(o:List α)(i j:Nat)(x d:α):(o.set i x).getD j d=if i=j/\i<o.length then x else o.getD j d:=by
 rw[List.getD_eq_getElem?_getD,List.getD_eq_getElem?_getD,List.getElem?_set];by_cases h:i=j
 ·subst h
  by_cases h2:i<o.length
  ·simp[h2]
  ·simp[h2,List.getElem?_eq_none (Nat.le_of_not_lt h2)]
 ·simp[h]
theorem tE(U:List (List Nat))(t:Nat)(ht:t<U.length):uR U t (lQ U t):=by
 have hn:mE ((List.replicate U.length (-1:Int)).set t 0)+1=U.length:=by
  rw[Aq _ _ _ _ (by omega)]
  ·simp[mE,List.filter_replicate]
  ·rw[List.getD_eq_getElem?_getD,List.getElem?_replicate,if_pos ht]
   simp
 have hg:∀i,i<U.length->(lQ U t).1.getD i 0=if t=i then 0 else -1:=fun i hi=>by
  unfold lQ;rw[pX];simp only[List.length_replicate,ht,and_true];split
  ·rfl
  ·rw[List.getD_eq_getElem?_getD,List.getElem?_replicate,if_pos hi]
   rfl
 refine⟨by simp[lQ],by rw[hg t ht,if_pos rfl],fun k hk=> ?_,fun i hi=> ?_,fun i hi=> ?_,fun i hi h=> ?_⟩
 ·rw[show k=t by simpa[lQ]using hk,hg t ht,if_pos rfl]
  exact⟨ht,Int.le_refl _⟩
 ·rw[hg i hi]
  show _<((U.length:Int) - (mE ((List.replicate U.length (-1:Int)).set t 0):Int));split<;>omega
 ·rw[hg i hi]
  split<;>omega
 ·rw[hg i hi]at h
  split at h
  ·exact .inl (by omega)
  ·omega
theorem MQ{U:List (List Nat)}{t:Nat}{s:List Int×List Nat}(h:uR U t s){k i:Nat}(hk:k<U.length)(hk0:0<=s.1.getD k 0)(hi:i<U.length):
 uR U t (od U k s i)/\mE (od U k s i).1+(od U k s i).2.length=mE s.1+s.2.length/\(∀j,0<=s.1.getD j 0->(od U k s i).1.getD j 0=s.1.getD j 0)/\(jr U i k=true->0<=(od U k s i).1.getD i 0)/\(∀j∈s.2,j∈(od U k s i).2)/\(∀j,j<U.length->s.1.getD j 0<0->0<=(od U k s i).1.getD j 0->j∈(od U k s i).2):=by
 by_cases hc:(decide (s.1.getD i 0<0)&&jr U i k)=true
 ·have e:od U k s i=(s.1.set i (s.1.getD k 0+1),s.2++ [i]):=by
   unfold od;rw[if_pos hc]
  rw[Bool.and_eq_true,decide_eq_true_iff]at hc;have hn:=Aq s.1 i (s.1.getD k 0+1) hc.1 (by omega);have hil:i<s.1.length:=by rw[h.len];exact hi
  have hgd:∀j,(s.1.set i (s.1.getD k 0+1)).getD j 0=if i=j then s.1.getD k 0+1 else s.1.getD j 0:=fun j=>by
   rw[pX];simp only[hil,and_true]
  rw[e];refine⟨⟨by simp[h.len],?_,fun x hx=> ?_,fun j hj=> ?_,fun j hj=> ?_,fun j hj hj0=> ?_⟩,by show mE (s.1.set i (s.1.getD k 0+1))+(s.2++ [i]).length=_;rw[dG,List.length_singleton];omega,fun j hj=> ?_,fun _=> ?_,fun j hj=>List.mem_append_left _ hj,fun j hj hj0 hj1=> ?_⟩
  ·show(s.1.set i _).getD t 0=0
   rw[hgd,if_neg]
   ·exact h.root
   ·rintro rfl
    have:=h.root;omega
  ·show x<_/\0<=(s.1.set i _).getD x 0
   rw[hgd];rcases List.mem_append.1 hx with hx|hx
   ·have:=h.q x hx
    refine⟨this.1,?_⟩;split<;>omega
   ·rw[show x=i by simpa using hx,if_pos rfl]
    exact⟨hi,by omega⟩
  ·show(s.1.set i _).getD j 0<(U.length:Int) - (mE (s.1.set i _):Int)
   rw[hgd];have h1:=h.top j hj;have h2:=h.top k hk;split<;>omega
  ·show _<=(s.1.set i _).getD j 0
   rw[hgd];have h1:=h.low j hj;split<;>omega
  ·show j=t∨∃x,x<_/\jr U j x=true/\0<=(s.1.set i _).getD x 0/\(s.1.set i _).getD x 0<(s.1.set i _).getD j 0
   have hj0:0<=(s.1.set i (s.1.getD k 0+1)).getD j 0:=hj0;simp only[hgd]at hj0 ⊢;by_cases hij:i=j
   ·subst hij
    refine .inr ⟨k,hk,hc.2,?_⟩;have: ¬i=k:=by rintro rfl;omega
    simp only[this,if_false,if_true];omega
   ·rw[if_neg hij]at hj0 ⊢
    rcases h.via j hj hj0 with h1|⟨x,h1,h2,h3,h4⟩
    ·exact .inl h1
    ·refine .inr ⟨x,h1,h2,?_⟩
     have: ¬i=x:=by rintro rfl;omega
     simp only[this,if_false];exact⟨h3,h4⟩
  ·show(s.1.set i _).getD j 0=_
   rw[hgd,if_neg];rintro rfl;omega
  ·show 0<=(s.1.set i _).getD i 0
   rw[hgd,if_pos rfl];omega
  ·have hj1:0<=(s.1.set i (s.1.getD k 0+1)).getD j 0:=hj1
   rw[hgd]at hj1;by_cases hij:i=j
   ·subst hij
    exact List.mem_append_right _ List.mem_cons_self
   ·rw[if_neg hij]at hj1
    omega
 ·have e:od U k s i=s:=by
   unfold od;rw[if_neg hc]
  rw[e];refine⟨h,rfl,fun _ _=>rfl,fun hu=> ?_,fun _ hj=>hj,fun j hj h0 h1=>by omega⟩;rw[hu,Bool.and_true,decide_eq_true_iff]at hc;omega
theorem EB{U:List (List Nat)}{t:Nat}{s:List Int×List Nat}(h:uR U t s){k:Nat}(hk:k<U.length)(hk0:0<=s.1.getD k 0):∀m,m<=U.length->
 uR U t (xu U k m s)/\mE (xu U k m s).1+(xu U k m s).2.length=mE s.1+s.2.length/\(∀j,0<=s.1.getD j 0->(xu U k m s).1.getD j 0=s.1.getD j 0)/\ab1 U (xu U k m s) k m/\(∀j∈s.2,j∈(xu U k m s).2)/\(∀j,j<U.length->s.1.getD j 0<0->0<=(xu U k m s).1.getD j 0->j∈(xu U k m s).2)
 |0,_=>⟨h,rfl,fun _ _=>rfl,fun i hi=>absurd hi (Nat.not_lt_zero _),fun _ hj=>hj,fun j _ h0 h1=>by
  have:0<=s.1.getD j 0:=h1;omega⟩
 |m+1,hm=>by
  obtain⟨i1,i2,i3,i4,i5,i6⟩:=EB h hk hk0 m (by omega);rw[GN];obtain⟨j1,j2,j3,j4,j5,j6⟩:=MQ i1 (k:=k) (i:=m) hk (by rw[i3 k hk0];exact hk0) (by omega);refine⟨j1,by omega,fun j hj=>by rw[j3 j (by rw[i3 j hj];exact hj),i3 j hj],fun i hi hu=> ?_,fun j hj=>j5 j (i5 j hj),fun j hj h0 h1=> ?_⟩
  ·by_cases him:i=m
   ·subst him
    exact j4 hu
   ·have:=i4 i (by omega) hu
    rw[j3 i this];exact this
  ·by_cases h2:0<=(xu U k m s).1.getD j 0
   ·exact j5 j (i6 j hj h0 h2)
   ·exact j6 j hj (by omega) h1
def qI(U:List (List Nat))(s:List Int×List Nat):Prop:= ∀k,k<U.length->0<=s.1.getD k 0->k∈s.2∨∀i,i<U.length->jr U i k=true->0<=s.1.getD i 0
theorem vV(U:List (List Nat))(t:Nat)(ht:t<U.length):qI U (lQ U t):=fun k hk h0=>by
 rcases(tE U t ht).via k hk h0 with rfl|⟨x,h1,h2,h3,h4⟩
 ·exact .inl (by simp[lQ])
 ·have e:∀j,j<U.length->0<=(lQ U t).1.getD j 0->(lQ U t).1.getD j 0=0:=fun j hj hj0=>by
   have h5:(lQ U t).1.getD j 0=if t=j then 0 else -1:=by
    unfold lQ;rw[pX];simp only[List.length_replicate,ht,and_true];split
    ·rfl
    ·rw[List.getD_eq_getElem?_getD,List.getElem?_replicate,if_pos hj]
     rfl
   rw[h5]at hj0 ⊢;split
   ·rfl
   ·rename_i h6
    rw[if_neg h6]at hj0;omega
  have:=e k hk h0;omega
theorem Ar{U:List (List Nat)}{t k:Nat}{o:List Int}{q:List Nat}(h:uR U t (o,k::q))(hc:qI U (o,k::q)):uR U t (xu U k U.length (o,q))/\qI U (xu U k U.length (o,q))/\mE (xu U k U.length (o,q)).1+(xu U k U.length (o,q)).2.length+1=mE o+(k::q).length:=by
 have hk:=h.q k List.mem_cons_self;have h':uR U t (o,q):=⟨h.len,h.root,fun x hx=>h.q x (List.mem_cons_of_mem _ hx),h.top,h.low,h.via⟩;obtain⟨i1,i2,i3,i4,i5,i6⟩:=EB h' hk.1 hk.2 U.length (Nat.le_refl _);refine⟨i1,fun x hx hx0=> ?_,by simp at i2 ⊢;omega⟩;by_cases h0:0<=o.getD x 0
 ·by_cases hxk:x=k
  ·subst hxk
   exact .inr i4
  ·rcases hc x hx h0 with h1|h1
   ·rcases List.mem_cons.1 h1 with h1|h1
    ·exact absurd h1 hxk
    ·exact .inl (i5 x h1)
   ·refine .inr fun i hi hu=> ?_
    have:=h1 i hi hu;rw[i3 i this];exact this
 ·exact .inl (i6 x hx (by show o.getD x 0<0;omega) hx0)
theorem Au{U:List (List Nat)}{t:Nat}:∀(f:Nat)(s:List Int×List Nat),uR U t s->qI U s->mE s.1+s.2.length<=f->uR U t (uQ U f s,[])/\qI U (uQ U f s,[])
 |0,(o,q),h,hc,hf=>by
  obtain rfl:q= []:=List.eq_nil_of_length_eq_zero (by have:mE o+q.length<=0:=hf;omega);exact⟨h,hc⟩
 |f+1,(o,[]),h,hc,hf=>⟨h,hc⟩
 |f+1,(o,k::q),h,hc,hf=>by
  obtain⟨h1,h2,h3⟩:=Ar h hc;exact Au f _ h1 h2 (by simp at hf h3 ⊢;omega)
theorem Av(U:List (List Nat))(t:Nat)(ht:t<U.length):mE (lQ U t).1+(lQ U t).2.length<=U.length+1:=by
 have:=Ve (lQ U t).1;have h2:=(tE U t ht).len;simp[lQ]at*;omega
theorem xB{U:List (List Nat)}{t:Nat}(ht:t<U.length):uR U t (pW U t,[])/\qI U (pW U t,[]):=
 Au _ _ (tE U t ht) (vV U t ht) (Av U t ht)
def LH(d:List Int)(b:Int)(k:Nat):Int:=if(decide (0<=d.getD k 0)&&(decide (b<0)||decide (d.getD k 0<d.getD b.toNat 0)))=true then(k:Int)else b
def og(d:List Int)(r:List Nat):Int:=r.foldl (LH d) (-1)
theorem yA(d:List Int){r:List Nat}{j k:Nat}(h:r[j]?=some k):og d (r.take (j+1))=LH d (og d (r.take j)) k:=by
 unfold og;rw[List.take_add_one,h,Option.toList_some,List.foldl_append];rfl
theorem uS(d:List Int)(r:List Nat):∀j,j<=r.length->(og d (r.take j)= -1/\∀k∈r.take j,d.getD k 0<0)∨∃b:Nat,og d (r.take j)=b/\b∈r.take j/\0<=d.getD b 0/\∀k∈r.take j,0<=d.getD k 0->d.getD b 0<=d.getD k 0
 |0,_=> .inl ⟨rfl,fun k hk=>by simp at hk⟩
 |j+1,hj=>by
  have hx:r[j]?=some r[j]:=fZ (by omega);rw[yA d hx];have hm:∀{k},k∈r.take (j+1)↔k∈r.take j∨k=r[j]:=fun{k}=>by
   rw[List.take_add_one,hx,Option.toList_some,List.mem_append];simp
  generalize r[j]=y at hx hm;unfold LH;rcases uS d r j (by omega)with⟨h1,h2⟩|⟨b,h1,h2,h3,h4⟩
  ·rw[h1]
   by_cases h0:0<=d.getD y 0
   ·refine .inr ⟨y,if_pos (by rw[zdt h0];rfl),hm.2 (.inr rfl),h0,fun k hk hk0=> ?_⟩
    rcases hm.1 hk with hk|rfl
    ·have:=h2 k hk
     omega
    ·exact Int.le_refl _
   ·refine .inl ⟨if_neg (by rw[jE h0];simp),fun k hk=> ?_⟩
    rcases hm.1 hk with hk|rfl
    ·exact h2 k hk
    ·omega
  ·rw[h1]
   by_cases h0:0<=d.getD y 0/\d.getD y 0<d.getD b 0
   ·refine .inr ⟨y,if_pos (by rw[zdt h0.1,Int.toNat_natCast,zdt h0.2,Bool.or_true];rfl),hm.2 (.inr rfl),h0.1,fun k hk hk0=> ?_⟩
    rcases hm.1 hk with hk|rfl
    ·have:=h4 k hk hk0
     omega
    ·exact Int.le_refl _
   ·refine .inr ⟨b,?_,hm.2 (.inl h2),h3,fun k hk hk0=> ?_⟩
    ·refine if_neg fun h5=>h0 ?_
     rw[Int.toNat_natCast,show decide ((b:Int)<0)=false from jE (by omega),Bool.false_or,Bool.and_eq_true,decide_eq_true_iff,decide_eq_true_iff]at h5;exact h5
    ·rcases hm.1 hk with hk|rfl
     ·exact h4 k hk hk0
     ·omega
def oh(U:List (List Nat))(i:Nat):Bool:=(U.getD i []).any fun k=>decide (0<=(pW U i).getD k 0)
def jh(U:List (List Nat)):Bool:=(List.range U.length).any (oh U)
def pO(U:List (List Nat))(done:List Bool)(i:Nat):Bool:= !(done.getD i false)&& !((U.getD i []).any fun k=> !(done.getD k false))
def cnt(p:Nat->Bool)(n:Nat):Nat:=((List.range n).filter p).length
theorem mY(p:Nat->Bool)(n:Nat):cnt p (n+1)=cnt p n+if p n=true then 1 else 0:=by
 unfold cnt;rw[List.range_succ,List.filter_append,dG];simp only[List.filter_cons,List.filter_nil];split<;>simp_all
theorem cnt_mono{p q:Nat->Bool}:∀n,(∀i,i<n->p i=true->q i=true)->cnt p n<=cnt q n
 |0,_=>by simp[cnt]
 |n+1,h=>by
  rw[mY,mY];have:=cnt_mono n fun i hi=>h i (by omega)
  have h2:=h n (by omega);split<;>split<;>simp_all<;>omega
theorem cnt_lt{p q:Nat->Bool}{j:Nat}(hp:p j=false)(hq:q j=true):∀n,j<n->(∀i,i<n->p i=true->q i=true)->cnt p n<cnt q n
 |0,hj,_=>absurd hj (Nat.not_lt_zero _)
 |n+1,hj,h=>by
  rw[mY,mY];by_cases hjn:j=n
  ·subst hjn
   have:=cnt_mono j fun i hi=>h i (by omega)
   rw[hp,hq];simp;omega
  ·have:=cnt_lt hp hq n (by omega) fun i hi=>h i (by omega)
   have h2:=h n (by omega);split<;>split<;>simp_all<;>omega
theorem GQ{U:List (List Nat)}(hu:∀i k,jr U i k=true->k<U.length)(hc:jh U=false)(done:List Bool):∀(m i:Nat),i<U.length->done.getD i false=false->cnt (fun j=>decide (0<=(pW U j).getD i 0)) U.length<=m->∃j,j<U.length/\pO U done j=true
 |m,i,hi,hd,hm=>by
  by_cases hr:pO U done i=true
  ·exact⟨i,hi,hr⟩
  have h1:((U.getD i []).any fun k=> !(done.getD k false))=true:=by
   unfold pO at hr;rw[hd]at hr;simpa using hr
  obtain⟨k,hk,hk2⟩:=List.any_eq_true.1 h1;have hus:jr U i k=true:=by
   unfold jr;exact List.contains_iff_mem.2 hk
  have hkl:=hu i k hus;have hci:oh U i=false:=by
   unfold jh at hc;rw[List.any_eq_false]at hc;simpa using hc i (List.mem_range.2 hi)
  have hneg:(pW U i).getD k 0<0:=by
   unfold oh at hci;rw[List.any_eq_false]at hci;have:=hci k hk;simp only[decide_eq_true_eq]at this;omega
  have hlt:cnt (fun j=>decide (0<=(pW U j).getD k 0)) U.length<cnt (fun j=>decide (0<=(pW U j).getD i 0)) U.length:=by
   refine cnt_lt (j:=i) (by simp only[decide_eq_false_iff_not];omega) ?_ _ hi fun j hj hp=> ?_
   ·have:=(xB hi).1.root
    simp only at this;simp only[this,decide_eq_true_eq];omega
   ·simp only[decide_eq_true_eq]at hp ⊢
    rcases(xB hj).2 k hkl hp with h2|h2
    ·cases h2
    ·exact h2 i hi hus
  match m,hm with
  |0,hm=>omega
  |m+1,hm=>exact GQ hu hc done m k hkl (by simpa using hk2) (by omega)
end
abbrev pY(f:Nat){T:Type}(L:Lay T)(u:zv->Value):Prop:= ∀(fid:FuncId)(caps:Array Value)(p:T->Bool)(ao:Option Addr)(n c:Nat)(l:List T)(w:World)(hcf:Enters fid)(h:Sl L w ao n c l)(hf:∀(w':World)(i:Nat)(d:T)(cs:zv),af w w'->l[i]?=some d->L.R w' cs d->Calls prog fid (#[u cs]++caps) w' fun e w''=>e=.returned (.bool (p d))/\af w' w''),Calls prog f #[.slice ao n c,.func (.func fid) #[] caps] w (cX (.int .i64 (nZ p l)) w)
abbrev vY(f:Nat){T:Type}(L:Lay T)(u:zv->Value):Prop:= ∀(fid:FuncId)(caps:Array Value)(p:T->Bool)(ao:Option Addr)(n c:Nat)(l:List T)(w:World)(hcf:Enters fid)(h:Sl L w ao n c l)(hf:∀(w':World)(i:Nat)(d:T)(cs:zv),af w w'->l[i]?=some d->L.R w' cs d->Calls prog fid (#[u cs]++caps) w' fun e w''=>e=.returned (.bool (p d))/\af w' w''),Calls prog f #[.slice ao n c,.func (.func fid) #[] caps] w (cX (.bool (l.any p)) w)
abbrev kA:zv->Value:=fun cs=> .agg cs.toArray
theorem idxs:pY 100 aw kA/\pY 112 jV kA/\pY 181 iD kA/\pY 185 Pr kA/\pY 193 mC kA/\pY 194 nB kA/\pY 195 eY kA/\pY 238 iR kA/\pY 263 lI kA/\pY 268 je kA/\pY 312 um kA:=by
 refine⟨?_,?_,?_,?_,?_,?_,?_,?_,?_,?_,?_⟩<;>intro fid caps p ao n c l w hcf h hf
 all_goals
  have H:=aa h;have HF:=aa hf;have hm:=h.nle;unfold maxLen at hm;have HL:=aa h.1;unfold Enters at hcf;clear h hf;first|go_enter func100,ntmps100|go_enter func112,ntmps112|go_enter func181,ntmps181|go_enter func185,ntmps185|go_enter func193,ntmps193|go_enter func194,ntmps194|go_enter func195,ntmps195|go_enter func238,ntmps238|go_enter func263,ntmps263|go_enter func268,ntmps268|go_enter func312,ntmps312
  go_wp2;go_loopw [8] (fun i wr=> ∃(k:Nat),k<=n/\i=.int .i64 k/\af w wr/\∀j x,j<k->l[j]?=some x->p x=false) (fun i _=>n - (intOf i).toNat)
  case atStart=>exact⟨0,by omega,rfl,af.refl _,fun j x hj=>by omega⟩
  case round=>
   obtain⟨k,hk,rfl,⟨y,rfl⟩,hall⟩:=hrel;have HA:=aa hall;clear hall;by_cases hlt:k<n
   ·obtain⟨d,hd⟩:=H.zo.ex hlt
    obtain⟨b,off,cs,rfl,lb,hR,hld⟩:=H.zo.ld hd;have HD:=aa hd;have HR:=aa hR;clear hd hR;obtain⟨r,hr⟩:∃r,p d=r:=⟨_,rfl⟩;have HP:=aa hr;clear hr;cases r with
    |false=>
     go_wp2_with ((with_reducible refine ag (HF.zo _ k d _ ae HD.zo (Lay.exts _ HR.zo ae)) ?_);rintro e w' ⟨rfl,x9,rfl⟩;rw[HP.zo])
     refine⟨⟨k+1,by omega,by go_num,ae,fun j x hj hx=> ?_⟩,?_⟩
     ·rcases Nat.lt_or_ge j k with h1|h1
      ·exact HA.zo j x h1 hx
      ·obtain rfl:j=k:=by omega
       have e:=HD.zo;rw[hx]at e;cases e;exact HP.zo
     ·simp[intOf];omega
    |true=>
     go_wp2_with ((with_reducible refine ag (HF.zo _ k d _ ae HD.zo (Lay.exts _ HR.zo ae)) ?_);rintro e w' ⟨rfl,x9,rfl⟩;rw[HP.zo])
     go_ret;exact⟨by rw[vF HD.zo HP.zo HA.zo];rfl,ae⟩
   ·obtain rfl:k=n:=by omega
    go_wp2;go_ret;exact⟨by rw[nR fun j d hd=>HA.zo j d (by have:=(bw hd).1;rw[HL.zo]at this;exact this) hd];rfl,ae⟩
theorem pZ:pY 100 aw kA:=idxs.1
theorem PZ:pY 181 iD kA:=idxs.2.2.1
theorem P7:pY 185 Pr kA:=idxs.2.2.2.1
theorem Ax:pY 194 nB kA:=idxs.2.2.2.2.2.1
theorem vZ:pY 195 eY kA:=idxs.2.2.2.2.2.2.1
theorem GV:pY 238 iR kA:=idxs.2.2.2.2.2.2.2.1
theorem P8:pY 263 lI kA:=idxs.2.2.2.2.2.2.2.2.1
theorem P9:pY 268 je kA:=idxs.2.2.2.2.2.2.2.2.2.1
theorem Qa:pY 312 um kA:=idxs.2.2.2.2.2.2.2.2.2.2
theorem Qb(fid:FuncId)(caps:Array Value)(p:ByteArray->Bool)(ao:Option Addr)(n c:Nat)(l:List ByteArray)(w:World)(hcf:Enters fid)(h:Sl fC w ao n c l)(hf:∀(w':World)(i:Nat)(d:ByteArray)(cs:zv),af w w'->l[i]?=some d->(fC).R w' cs d->Calls prog fid (#[.string d]++caps) w' (cX (.bool (p d)) w')):Calls prog 241 #[.slice ao n c,.func (.func fid) #[] caps] w (cX (.int .i64 (nZ p l)) w):=by
 have H:=aa h;have HF:=aa hf;have hm:=h.nle;unfold maxLen at hm;have HL:=aa h.1;unfold Enters at hcf;clear h hf;first|go_enter func241,ntmps241
 go_wp2;go_loopw [8] (fun i wr=> ∃(k:Nat),k<=n/\i=.int .i64 k/\af w wr/\∀j x,j<k->l[j]?=some x->p x=false) (fun i _=>n - (intOf i).toNat)
 case atStart=>exact⟨0,by omega,rfl,af.refl _,fun j x hj=>by omega⟩
 case round=>
  obtain⟨k,hk,rfl,⟨y,rfl⟩,hall⟩:=hrel;have HA:=aa hall;clear hall;by_cases hlt:k<n
  ·obtain⟨d,hd⟩:=H.zo.ex hlt
   obtain⟨b,off,rfl,lb,c0,r0⟩:=lH H.zo hd;have HD:=aa hd;have HR:=aa (show(fC).R w [.string d] d from⟨rfl,r0⟩);clear hd r0;obtain⟨r,hr⟩:∃r,p d=r:=⟨_,rfl⟩;have HP:=aa hr;clear hr;cases r with
   |false=>
    go_wp2_with ((with_reducible refine ag (HF.zo _ k d _ ae HD.zo (Lay.exts _ HR.zo ae)) ?_);rintro e w' ⟨rfl,x9,rfl⟩;rw[HP.zo])
    refine⟨⟨k+1,by omega,by go_num,ae,fun j x hj hx=> ?_⟩,?_⟩
    ·rcases Nat.lt_or_ge j k with h1|h1
     ·exact HA.zo j x h1 hx
     ·obtain rfl:j=k:=by omega
      have e:=HD.zo;rw[hx]at e;cases e;exact HP.zo
    ·simp[intOf];omega
   |true=>
    go_wp2_with ((with_reducible refine ag (HF.zo _ k d _ ae HD.zo (Lay.exts _ HR.zo ae)) ?_);rintro e w' ⟨rfl,x9,rfl⟩;rw[HP.zo])
    go_ret;exact⟨by rw[vF HD.zo HP.zo HA.zo];rfl,ae⟩
  ·obtain rfl:k=n:=by omega
   go_wp2;go_ret;exact⟨by rw[nR fun j d hd=>HA.zo j d (by have:=(bw hd).1;rw[HL.zo]at this;exact this) hd];rfl,ae⟩
theorem Qc(fid:FuncId)(caps:Array Value)(p:Int->Bool)(ao:Option Addr)(n c:Nat)(l:List Int)(w:World)(hcf:Enters fid)(h:Sl dv w ao n c l)(hf:∀(w':World)(i:Nat)(d:Int)(cs:zv),af w w'->l[i]?=some d->(dv).R w' cs d->Calls prog fid (#[.int .i64 d]++caps) w' (cX (.bool (p d)) w')):Calls prog 357 #[.slice ao n c,.func (.func fid) #[] caps] w (cX (.int .i64 (nZ p l)) w):=by
 have H:=aa h;have HF:=aa hf;have hm:=h.nle;unfold maxLen at hm;have HL:=aa h.1;unfold Enters at hcf;clear h hf;first|go_enter func357,ntmps357
 go_wp2;go_loopw [8] (fun i wr=> ∃(k:Nat),k<=n/\i=.int .i64 k/\af w wr/\∀j x,j<k->l[j]?=some x->p x=false) (fun i _=>n - (intOf i).toNat)
 case atStart=>exact⟨0,by omega,rfl,af.refl _,fun j x hj=>by omega⟩
 case round=>
  obtain⟨k,hk,rfl,⟨y,rfl⟩,hall⟩:=hrel;have HA:=aa hall;clear hall;by_cases hlt:k<n
  ·obtain⟨d,hd⟩:=H.zo.ex hlt
   obtain⟨b,off,rfl,lb,c0,r0⟩:=dV H.zo hd;have HD:=aa hd;have HR:=aa (show(dv).R w [.int .i64 d] d from⟨rfl,r0⟩);clear hd r0;obtain⟨r,hr⟩:∃r,p d=r:=⟨_,rfl⟩;have HP:=aa hr;clear hr;cases r with
   |false=>
    go_wp2_with ((with_reducible refine ag (HF.zo _ k d _ ae HD.zo (Lay.exts _ HR.zo ae)) ?_);rintro e w' ⟨rfl,x9,rfl⟩;rw[HP.zo])
    refine⟨⟨k+1,by omega,by go_num,ae,fun j x hj hx=> ?_⟩,?_⟩
    ·rcases Nat.lt_or_ge j k with h1|h1
     ·exact HA.zo j x h1 hx
     ·obtain rfl:j=k:=by omega
      have e:=HD.zo;rw[hx]at e;cases e;exact HP.zo
    ·simp[intOf];omega
   |true=>
    go_wp2_with ((with_reducible refine ag (HF.zo _ k d _ ae HD.zo (Lay.exts _ HR.zo ae)) ?_);rintro e w' ⟨rfl,x9,rfl⟩;rw[HP.zo])
    go_ret;exact⟨by rw[vF HD.zo HP.zo HA.zo];rfl,ae⟩
  ·obtain rfl:k=n:=by omega
   go_wp2;go_ret;exact⟨by rw[nR fun j d hd=>HA.zo j d (by have:=(bw hd).1;rw[HL.zo]at this;exact this) hd];rfl,ae⟩
theorem cons:vY 96 aw kA/\vY 85 iD kA/\vY 88 Pr kA/\vY 155 iR kA/\vY 177 lI kA/\vY 186 je kA/\vY 259 um kA:=by
 refine⟨?_,?_,?_,?_,?_,?_,?_⟩<;>intro fid caps p ao n c l w hcf h hf
 all_goals
  have H:=aa h;have HF:=aa hf;have HE:=aa hcf;clear h hf hcf;first|go_enter func96,ntmps96|go_enter func85,ntmps85|go_enter func88,ntmps88|go_enter func155,ntmps155|go_enter func177,ntmps177|go_enter func186,ntmps186|go_enter func259,ntmps259
  go_wp2_with (first|(go_at_call 100;(with_reducible refine ag (pZ fid caps p _ _ _ l _ HE.zo (H.zo.exts ae) (fun w' i d cs he hd hR=>HF.zo w' i d cs (af.trans ae he) hd hR)) ?_);rintro e w' ⟨rfl,x9,rfl⟩)|(go_at_call 181;(with_reducible refine ag (PZ fid caps p _ _ _ l _ HE.zo (H.zo.exts ae) (fun w' i d cs he hd hR=>HF.zo w' i d cs (af.trans ae he) hd hR)) ?_);rintro e w' ⟨rfl,x9,rfl⟩)|(go_at_call 185;(with_reducible refine ag (P7 fid caps p _ _ _ l _ HE.zo (H.zo.exts ae) (fun w' i d cs he hd hR=>HF.zo w' i d cs (af.trans ae he) hd hR)) ?_);rintro e w' ⟨rfl,x9,rfl⟩)|(go_at_call 238;(with_reducible refine ag (GV fid caps p _ _ _ l _ HE.zo (H.zo.exts ae) (fun w' i d cs he hd hR=>HF.zo w' i d cs (af.trans ae he) hd hR)) ?_);rintro e w' ⟨rfl,x9,rfl⟩)|(go_at_call 263;(with_reducible refine ag (P8 fid caps p _ _ _ l _ HE.zo (H.zo.exts ae) (fun w' i d cs he hd hR=>HF.zo w' i d cs (af.trans ae he) hd hR)) ?_);rintro e w' ⟨rfl,x9,rfl⟩)|(go_at_call 268;(with_reducible refine ag (P9 fid caps p _ _ _ l _ HE.zo (H.zo.exts ae) (fun w' i d cs he hd hR=>HF.zo w' i d cs (af.trans ae he) hd hR)) ?_);rintro e w' ⟨rfl,x9,rfl⟩)|(go_at_call 312;(with_reducible refine ag (Qa fid caps p _ _ _ l _ HE.zo (H.zo.exts ae) (fun w' i d cs he hd hR=>HF.zo w' i d cs (af.trans ae he) hd hR)) ?_);rintro e w' ⟨rfl,x9,rfl⟩))
  go_ret;exact⟨by rw[<-n9];rfl,ae⟩
theorem qJ:vY 96 aw kA:=cons.1
theorem uU:vY 85 iD kA:=cons.2.1
theorem kU:vY 88 Pr kA:=cons.2.2.1
theorem pj:vY 155 iR kA:=cons.2.2.2.1
theorem GX:vY 177 lI kA:=cons.2.2.2.2.1
theorem yB:vY 186 je kA:=cons.2.2.2.2.2.1
theorem GY:vY 259 um kA:=cons.2.2.2.2.2.2
theorem eB(fid:FuncId)(caps:Array Value)(p:ByteArray->Bool)(ao:Option Addr)(n c:Nat)(l:List ByteArray)(w:World)(hcf:Enters fid)(h:Sl fC w ao n c l)(hf:∀(w':World)(i:Nat)(d:ByteArray)(cs:zv),af w w'->l[i]?=some d->(fC).R w' cs d->Calls prog fid (#[.string d]++caps) w' (cX (.bool (p d)) w')):Calls prog 159 #[.slice ao n c,.func (.func fid) #[] caps] w (cX (.bool (l.any p)) w):=by
 have H:=aa h;have HF:=aa hf;have HE:=aa hcf;clear h hf hcf;first|go_enter func159,ntmps159
 go_wp2_with (go_at_call 241;(with_reducible refine ag (Qb fid caps p _ _ _ l _ HE.zo (H.zo.exts ae) (fun w' i d cs he hd hR=>HF.zo w' i d cs (af.trans ae he) hd hR)) ?_);rintro e w' ⟨rfl,x9,rfl⟩)
 go_ret;exact⟨by rw[<-n9];rfl,ae⟩
theorem mZ(fid:FuncId)(caps:Array Value)(p:Int->Bool)(ao:Option Addr)(n c:Nat)(l:List Int)(w:World)(hcf:Enters fid)(h:Sl dv w ao n c l)(hf:∀(w':World)(i:Nat)(d:Int)(cs:zv),af w w'->l[i]?=some d->(dv).R w' cs d->Calls prog fid (#[.int .i64 d]++caps) w' (cX (.bool (p d)) w')):Calls prog 330 #[.slice ao n c,.func (.func fid) #[] caps] w (cX (.bool (l.any p)) w):=by
 have H:=aa h;have HF:=aa hf;have HE:=aa hcf;clear h hf hcf;first|go_enter func330,ntmps330
 go_wp2_with (go_at_call 357;(with_reducible refine ag (Qc fid caps p _ _ _ l _ HE.zo (H.zo.exts ae) (fun w' i d cs he hd hR=>HF.zo w' i d cs (af.trans ae he) hd hR)) ?_);rintro e w' ⟨rfl,x9,rfl⟩)
 go_ret;exact⟨by rw[<-n9];rfl,ae⟩
def inB(lo hi n:Int):Bool:= !(decide (n<lo))&& !(decide (hi<n))
theorem wb{T:Type}{p:T->Bool}{l:List T}{k:Nat}{d:T}(hd:l[k]?=some d)(h:p d=false):l.all p=false:=by
 rw[List.all_eq_false];exact⟨d,gH hd,by rw[h];simp⟩
theorem Qf{T:Type}{p:T->Bool}{l:List T}(h:∀(j:Nat)(x:T),l[j]?=some x->p x=true):l.all p=true:=by
 rw[List.all_eq_true];intro x hx;obtain⟨j,hj⟩:=List.getElem?_of_mem hx;exact h j x hj
theorem eG(lo hi:Int)(ao:Option Addr)(n c:Nat)(l:List Int)(w:World)(h:Sl dv w ao n c l):Calls prog 57 #[.int .i64 lo,.int .i64 hi,.slice ao n c] w (cX (.bool (l.all (inB lo hi))) w):=by
 obtain⟨res,hres⟩:∃r,l.all (inB lo hi)=r:=⟨_,rfl⟩;rw[hres];have aD:=aa hres;have H:=aa h;have hm:=h.nle;unfold maxLen at hm;have HL:=aa h.1;clear h hres;go_enter func57,ntmps57;go_wp2;go_loopw [11] (fun i wr=> ∃(k:Nat),k<=n/\i=.int .i64 k/\af w wr/\∀j x,j<k->l[j]?=some x->inB lo hi x=true) (fun i _=>n - (intOf i).toNat)
 case atStart=>exact⟨0,by omega,rfl,af.refl _,fun j x hj=>by omega⟩
 case round=>
  obtain⟨k,hk,rfl,⟨y,rfl⟩,hall⟩:=hrel;have HA:=aa hall;clear hall;by_cases hlt:k<n
  ·obtain⟨d,hd⟩:=H.zo.ex hlt
   obtain⟨b,off,rfl,lb,c0,r0⟩:=dV H.zo hd;have HD:=aa hd;clear hd r0;cases q1:decide (d<lo)with
   |true=>
    have HQ:=aa (show res=false by rw[<-aD.zo];exact wb HD.zo (by simp only[inB,q1];rfl));go_wp2;go_ret;exact⟨by rw[HQ.zo];rfl,ae⟩
   |false=>
    cases q2:decide (hi<d)with
    |true=>
     have HQ:=aa (show res=false by rw[<-aD.zo];exact wb HD.zo (by simp only[inB,q1,q2];rfl));go_wp2;go_ret;exact⟨by rw[HQ.zo];rfl,ae⟩
    |false=>
     have HQ:=aa (show inB lo hi d=true by simp only[inB,q1,q2];rfl);go_wp2;refine⟨⟨k+1,by omega,by go_num,ae,fun j x hj hx=> ?_⟩,?_⟩
     ·rcases Nat.lt_or_ge j k with h1|h1
      ·exact HA.zo j x h1 hx
      ·obtain rfl:j=k:=by omega
       have e:=HD.zo;rw[hx]at e;cases e;exact HQ.zo
     ·simp[intOf];omega
  ·obtain rfl:k=n:=by omega
   have HQ:=aa (show res=true by rw[<-aD.zo];exact Qf fun j x hx=>HA.zo j x (by have:=(bw hx).1;rw[HL.zo]at this;exact this) hx);go_wp2;go_ret;exact⟨by rw[HQ.zo];rfl,ae⟩
theorem ints_at{W:World}{b n:Nat}{l:List Int}(hb:b<W.heap.size)(hn:l.length=n)(hm:n<=1000)(hi:∀x∈l,I64 x)(h:∀(j:Nat)(x:Int),l[j]?=some x->W.cell? ⟨b,j,none⟩=some (.int .i64 x)):Sl dv W (some ⟨b,0,none⟩) n n l:=by
 refine⟨hn,l.map (fun x=>Value.int .i64 x),⟨by simp[hn,dv],some ⟨b,0,none⟩,n,rfl,Nat.le_refl _,by unfold maxLen;omega,(fun h=>by cases h),fun _=>⟨b,0,rfl,trivial,hb,fun t u hu=> ?_⟩⟩,fun i d hd=>⟨?_,hi d (gH hd)⟩⟩
 ·rw[List.getElem?_map]at hu
  cases hx:l[t]? with
  |none=>rw[hx]at hu;cases hu
  |some x=>
   rw[hx]at hu;cases hu;rw[Nat.zero_add];exact h t x hx
 ·show((l.map fun x=>Value.int .i64 x).drop (i*1)).take 1= [.int .i64 d]
  obtain⟨hk,e⟩:=bw hd;rw[Nat.mul_one,List.drop_eq_getElem_cons (by simpa using hk)];simp[e]
def nx(s d:ByteArray):Bool:=d.data.toList==s.data.toList
def Bk(u:Bool):List ByteArray->List ByteArray->Bool
 |_,[]=>true
 |seen,s::l=>(nameB s&& !(u&&seen.any (nx s)))&&Bk u (seen++ [s]) l
def mH(u:Bool)(l:List ByteArray):Bool:=Bk u [] l
theorem Hs{u:Bool}{l:List ByteArray}{k:Nat}{d:ByteArray}(hd:l[k]?=some d):Bk u (l.take k) (l.drop k)=((nameB d&& !(u&&(l.take k).any (nx d)))&&Bk u (l.take (k+1)) (l.drop (k+1))):=by
 obtain⟨hk,e⟩:=bw hd;rw[List.drop_eq_getElem_cons hk,e,List.take_add_one,hd];rfl
theorem tU{l:List ByteArray}{k:Nat}{d:ByteArray}{f:Lit->Bool}(hd:l[k]?=some d)(hf:∀s:ByteArray,f (.string s.data.toList)=(l.take k).any (nx s))(s:ByteArray):xC f (.string d.data.toList) true (.string s.data.toList)=(l.take (k+1)).any (nx s):=by
 rw[List.take_add_one,hd,List.any_append];by_cases h:d.data.toList=s.data.toList
 ·rw[h,tF]
  simp[nx,h]
 ·rw[om _ _ (fun e=>h (by injection e with e;exact e.symm)),hf s]
  have:nx s d=false:=by simpa[nx]using h
  simp[this]
theorem dR(u:Bool)(ao:Option Addr)(n c:Nat)(l:List ByteArray)(w:World)(hg:Gl w)(h:Sl fC w ao n c l):Calls prog 145 #[.slice ao n c,.bool u] w (cX (.bool (mH u l)) w):=by
 have H:=aa h;have HG:=aa hg;have hm:=h.nle;have HL:=aa h.1;have hmm:= @run_makeMap prog;have hz:=hm;unfold maxLen at hm;clear h hg;go_enter func145,ntmps145;go_wp2;go_loopw [11] (fun i wr=> ∃(k:Nat)(f:Lit->Bool),k<=n/\i=.int .i64 k/\af w wr/\iT wr 9 w.heap.size k f/\(∀s:ByteArray,f (.string s.data.toList)=(l.take k).any (nx s))/\mH u l=Bk u (l.take k) (l.drop k)) (fun i _=>n - (intOf i).toNat)
 case atStart=>exact⟨0,fun _=>false,by omega,rfl,ae,iT.made w 9,fun s=>rfl,rfl⟩
 case round=>
  obtain⟨k,f,hk,rfl,hx,hmap,hf,hn⟩:=hrel;have HX:=aa hx;have sH:=aa hmap;have HF:=aa hf;have HN:=aa hn;clear hx hmap hf hn;by_cases hlt:k<n
  ·obtain⟨d,hd⟩:=H.zo.ex hlt
   obtain⟨b,off,rfl,lb,c0,hsz⟩:=lH H.zo hd;have C0:∀w',af wr w'->w'.cell? ⟨b,off+k,none⟩=some (.string d):=fun w' he=>af.cell (HX.zo.trans he) c0
   have tV:=aa hsz;have hst:=Hs (u:=u) hd;rw[<-HN.zo]at hst;have HD:=aa hd;obtain⟨r,hr⟩:∃r,nameB d=r:=⟨_,rfl⟩;obtain⟨t,ht⟩:∃t,(l.take k).any (nx d)=t:=⟨_,rfl⟩;rw[hr,ht]at hst;have HST:=aa hst;have HR:=aa hr;have HT:=aa ht;have hlook:∀w',af wr w'->(Instr.lookup 113 (.map (some w.heap.size)) (.string d) false).run prog w'=.ok (.bool t) w':=fun w' he=>by
    rw[<-HT.zo,<-HF.zo d];exact(sH.zo.exts he).look mF underlying113 (WideMaps.keyOf_string_mk underlying9 tV.zo)
   clear hd c0 hsz hst hr ht;cases r with
   |false=>
    go_wp2_with ((with_reducible refine(gF d _ (HG.zo.exts (HX.zo.trans ae)) tV.zo).mono ?_);rintro e w' ⟨rfl,x9,rfl⟩;rw[HR.zo])
    go_ret;exact⟨by rw[HST.zo];rfl,HX.zo.trans ae⟩
   |true=>
    cases u with
    |true=>
     cases t with
     |true=>
      go_wp2_with ((with_reducible refine(gF d _ (HG.zo.exts (HX.zo.trans ae)) tV.zo).mono ?_);rintro e w' ⟨rfl,x9,rfl⟩;rw[HR.zo])
      go_ret;exact⟨by rw[HST.zo];rfl,HX.zo.trans ae⟩
     |false=>
      go_wp2_with (first|((with_reducible refine(gF d _ (HG.zo.exts (HX.zo.trans ae)) tV.zo).mono ?_);rintro e w' ⟨rfl,x9,rfl⟩;rw[HR.zo])|(at_mapUpdate;refine lq rfl _ _ _ 113 9 rfl mF underlying113 w.heap.size k _ rfl (sH.zo.exts ae) (by unfold maxLen;omega) _ _ _ rfl rfl (WideMaps.keyOf_string_mk underlying9 tV.zo) trivial ?_;intro w9 hmap' hgrow))
      refine⟨⟨k+1,_,by omega,by go_num,aF (W:=w) (HX.zo.trans ae) hgrow (fun b hb=>by cases hb;exact Nat.le_refl _),hmap',fun s=> ?_,?_⟩,?_⟩
      ·exact tU HD.zo HF.zo s
      ·rw[HST.zo];rfl
      ·simp[intOf];omega
    |false=>
     go_wp2_with (first|((with_reducible refine(gF d _ (HG.zo.exts (HX.zo.trans ae)) tV.zo).mono ?_);rintro e w' ⟨rfl,x9,rfl⟩;rw[HR.zo])|(at_mapUpdate;refine lq rfl _ _ _ 113 9 rfl mF underlying113 w.heap.size k _ rfl (sH.zo.exts ae) (by unfold maxLen;omega) _ _ _ rfl rfl (WideMaps.keyOf_string_mk underlying9 tV.zo) trivial ?_;intro w9 hmap' hgrow))
     refine⟨⟨k+1,_,by omega,by go_num,aF (W:=w) (HX.zo.trans ae) hgrow (fun b hb=>by cases hb;exact Nat.le_refl _),hmap',fun s=> ?_,?_⟩,?_⟩
     ·exact tU HD.zo HF.zo s
     ·rw[HST.zo];rfl
     ·simp[intOf];omega
  ·obtain rfl:k=n:=by omega
   have hd:l.drop k= []:=List.drop_eq_nil_of_le (by rw[HL.zo];exact Nat.le_refl _);have HE:=aa (show mH u l=true by rw[HN.zo,hd];rfl);clear hd;go_wp2;go_ret;exact⟨by rw[HE.zo];rfl,HX.zo.trans ae⟩
theorem Rv(v:ByteArray)(ao:Option Addr)(n c:Nat)(l:List ByteArray)(w:World)(h:Sl fC w ao n c l):Calls prog 75 #[.slice ao n c,.string v] w (cX (.int .i64 (nZ (pN v) l)) w):=by
 have H:=aa h;have hm:=h.nle;unfold maxLen at hm;have HL:=aa h.1;clear h;go_enter func75,ntmps75;go_wp2;go_loopw [8] (fun i wr=> ∃(k:Nat),k<=n/\i=.int .i64 k/\af w wr/\∀j x,j<k->l[j]?=some x->pN v x=false) (fun i _=>n - (intOf i).toNat)
 case atStart=>exact⟨0,by omega,rfl,af.refl _,fun j x hj=>by omega⟩
 case round=>
  obtain⟨k,hk,rfl,⟨y,rfl⟩,hall⟩:=hrel;have HA:=aa hall;clear hall;by_cases hlt:k<n
  ·obtain⟨d,hd⟩:=H.zo.ex hlt
   obtain⟨b,off,rfl,lb,c0,r0⟩:=lH H.zo hd;have HD:=aa hd;clear hd r0;obtain⟨r,hr⟩:∃r,(v.toList==d.toList)=r:=⟨_,rfl⟩;have HP:=aa (show pN v d=r from hr);cases r with
   |false=>
    go_wp2;refine⟨⟨k+1,by omega,by go_num,ae,fun j x hj hx=> ?_⟩,?_⟩
    ·rcases Nat.lt_or_ge j k with h1|h1
     ·exact HA.zo j x h1 hx
     ·obtain rfl:j=k:=by omega
      have e:=HD.zo;rw[hx]at e;cases e;exact HP.zo
    ·simp[intOf];omega
   |true=>
    go_wp2;go_ret;exact⟨by rw[vF HD.zo HP.zo HA.zo];rfl,ae⟩
  ·obtain rfl:k=n:=by omega
   go_wp2;go_ret;exact⟨by rw[nR fun j d hd=>HA.zo j d (by have:=(bw hd).1;rw[HL.zo]at this;exact this) hd];rfl,ae⟩
theorem pE(v:ByteArray)(ao:Option Addr)(n c:Nat)(l:List ByteArray)(w:World)(h:Sl fC w ao n c l):Calls prog 24 #[.slice ao n c,.string v] w (cX (.bool (l.any (pN v))) w):=by
 have H:=aa h;clear h;go_enter func24,ntmps24;go_wp2_with (go_at_call 75;(with_reducible refine(Rv v _ _ _ l _ (H.zo.exts ae)).mono ?_);rintro e w' ⟨rfl,x9,rfl⟩)
 go_ret;exact⟨by rw[<-n9];rfl,ae⟩
theorem NN(v:Int)(ao:Option Addr)(n c:Nat)(l:List Int)(w:World)(h:Sl dv w ao n c l):Calls prog 120 #[.slice ao n c,.int .i64 v] w (cX (.int .i64 (nZ (Ap v) l)) w):=by
 have H:=aa h;have hm:=h.nle;unfold maxLen at hm;have HL:=aa h.1;clear h;go_enter func120,ntmps120;go_wp2;go_loopw [8] (fun i wr=> ∃(k:Nat),k<=n/\i=.int .i64 k/\af w wr/\∀j x,j<k->l[j]?=some x->Ap v x=false) (fun i _=>n - (intOf i).toNat)
 case atStart=>exact⟨0,by omega,rfl,af.refl _,fun j x hj=>by omega⟩
 case round=>
  obtain⟨k,hk,rfl,⟨y,rfl⟩,hall⟩:=hrel;have HA:=aa hall;clear hall;by_cases hlt:k<n
  ·obtain⟨d,hd⟩:=H.zo.ex hlt
   obtain⟨b,off,rfl,lb,c0,r0⟩:=dV H.zo hd;have HD:=aa hd;clear hd r0;obtain⟨r,hr⟩:∃r,(v==d)=r:=⟨_,rfl⟩;have HP:=aa (show Ap v d=r from hr);cases r with
   |false=>
    go_wp2;refine⟨⟨k+1,by omega,by go_num,ae,fun j x hj hx=> ?_⟩,?_⟩
    ·rcases Nat.lt_or_ge j k with h1|h1
     ·exact HA.zo j x h1 hx
     ·obtain rfl:j=k:=by omega
      have e:=HD.zo;rw[hx]at e;cases e;exact HP.zo
    ·simp[intOf];omega
   |true=>
    go_wp2;go_ret;exact⟨by rw[vF HD.zo HP.zo HA.zo];rfl,ae⟩
  ·obtain rfl:k=n:=by omega
   go_wp2;go_ret;exact⟨by rw[nR fun j d hd=>HA.zo j d (by have:=(bw hd).1;rw[HL.zo]at this;exact this) hd];rfl,ae⟩
theorem sK(v:Int)(ao:Option Addr)(n c:Nat)(l:List Int)(w:World)(h:Sl dv w ao n c l):Calls prog 33 #[.slice ao n c,.int .i64 v] w (cX (.bool (l.any (Ap v))) w):=by
 have H:=aa h;clear h;go_enter func33,ntmps33;go_wp2_with (go_at_call 120;(with_reducible refine(NN v _ _ _ l _ (H.zo.exts ae)).mono ?_);rintro e w' ⟨rfl,x9,rfl⟩)
 go_ret;exact⟨by rw[<-n9];rfl,ae⟩
end Go.Proofs.YtomgpelfmgkknaaGreatDoor
