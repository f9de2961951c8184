/- Lemmas for the law. No conditions. -/
import Derived.StillTail
import Derived.Deep.Quiet
import Derived.OrdersHeld
import Derived.RangeFuncNested
import Derived.RangeFuncBound
import Derived.RangeFuncCalls
import Derived.RangeFuncLeaves
import Derived.RangeFuncWrites
import Derived.OwnWalkIn
import Derived.LoopNIn
import Derived.Test.YtomgpelfmgkknaaGreatDoorRows
import GoSem.ClaimGoes
import Derived.KernelRfl
namespace Go.Proofs.YtomgpelfmgkknaaGreatDoor
open Go.RowKit Go.Maps
open Go.Proofs.Tryz
set_option maxRecDepth 100000
set_option maxHeartbeats 40000000
set_option linter.unusedVariables false
set_option linter.unusedSimpArgs false
section
def iN(Q:Exit->Act->World->Prop):Exit->Act->World->Prop
 | .normal,a,w=>Q .normal a w
 |_,_,_=>False
section
variable {P:Program}{ops:Array Oper}{md:Region.Mode}{Q Q1:Exit->Act->World->Prop}{S:World->Prop}
theorem zj{o:Oper}{a:Act}{K:Act->World->Prop}{r:Result Next}(h:o.upon P a K (iN Q1) r):o.upon P a K Q r:=by
 cases r with
 |ok n w'=>
  cases n<;>simp only[Oper.upon]at h ⊢ <;>first
   |exact h
   |exact Calls.mono h fun e w'' he=>(by cases e<;>first|exact he|exact he.elim|(obtain⟨a,w,hf⟩:=he;exact hf.elim))
 |halt x w'=>
  cases x<;>simp only[Oper.upon]at h ⊢ <;>first
   |exact h
   |exact h.elim
theorem nP:∀(f:Nat)(listed:Array Bool)(a:Act)(w:World),wpAny P md ops (iN Q) f listed a w->wpAny P md ops Q f listed a w
 |0,_,_,_,h=>h
 |f+1,listed,a,w,h=>⟨h.1,fun i hi=>by
  have h2:=h.2 i hi;unfold wpOp at h2 ⊢;split
  ·rename_i ho
   simp only[ho]at h2;exact nP f _ _ _ h2
  ·rename_i o ho
   simp only[ho]at h2;split
   ·rename_i hw
    simp only[hw,if_true]at h2;rcases h2 with h2|⟨_,a',w',hf⟩
    ·exact .inl (Oper.wp_mono (fun a w=>nP f _ a w) (zj h2))
    ·exact hf.elim
   ·rename_i hw
    simp only[hw]at h2;exact nP f _ _ _ h2⟩
def sT(P:Program)(md:Region.Mode)(ops:Array Oper)(Q:Exit->Act->World->Prop)(S:World->Prop)(L:Array Bool->Act->World->Prop):Nat->Array Bool->Act->World->Prop
 |0,listed,a,w=>L listed a w
 |f+1,listed,a,w=>Region.ready md ops listed≠ []/\∀i∈Region.ready md ops listed,wpOp P ops Q i (fun a' w'=>S w'/\sT P md ops Q S L f (listed.setIfInBounds i true) a' w') a w
theorem BX{g:Nat}{L:Array Bool->Act->World->Prop}(hL:∀listed a w,L listed a w->wpAny P md ops Q g listed a w):
 ∀(f:Nat)(listed:Array Bool)(a:Act)(w:World),sT P md ops Q S L f listed a w->wpAny P md ops Q (f+g) listed a w
 |0,listed,a,w,h=>by rw[Nat.zero_add];exact hL _ _ _ h
 |f+1,listed,a,w,h=>by
  rw[show f+1+g=(f+g)+1 by omega];exact⟨fun h0=>absurd h0 h.1,fun i hi=>wpOp_mono (fun a' w' h'=>BX hL f _ a' w' h'.2) (h.2 i hi)⟩
def sinkB(md:Region.Mode)(ops:Array Oper)(hs ts:List Nat):Bool:=
 hs.all (fun i=>(hs++ts.take 1).any fun j=>decide (i<j)&&Region.waitsFor md ops j i)&&(List.range ts.length).all fun k=>k==0||(List.range k).any fun j=>Region.waitsFor md ops (ts.getD k 0) (ts.getD j 0)
structure nQ(md:Region.Mode)(ops:Array Oper)(hs ts:List Nat)(listed:Array Bool):Prop where
 size:listed.size=ops.size
 closed:∀j oj,ops[j]?=some oj->listed.getD j false=true->∀e∈oj.after,Region.binds md e=true->listed.getD e.on false=true
 tail:∀t∈ts,listed.getD t true=false
 rest:∀j,j<ops.size->listed.getD j true=false->j∈hs∨j∈ts
def BZ(md:Region.Mode)(ops:Array Oper)(hs ts:List Nat)(listed:Array Bool):Bool:=
 (listed.size==ops.size)&&(((List.range ops.size).all fun j=> !(listed.getD j false)||match ops[j]? with|some oj=>oj.after.all fun e=> !(Region.binds md e)||listed.getD e.on false|none=>true)&&
  (ts.all (fun t=> !(listed.getD t true))&&(List.range ops.size).all fun j=>listed.getD j true||(hs.contains j||ts.contains j)))
theorem KF{hs ts:List Nat}{listed:Array Bool}(h:BZ md ops hs ts listed=true):nQ md ops hs ts listed:=by
 simp only[BZ,Bool.and_eq_true,List.all_eq_true,List.mem_range,beq_iff_eq]at h;obtain⟨h1,h2,h3,h4⟩:=h;refine⟨h1,fun j oj hj hl e he hb=> ?_,fun t ht=>by simpa using h3 t ht,fun j hj hl=> ?_⟩
 ·have h5:=h2 j (Array.getElem?_eq_some_iff.1 hj).1
  simp only[hl,Bool.not_true,Bool.false_or,hj]at h5;have h6:=Array.all_eq_true_iff_forall_mem.1 h5 e he;simpa[hb]using h6
 ·have h5:=h4 j hj
  simpa[hl]using h5
theorem nQ.set{hs ts:List Nat}{listed:Array Bool}{i:Nat}(inv:nQ md ops hs ts listed)(hi:i∈Region.ready md ops listed)(hin:i∉ts):nQ md ops hs ts (listed.setIfInBounds i true):=by
 obtain⟨_,oi,hoi,hall⟩:=mem_ready.1 hi;refine⟨by simp[inv.size],fun j oj hj hl e he hb=> ?_,fun t ht=>by rw[getD_set_ne true (show i≠t from fun h=>hin (by rw[h];exact ht))];exact inv.tail t ht,fun j hj hl=> ?_⟩
 ·by_cases hij:i=j
  ·subst hij
   have:oj=oi:=Option.some.inj (hj.symm.trans hoi);subst this;exact getD_set_true (hall e he hb)
  ·rw[getD_set_ne false hij]at hl
   exact getD_set_true (inv.closed j oj hj hl e he hb)
 ·by_cases hij:i=j
  ·subst hij
   simp[inv.size,hj]at hl
  ·rw[getD_set_ne true hij]at hl
   exact inv.rest j hj hl
theorem vt{listed:Array Bool}{i:Nat}(h:listed.getD i true=false):listed.getD i false=false:=by
 rcases Nat.lt_or_ge i listed.size with h'|h'
 ·simp[h']at h ⊢;exact h
 ·simp[Array.getElem?_eq_none h']at h
theorem B7{hs ts:List Nat}{listed:Array Bool}(hs1:sinkB md ops hs ts=true)(inv:nQ md ops hs ts listed):
 ∀(d i:Nat),ops.size - i=d->i∈hs->i<ops.size->listed.getD i true=false->∀t∈ts,t∉Region.ready md ops listed:=by
 simp only[sinkB,Bool.and_eq_true,List.all_eq_true,List.mem_range]at hs1;obtain⟨hsk,hch⟩:=hs1;have after:∀{j i:Nat},Region.waitsFor md ops j i=true->listed.getD i true=false->j∈Region.ready md ops listed->False:=fun{j i} hwf hun hr=>by
  obtain⟨oj,hoj,e,he,hb,hon⟩:=Region.waitsFor_spec hwf;obtain⟨_,ot,hot,hall⟩:=mem_ready.1 hr;have:oj=ot:=Option.some.inj (hoj.symm.trans hot);subst this;have h2:=hall e he hb;rw[hon,vt hun]at h2;cases h2
 intro d;induction d using Nat.strongRecOn with
 |_ d ih=>
  intro i hd hi hil hun t ht hr;obtain⟨k,hk⟩:=List.getElem?_of_mem ht;have hkl:=(List.getElem?_eq_some_iff.1 hk).1;by_cases hk0:k=0
  ·subst hk0
   obtain⟨j,hj,hj2⟩:=List.any_eq_true.1 (hsk i hi);simp only[Bool.and_eq_true,decide_eq_true_eq]at hj2;rcases List.mem_append.1 hj with hj|hj
   ·obtain⟨oj,hoj,e,he,hb,hon⟩:=Region.waitsFor_spec hj2.2
    have hjl:=(Array.getElem?_eq_some_iff.1 hoj).1;cases hl:listed.getD j false with
    |true=>
     have h2:=inv.closed j oj hoj hl e he hb;rw[hon,vt hun]at h2;cases h2
    |false=>
     have hjs:j<listed.size:=by rw[inv.size];exact hjl
     refine ih (ops.size - j) (by omega) j rfl hj hjl ?_ t ht hr;simp[hjs]at hl ⊢;exact hl
   ·have:j=t:=by
     cases ts with
     |nil=>cases ht
     |cons t0 ts=>simp at hj hk;rw[hj,hk]
    subst this;exact after hj2.2 hun hr
  ·have h1:=hch k hkl
   simp only[Bool.or_eq_true,beq_iff_eq,hk0,false_or]at h1;obtain⟨q,hq,h1⟩:=List.any_eq_true.1 h1;rw[List.mem_range]at hq;rw[List.getD_eq_getElem?_getD,hk,Option.getD_some]at h1;have hp:ts[q]?=some (ts.getD q 0):=by
    rw[List.getD_eq_getElem?_getD,List.getElem?_eq_getElem (show q<ts.length by omega)];rfl
   exact after h1 (inv.tail _ (List.mem_of_getElem? hp)) hr
theorem Fz{hs ts:List Nat}{i:Nat}{oi:Oper}{v:Value}{L:Array Bool->Act->World->Prop}(hi:ops[i]?=some oi)(hsel:∀(j:Nat)(o:Oper) cs b,ops[j]?=some o->o.op≠ .select cs b)
 (hs1:sinkB md ops hs ts=true) (hin:i∈hs) (hdone:∀listed a w,L listed a w->∀j∈Region.ready md ops listed,j∈ts):
 ∀(f:Nat)(listed:Array Bool)(a:Act)(w:World),nQ md ops hs ts listed->
  (∀j oj,ops[j]?=some oj->j≠i->listed.getD j true=false->(∀e∈oj.after,Region.binds md e=true->e.on≠i)->oi.apart ops oj=true)->
  i∈Region.ready md ops listed->YieldsIf P ops S oi v a->S w->
  sT P md ops (iN Q) S L f (listed.setIfInBounds i true) (a.put oi.dst v) w->sT P md ops (iN Q) S L (f+1) listed a w:=by
 have hil:=(Array.getElem?_eq_some_iff.1 hi).1;intro f;induction f with
 |zero=>
  intro listed a w inv _ hr hy hS H;have hun:=(mem_ready.1 hr).1;refine⟨fun h=>(by rw[h]at hr;cases hr),fun j hj=> ?_⟩;by_cases hji:j=i
  ·subst hji;exact hy.wpOp hi hS ⟨hS,H⟩
  ·exact absurd hj (B7 hs1 inv _ i rfl hin hil hun j (hdone _ _ _ H j (ready_mono hj hji)))
 |succ f ih=>
  intro listed a w inv hfree hr hy hS H;have hun:=(mem_ready.1 hr).1;refine⟨fun h=>(by rw[h]at hr;cases hr),fun j hj=> ?_⟩;have hjt:j∉ts:=fun hjt=>B7 hs1 inv _ i rfl hin hil hun j hjt hj
  by_cases hji:j=i
  ·subst hji;exact hy.wpOp hi hS ⟨hS,H⟩
  ·have h1:=H.2 j (ready_mono hj hji)
   obtain⟨hjun,oj,hoj,hall⟩:=mem_ready.1 hj;have hnot:∀e∈oj.after,Region.binds md e=true->e.on≠i:=fun e he hb heq=>by
    have h1:=hall e he hb;rw[heq,vt hun]at h1;cases h1
   have h2:=wpOp_putIf hoj (hfree j oj hoj hji hjun hnot) (fun cs b=>hsel i oi cs b hi) (fun cs b=>hsel j oj cs b hoj) (fun c a w h=>h.elim) hy h1;have hfree':∀k ok,ops[k]?=some ok->k≠i->(listed.setIfInBounds j true).getD k true=false->
    (∀e∈ok.after,Region.binds md e=true->e.on≠i)->oi.apart ops ok=true:=fun k ok hk hki hun hno=>by
    refine hfree k ok hk hki ?_ hno;by_cases hjk:j=k
    ·subst hjk;exact hjun
    ·rw[getD_set_ne true hjk]at hun;exact hun
   refine wpOp_mono (fun a' w' h3=>⟨h3.2.1,ih (listed.setIfInBounds j true) a' w' (inv.set hj hjt) hfree' (ready_mono hr (Ne.symm hji)) h3.1 h3.2.1 ?_⟩) h2;rw[Array.setIfInBounds_comm _ _ hji];exact h3.2.2
def FA(md:Region.Mode)(ops:Array Oper):List Nat->Array Bool->Bool
 | [],listed=>(Region.ready md ops listed).isEmpty
 |t::ts,listed=>decide (Region.ready md ops listed= [t])&&FA md ops ts (listed.setIfInBounds t true)
theorem pS:∀(ts:List Nat)(l:List Oper)(listed:Array Bool)(a:Act)(w:World),l.map some=ts.map (fun i=>ops[i]?)->FA md ops ts listed=true->wpList P ops Q l a w->wpAny P md ops Q ts.length listed a w
 | [],[],_,_,_,_,hB,h=>⟨by simpa[FA]using hB,h⟩
 |t::ts,[],_,_,_,hl,_,_=>by simp at hl
 | [],o::l,_,_,_,hl,_,_=>by simp at hl
 |t::ts,o::l,listed,a,w,hl,hB,h=>by
  simp only[List.map_cons,List.cons.injEq]at hl;obtain⟨h0,hl⟩:=hl;simp only[FA,Bool.and_eq_true,decide_eq_true_eq]at hB;refine⟨fun h1=>(by rw[hB.1]at h1;cases h1),fun i hi=> ?_⟩;rw[hB.1]at hi;obtain rfl:i=t:=by simpa using hi
  have hw:wpOp P ops Q i (wpList P ops Q l) a w:=by unfold wpOp;simp only[<-h0];exact h
  exact wpOp_mono (fun a' w' h'=>pS ts l _ a' w' hl hB.2 h') hw
theorem KG{ts:List Nat}{listed:Array Bool}(h:FA md ops ts listed=true):∀j∈Region.ready md ops listed,j∈ts:=by
 cases ts with
 |nil=>intro j hj;simp only[FA,List.isEmpty_iff]at h;rw[h]at hj;cases hj
 |cons t ts=>
  intro j hj;simp only[FA,Bool.and_eq_true,decide_eq_true_eq]at h;rw[h.1]at hj;have:j=t:=by simpa using hj
  rw[this];exact List.mem_cons_self
def readB(o:Oper):Bool:=match o.op with
 | .move _| .assign _| .pick .. | .build .. | .load .. | .nilCheck _| .binOp .. | .unOp .. | .convert .. | .makeInterface .. | .makeFunc .. | .slice .. | .fieldAddr .. | .field .. | .indexAddr .. | .index .. | .extract .. =>true
 |_=>false
theorem Wv{s:Sem Value}{w w':World}{n:Next}(h:(do pure (Next.value (<-s)):Sem Next).run P w=.ok n w'):∃u,n=.value u:=by
 rw[Sem.run_bind]at h;cases hs:s.run P w with
 |ok x w2=>rw[hs]at h;simp[Result.andThen,go_sem]at h;exact⟨x,h.1.symm⟩
 |halt x w2=>rw[hs]at h;simp[Result.andThen]at h
theorem mL{v:Value}{w w':World}{n:Next}(h:(pure (Next.value v):Sem Next).run P w=.ok n w'):∃u,n=.value u:=by
 simp[go_sem]at h;exact⟨_,h.1.symm⟩
theorem rk{α:Type}{x:Sem α}{f:α->Sem Next}{w w':World}{n:Next}(hf:∀a w n w',(f a).run P w=.ok n w'->∃u,n=.value u)(h:(x>>=f).run P w=.ok n w'):∃u,n=.value u:=by
 rw[Sem.run_bind]at h;cases hs:x.run P w with
 |ok x w2=>rw[hs]at h;exact hf _ _ _ _ h
 |halt x w2=>rw[hs]at h;simp[Result.andThen]at h
theorem zk{ρ:Operand->Value}{o:Oper}(hr:readB o=true){w w':World}{n:Next}(h:(execOp ρ o).run P w=.ok n w'):∃u,n=.value u:=by
 unfold readB at hr;unfold execOp at h;cases ho:o.op<;>simp only[ho]at hr h<;>first
  |exact Wv h
  |(cases hr;done)
  |exact mL h
  |exact rk (fun _ _ _ _ h=>mL h) h
  |skip
 split at h
 ·simp[go_sem]at h
 ·simp[go_sem]at h
 ·simp[go_sem]at h
 ·split at h
  ·simp[go_sem]at h
  ·refine rk (fun _ _ _ _ h=>rk (fun b _ _ _ h=> ?_) h) h
   split at h
   ·exact rk (fun _ _ _ _ h=>mL h) h
   ·exact mL h
  ·exact mL h
 ·exact mL h
def pick(ops:Array Oper)(is:List Nat):List Oper:=is.map fun i=>(ops[i]?).getD default
def KH(S:World->Prop)(K:Act->World->Prop):Exit->Act->World->Prop
 | .normal,a,w=>S w/\K a w
 |_,_,_=>False
theorem cV{a:Act}{w:World}(h:Q .normal a w):iN Q .normal a w:=h
theorem dn{K:Act->World->Prop}{a:Act}{w:World}(h1:S w)(h2:K a w):KH S K .normal a w:=⟨h1,h2⟩
def bX(P:Program)(ops:Array Oper)(S:World->Prop)(F:Act->World->Prop)(rs:List Nat):List (List Nat×Nat)->Act->World->Prop
 | [],a,w=>wpQuiet P ops S (fun a'=>F a' w) (pick ops rs) a
 |(r,c)::l,a,w=>wpQuiet P ops S (fun a'=>wpList P ops (KH S (bX P ops S F rs l)) (pick ops [c]) a' w) (pick ops r) a
def Sv(md:Region.Mode)(ops:Array Oper)(ts:List Nat)(k:Nat)(listed:Array Bool):Bool:=(Region.ready md ops listed).contains k&&(Region.free md ops listed k&&(!(ts.contains k)&&match ops[k]? with|some o=>readB o|none=>false))
def sU(md:Region.Mode)(ops:Array Oper)(ts:List Nat):List Nat->Array Bool->Option (Array Bool)
 | [],listed=>some listed
 |k::r,listed=>if Sv md ops ts k listed=true then sU md ops ts r (listed.setIfInBounds k true)else none
def lastB(md:Region.Mode)(ops:Array Oper)(ts ys us:List Nat)(listed:Array Bool):Bool:=(Region.ready md ops listed).all (ts.contains ·)&&match sU md ops [] ys listed with|some l2=>FA md ops us l2|none=>false
def Sw(md:Region.Mode)(ops:Array Oper)(rs ts:List Nat)(B:Array Bool->Bool):List (List Nat×Nat)->Array Bool->Bool
 | [],listed=>match sU md ops ts rs listed with|some l2=>B l2|none=>false
 |(r,c)::l,listed=>match sU md ops ts r listed with|some l2=>decide (Region.ready md ops l2= [c])&&(!(ts.contains c)&&Sw md ops rs ts B l (l2.setIfInBounds c true))|none=>false
def heads(rs:List Nat):List (List Nat×Nat)->List Nat
 | []=>rs
 |(r,c)::l=>r++c::heads rs l
theorem vu{hs ts:List Nat}{L:Array Bool->Act->World->Prop}(hsel:Region.noSelect ops=true)(hs1:sinkB md ops hs ts=true)(hdone:∀listed a w,L listed a w->∀j∈Region.ready md ops listed,j∈ts){w:World}(hS:S w)(n:Nat){K:Act->Prop}:
 ∀(r:List Nat)(listed l2:Array Bool)(a:Act),(∀k∈r,k∈hs)->nQ md ops hs ts listed->sU md ops ts r listed=some l2->wpQuiet P ops S K (pick ops r) a->
 (∀a',nQ md ops hs ts l2->K a'->sT P md ops (iN Q) S L n l2 a' w)->sT P md ops (iN Q) S L (r.length+n) listed a w
 | [],listed,l2,a,_,inv,hB,h,hk=>by
  rw[show([]:List Nat).length+n=n from Nat.zero_add n];simp only[sU,Option.some.injEq]at hB;subst hB;exact hk a inv h
 |k::r,listed,l2,a,hin,inv,hB,h,hk=>by
  unfold sU at hB;split at hB
  ·rename_i hst
   unfold Sv at hst;simp only[Bool.and_eq_true]at hst;obtain⟨hr,hf,hnt,hrd⟩:=hst;have hr':k∈Region.ready md ops listed:=by simpa using hr
   have afr:k∉ts:=by simpa using hnt
   obtain⟨_,o,ho,_⟩:=mem_ready.1 hr';simp only[ho]at hrd;have hp:pick ops (k::r)=o::pick ops r:=by unfold pick;rw[List.map_cons,ho];rfl
   rw[hp]at h;have hq:qOp P ops S k (wpQuiet P ops S K (pick ops r)) a:=by unfold qOp;simp only[ho];exact h
   obtain⟨v,hy,hK⟩:=yieldsIn_of_qOp ho hq;have hy2:YieldsIf P ops S o v a:=by
    rcases hy with⟨hw,hv⟩|hy
    ·refine .inl ⟨hw,fun w hw=> ?_⟩
     have h1:=hv w hw;unfold Oper.quietAt at h1;cases he:(execOp a.eval o).run P w with
     |halt x w'=>rw[he]at h1;exact h1.elim
     |ok n w'=>
      obtain⟨u,rfl⟩:=zk hrd he;rw[he]at h1;obtain⟨rfl,rfl⟩:=h1;rfl
    ·exact .inr hy
   rw[show(k::r).length+n=(r.length+n)+1 by rw[List.length_cons];omega];exact Fz ho (Region.noSelect_spec hsel) hs1 (hin k List.mem_cons_self) hdone _ listed a w inv (Region.free_spec ho hf) hr' hy2 hS (vu hsel hs1 hdone hS n r _ l2 _ (fun k' hk'=>hin k' (List.mem_cons_of_mem _ hk')) (inv.set hr' afr) hB hK hk)
  ·cases hB
theorem Eg{hs rs ts:List Nat}{B:Array Bool->Bool}{F:Act->World->Prop}(hF:∀l2,B l2=true->∀j∈Region.ready md ops l2,j∈ts)(hsel:Region.noSelect ops=true)(hs1:sinkB md ops hs ts=true):
 ∀(l:List (List Nat×Nat))(listed:Array Bool)(a:Act)(w:World),(∀k∈heads rs l,k∈hs)->nQ md ops hs ts listed->Sw md ops rs ts B l listed=true->S w->bX P ops S F rs l a w->
 sT P md ops (iN Q) S (fun l2 a' w'=>B l2=true/\F a' w') (heads rs l).length listed a w
 | [],listed,a,w,hin,inv,hB,hS,h=>by
  unfold Sw at hB;split at hB
  ·rename_i l2 hl2
   have:=vu (Q:=Q) (n:=0) hsel hs1 (L:=fun l2 a' w'=>B l2=true/\F a' w') (fun _ _ _ h=>hF _ h.1) hS rs listed l2 a hin inv hl2 h (fun a' _ hk=>⟨hB,hk⟩);exact this
  ·cases hB
 |(r,c)::l,listed,a,w,hin,inv,hB,hS,h=>by
  unfold Sw at hB;split at hB
  ·rename_i l2 hl2
   simp only[Bool.and_eq_true,decide_eq_true_eq]at hB;obtain⟨hc,hct,hB⟩:=hB;have hcr:c∈Region.ready md ops l2:=by rw[hc];exact List.mem_cons_self
   have afs:c∉ts:=by simpa using hct
   obtain⟨_,o,ho,_⟩:=mem_ready.1 hcr;rw[show(heads rs ((r,c)::l)).length=r.length+((heads rs l).length+1)by simp[heads]];refine vu hsel hs1 (fun _ _ _ h=>hF _ h.1) hS _ r listed l2 a (fun k hk=>hin k (List.mem_append_left _ hk)) inv hl2 h fun a' inv2 hk=>⟨by rw[hc];simp,fun i hi=> ?_⟩
   rw[hc]at hi;obtain rfl:i=c:=by simpa using hi
   have hp:pick ops [i]= [o]:=by unfold pick;rw[List.map_cons,ho];rfl
   rw[hp]at hk;have next:∀a' w',KH S (bX P ops S F rs l) .normal a' w'->S w'/\sT P md ops (iN Q) S (fun l2 a' w'=>B l2=true/\F a' w') (heads rs l).length (l2.setIfInBounds i true) a' w':=fun a' w' hq=>⟨hq.1,Eg hF hsel hs1 l _ a' w' (fun k hk=>hin k (List.mem_append_right _ (List.mem_cons_of_mem _ hk))) (inv2.set hcr afs) hB hq.1 hq.2⟩
   unfold wpOp;simp only[ho];unfold wpList at hk;split at hk
   ·rename_i hw
    rw[if_pos hw];rcases hk with hk|⟨_,_,_,hf⟩
    ·have hk2:Oper.wp P o a' w (wpList P ops (KH S (bX P ops S F rs l)) []) (iN (KH S (bX P ops S F rs l))):=by
      unfold Oper.wp at hk ⊢;have e:KH S (bX P ops S F rs l)=iN (KH S (bX P ops S F rs l)):=by
       funext e a w
       cases e<;>rfl
      rw[<-e];exact hk
     exact .inl (Oper.wp_mono next (zj hk2))
    ·exact hf.elim
   ·rename_i hw
    rw[if_neg hw];exact next _ _ hk
  ·cases hB
theorem B8:∀(is:List Nat),(∀i∈is,i<ops.size)->(pick ops is).map some=is.map (fun i=>ops[i]?)
 | [],_=>rfl
 |i::is,h=>by
  have hi:ops[i]?=some (ops[i]'(h i List.mem_cons_self)):=Array.getElem?_eq_getElem (h i List.mem_cons_self);unfold pick;rw[List.map_cons,hi,List.map_cons,List.map_cons,hi];exact congrArg _ (B8 is fun j hj=>h j (List.mem_cons_of_mem _ hj))
theorem vw{w:World}(hsel:Region.noSelect ops=true)(n:Nat){K:Act->Prop}:
 ∀(r:List Nat)(listed l2:Array Bool)(a:Act),sU md ops [] r listed=some l2->wpQuiet P ops (fun _=>True) K (pick ops r) a->
 (∀a',K a'->wpAny P md ops (iN Q) n l2 a' w)->wpAny P md ops (iN Q) (r.length+n) listed a w
 | [],listed,l2,a,hB,h,hk=>by
  rw[show([]:List Nat).length+n=n from Nat.zero_add n];simp only[sU,Option.some.injEq]at hB;subst hB;exact hk a h
 |k::r,listed,l2,a,hB,h,hk=>by
  unfold sU at hB;split at hB
  ·rename_i hst
   unfold Sv at hst;simp only[Bool.and_eq_true]at hst;obtain⟨hr,hf,_,hrd⟩:=hst;have hr':k∈Region.ready md ops listed:=by simpa using hr
   obtain⟨_,o,ho,_⟩:=mem_ready.1 hr';simp only[ho]at hrd;have hp:pick ops (k::r)=o::pick ops r:=by unfold pick;rw[List.map_cons,ho];rfl
   rw[hp]at h;have hq:qOp P ops (fun _=>True) k (wpQuiet P ops (fun _=>True) K (pick ops r)) a:=by unfold qOp;simp only[ho];exact h
   obtain⟨v,hy,hK⟩:=yieldsIn_of_qOp ho hq;have hy2:Yields P ops o v a:=by
    rcases hy with⟨hw,hv⟩|hy
    ·refine .inl ⟨hw,fun w=> ?_⟩
     have h1:=hv w trivial;unfold Oper.quietAt at h1;cases he:(execOp a.eval o).run P w with
     |halt x w'=>rw[he]at h1;exact h1.elim
     |ok n w'=>
      obtain⟨u,rfl⟩:=zk hrd he;rw[he]at h1;obtain⟨rfl,rfl⟩:=h1;rfl
    ·exact .inr hy
   rw[show(k::r).length+n=(r.length+n)+1 by rw[List.length_cons];omega];exact wpAny_first ho (Region.noSelect_spec hsel) (fun _ _ _ h=>h.elim) _ listed a w (Region.free_spec ho hf) hr' hy2 (vw hsel n r _ l2 _ hB hK hk)
  ·cases hB
def FB(md:Region.Mode)(ops:Array Oper)(zs rs ts:List Nat)(B:Array Bool->Bool)(l:List (List Nat×Nat)):Bool:=
 match sU md ops [] zs (Array.replicate ops.size false)with
 |some l0=>Region.noSelect ops&&(sinkB md ops (heads rs l) ts&&(BZ md ops (heads rs l) ts l0&&(Sw md ops rs ts B l l0&&(ts.all (fun i=>decide (i<ops.size))&&decide (ops.size=zs.length+((heads rs l).length+ts.length))))))
 |none=>false
theorem B9{id:Nat}{a:Act}{w:World}{lo:List Oper}(zs:List Nat)(l:List (List Nat×Nat))(rs ts:List Nat)(B:Array Bool->Bool)(F:Act->World->Prop)(hF:∀l2,B l2=true->∀j∈Region.ready .any lo.toArray l2,j∈ts)(hE:(∀i∈ts,i<lo.toArray.size)->∀l2 a w,B l2=true->F a w->wpAny P .any lo.toArray (iN Q) ts.length l2 a w)(hm:P.follows .mixedOrders=true)(hB:FB .any lo.toArray zs rs ts B l=true)(hS:S w.drew)(h:wpQuiet P lo.toArray (fun _=>True) (fun a'=>bX P lo.toArray S F rs l a' w.drew) (pick lo.toArray zs) a):(Code.region id lo.toArray true).wp P Q a w:=by
 unfold FB at hB;split at hB
 ·rename_i l0 hl0
  simp only[Bool.and_eq_true,decide_eq_true_eq,List.all_eq_true]at hB;obtain⟨h1,h2,h3,h4,h5,h6⟩:=hB;refine wp_region_any hm (nP _ _ _ _ ?_);have h7:=vw (md:=.any) (Q:=Q) (w:=w.drew) h1 ((heads rs l).length+ts.length) zs _ l0 a hl0 h fun a' ha'=>BX (g:=ts.length) (P:=P) (Q:=iN Q) (md:=.any) (ops:=lo.toArray) (L:=fun l2 a' w'=>B l2=true/\F a' w') (fun l2 a w hL=>hE h5 l2 a w hL.1 hL.2) _ _ a' w.drew (Eg hF h1 h2 l _ a' _ (fun _ hk=>hk) (KF h3) h4 hS ha')
  rw[<-h6]at h7;exact h7
 ·cases hB
theorem b9{id:Nat}{a:Act}{w:World}{lo:List Oper}(zs:List Nat)(l:List (List Nat×Nat))(rs ts:List Nat)(hm:P.follows .mixedOrders=true)(hB:FB .any lo.toArray zs rs ts (FA .any lo.toArray ts) l=true)(hS:S w.drew)(h:wpQuiet P lo.toArray (fun _=>True) (fun a'=>bX P lo.toArray S (wpList P lo.toArray (iN Q) (pick lo.toArray ts)) rs l a' w.drew) (pick lo.toArray zs) a):(Code.region id lo.toArray true).wp P Q a w:=
 B9 zs l rs ts _ _ (fun _ h=>KG h) (fun h5 l2 a w h1 h2=>pS ts _ l2 a w (B8 ts h5) h1 h2) hm hB hS h
theorem zl{id:Nat}{a:Act}{w:World}{lo:List Oper}(zs:List Nat)(l:List (List Nat×Nat))(rs ys us:List Nat)(hm:P.follows .mixedOrders=true)(hB:FB .any lo.toArray zs rs (ys++us) (lastB .any lo.toArray (ys++us) ys us) l=true)(hsel:Region.noSelect lo.toArray=true)(hS:S w.drew)(h:wpQuiet P lo.toArray (fun _=>True) (fun a'=>bX P lo.toArray S (fun a' w'=>wpQuiet P lo.toArray (fun _=>True) (fun a2=>wpList P lo.toArray (iN Q) (pick lo.toArray us) a2 w') (pick lo.toArray ys) a') rs l a' w.drew) (pick lo.toArray zs) a):(Code.region id lo.toArray true).wp P Q a w:=by
 refine B9 zs l rs (ys++us) _ _ (fun l2 h j hj=> ?_) (fun h5 l2 a w h1 h2=> ?_) hm hB hS h
 ·unfold lastB at h
  simp only[Bool.and_eq_true,List.all_eq_true]at h;simpa using h.1 j hj
 ·unfold lastB at h1
  simp only[Bool.and_eq_true]at h1;obtain⟨_,h1⟩:=h1;split at h1
  ·rename_i l3 hl3
   rw[List.length_append];exact vw hsel us.length ys l2 l3 a hl3 h2 fun a' ha'=>pS us _ l3 a' w (B8 us fun i hi=>h5 i (List.mem_append_right _ hi)) h1 ha'
  ·cases h1
end
end
structure cE(W W':World):Prop where
 size:W.heap.size<=W'.heap.size
 same:∀(k:Nat)(o:Obj),W.heap[k]?=some o->o.isCells=true->W'.heap[k]?=some o
theorem cE.refl(W:World):cE W W:=⟨Nat.le_refl _,fun _ _ h _=>h⟩
theorem cE.trans{A B C:World}(h:cE A B)(k:cE B C):cE A C:=⟨Nat.le_trans h.size k.size,fun i o hi ho=>k.same i o (h.same i o hi ho) ho⟩
theorem cE.grown{W W':World}{row:Option Nat}(hg:W.grownBy W' row)(hr:∀r,row=some r->∃o:Obj,W.heap[r]?=some o/\o.isCells=false):cE W W':=
 ⟨hg.size,fun k o hk ho=>(hg.block k (Array.getElem?_eq_some_iff.1 hk).1 fun e=>by
  obtain⟨o',h1,h2⟩:=hr k e.symm;rw[hk]at h1;cases h1;rw[ho]at h2;cases h2).trans hk⟩
theorem cE.putObj{W:World}{l:Nat}{o:Obj}(o':Obj)(h:W.heap[l]?=some o)(ho:o.isCells=false):cE W (W.putObj l o'):=cE.grown (grownBy_putObj' W l o') fun r e=>by cases e;exact⟨o,h,ho⟩
theorem cE.alloc(W:World)(o:Obj):cE W (W.alloc o):=cE.grown (World.grownBy_alloc W o none) fun r e=>by cases e
theorem cE.cell{W W':World}{a:Addr}{v:Value}(h:cE W W')(hc:W.cell? a=some v):W'.cell? a=some v:=by
 unfold World.cell? at*;cases ho:W.heap[a.block]? with
 |none=>simp[ho]at hc
 |some o=>
  rw[ho]at hc;cases o with
  |cells c t f=>
   rw[h.same _ _ ho rfl];exact hc
  |_=>simp at hc
theorem ru{B B':Nat}{W W':World}(h:KeepsFrom B W W')(hb:B<=B'):KeepsFrom B' W W':=⟨h.size,fun k o hB hk ho=>h.same k o (Nat.le_trans hb hB) hk ho⟩
def aat(B:Nat)(I:Nat->World->Prop)(j:Nat)(W:World):Exit->Act->World->Prop
 | .normal,_,W'=>KeepsFrom B W W'/\cE W W'/\I j W'
 |_,_,_=>False
def Passes(P:Program)(g:Nat)(lb:Array Value)(ys:List ByteArray)(w:World):Prop:=
 ∀(n l:Nat)(J:Nat->World->Prop)(W:World),cE w W->OwnFrom W.heap.size J->
  (∀m j s W1,ys[j]?=some s->J j W1->YieldAt Fence.wide m P l #[.string s] W1 fun e W'=>e=.returned (.bool true)/\J (j+1) W'/\cE W1 W'/\KeepsFrom W.heap.size W1 W')->
  J 0 W->CallsIn Fence.wide n P g (#[.func (.yield l) #[] #[]]++lb) W fun e W'=>(∃v,e=.returned v)/\J ys.length W'/\cE W W'
theorem vz{P:Program}{g:Operand}{ps:Array Tmp}{assign body:Code}{Q:Exit->Act->World->Prop}{a:Act}{w:World}{n gf:Nat}{lb:Array Value}{ys:List ByteArray}
 (hg:a.eval g=.func (.func gf) #[] lb) (eg:∀args w,(callFunc gf args).run P w=.ok (.enter gf args) w) (hp:Passes P gf lb ys w) (hps:ps.size=1)
 (I:Nat->World->Prop) (hI:OwnFrom w.heap.size I) (h0:I 0 w) (a1:ByteArray->Act)
 (hassign:∀l m s W K,K (a1 s) W->assign.wpIn (Fence.wide.inRound l) m P (Exit.then K fun _ _ _=>False) {tmps:=(ps.zip #[Value.string s]).foldl (fun t(p,v)=>t.setIfInBounds p v) a.tmps,defers:= []} W)
 (hbody:∀l m j s W,ys[j]?=some s->I j W->cE w W->body.wpIn (Fence.wide.inRound l) m P (aat w.heap.size I (j+1) W) (a1 s) W)
 (hdone:∀D W,w.heap.size<=D->D<W.heap.size->I ys.length W->cE w W->W.heap[D]?=some (.deferred (some []))->Q .normal {a with defers:={target:=.collected D,args:=#[]}::a.defers} W):
 (Code.rangeFunc g ps assign body).wpIn Fence.wide n P Q a w:=by
 refine wpIn_rangeFunc fun fn hfn=> ?_
 obtain⟨rec,hrec⟩:∃rec:LoopState->Loop,rec=fun st=>{state:=st,pending:=none,fn,tmps:=a.tmps,params:=ps,assign,body,defers:=w.heap.size}:=⟨_,rfl⟩
 obtain⟨W1,hW1⟩:∃W1,(w.alloc (.deferred (some []))).alloc (.loop (rec .ready))=W1:=⟨_,rfl⟩;have hL1:W1.heap[w.heap.size+1]?=some (.loop (rec .ready)):=by
  have:=World.alloc_heap_new (w.alloc (.deferred (some []))) (.loop (rec .ready));rw[World.size_alloc,hW1]at this;exact this
 have hK1:W1.heap[w.heap.size]?=some (.deferred (some [])):=by
  rw[<-hW1];exact(Below.heap_alloc _ _ _ (by simp)).trans (World.alloc_heap_new w _)
 have hc1:cE w W1:=by
  rw[<-hW1];exact(cE.alloc _ _).trans (cE.alloc _ _)
 have hI1:I 0 W1:=by
  rw[<-hW1];exact hI.alloc _ (hI.alloc _ h0)
 have hsz:w.heap.size+2<=W1.heap.size:=by
  rw[<-hW1];simp
 refine⟨w.heap.size+1,[{target:=.collected w.heap.size,args:=#[]}],W1,{target:=.fn (.func gf) lb,args:=#[.func (.yield (w.heap.size+1)) #[] #[]]},W1,gf,#[.func (.yield (w.heap.size+1)) #[] #[]]++lb,W1,?_,?_,fun _ _=>trivial,?_,fun h=>(by cases h),?_⟩
 ·rw[<-hW1,hrec]
  exact run_enterLoop_outer _ _ _ _ _
 ·simp only[resolve,hg]
  simp[go_sem]
 ·simp[invoke,go_sem,eg]
 have hne:∀{A B:World}{row:Option Nat}{k:Nat}{o:Obj},A.grownBy B row->(∀r,row=some r->W1.heap.size<=r/\∃o:Obj,A.heap[r]?=some o/\o.isCells=false)->k<W1.heap.size->A.heap[k]?=some o->B.heap[k]?=some o:=fun hg hr hk h=>
  (hg.block _ (Array.getElem?_eq_some_iff.1 h).1 fun e=>by have:=(hr _ e.symm).1;omega).trans h
 refine(hp (n - 1) (w.heap.size+1) (fun j W=>(I j W/\cE w W)/\W.heap[w.heap.size+1]?=some (.loop (rec .ready))/\W.heap[w.heap.size]?=some (.deferred (some []))) W1 hc1
  (fun j A B row hs hg hr=>⟨⟨hI j A B row hs.1.1 hg fun r e=>⟨by have:=(hr r e).1;omega,(hr r e).2⟩,hs.1.2.trans (cE.grown hg fun r e=>(hr r e).2)⟩,hne hg hr (by omega) hs.2.1,hne hg hr (by omega) hs.2.2⟩) ?_ ⟨⟨hI1,hc1⟩,hL1,hK1⟩).mono ?_
 ·rintro m j s W hj ⟨⟨hi,hc⟩,hl,hk⟩
  have hlt:w.heap.size+1<W.heap.size:=(Array.getElem?_eq_some_iff.1 hl).1;have hy:=run_yield (P:=P) (args:=#[Value.string s]) hl (by rw[hrec];exact hps.symm);rw[hrec]at hy;refine⟨fn,_,assign,body,hy,roundIn_of_wpIn hfn (hassign _ _ s W _ ⟨_,run_beginRound hl (by rw[hrec]),?_⟩)⟩;have hl2:(W.putObj (w.heap.size+1) (.loop {rec .ready with state:=.busy})).heap[w.heap.size+1]?=some (.loop {rec .ready with state:=.busy}):=World.putObj_heap_same hlt;have hk2:(W.putObj (w.heap.size+1) (.loop {rec .ready with state:=.busy})).heap[w.heap.size]?=some (.deferred (some [])):=(World.putObj_heap_other (by omega)).trans hk;have hc2:cE W (W.putObj (w.heap.size+1) (.loop {rec .ready with state:=.busy})):=cE.putObj _ hl rfl;refine wpIn_mono (hbody _ _ j s _ hj (hI.putObj _ hi (by omega) hl rfl) (hc.trans hc2)) ?_;rintro e a3 W3 hp;cases e with
  |normal=>
   obtain⟨hk3,hc3,hi3⟩:=hp;have hl3:=hk3.same _ _ (by omega) hl2 rfl;have hr:=run_endRound (P:=P) none hl3;rw[hrec]at hr;have adK:W3.heap[w.heap.size+1]?=some (.loop {rec .ready with state:=.busy}):=hl3;have hc4:cE W3 (W3.putObj (w.heap.size+1) (.loop (rec .ready))):=cE.putObj _ adK rfl;refine⟨_,_,hr,rfl,⟨⟨hI.putObj _ hi3 (by omega) adK rfl,((hc.trans hc2).trans hc3).trans ?_⟩,?_,?_⟩,(hc2.trans hc3).trans ?_,(KeepsFrom.of_grownBy (B:=W1.heap.size) (grownBy_putObj' _ (w.heap.size+1) _) (fun j e=>by cases e;omega)).trans ((ru hk3 (show w.heap.size<=W1.heap.size by omega)).trans (KeepsFrom.of_grownBy (grownBy_putObj' _ (w.heap.size+1) _) (fun j e=>by cases e;omega)))⟩
   ·rw[hrec]at hc4;exact hc4
   ·rw[hrec];exact World.putObj_heap_same (Array.getElem?_eq_some_iff.1 hl3).1
   ·exact(World.putObj_heap_other (by omega)).trans (hk3.same _ _ (Nat.le_refl _) hk2 rfl)
   ·rw[hrec]at hc4;exact hc4
  |_=>exact hp.elim
 ·rintro e W2 ⟨⟨v,rfl⟩,⟨⟨hi,hc⟩,hl,hk⟩,hcc⟩
  have:=run_endLoop (P:=P) hl (by rw[hrec];simp);rw[hrec]at this;refine⟨none,_,this,hdone w.heap.size _ (Nat.le_refl _) ?_ (hI.putObj _ hi (by omega) hl rfl) (hc.trans (cE.putObj _ hl rfl)) ((World.putObj_heap_other (by omega)).trans hk)⟩;have:=(Array.getElem?_eq_some_iff.1 hk).1;simpa using this
def Marked(B T:Nat)(w:World)(ds:List Deferred):Prop:=(ds.Pairwise fun d e=>d.target≠e.target)/\∀d∈ds,∃r,d={target:=.collected r,args:=#[]}/\B<=r/\r<T/\w.heap[r]?=some (.deferred (some []))
theorem Marked.nil(B T:Nat)(w:World):Marked B T w []:=⟨List.Pairwise.nil,fun d hd=>nomatch hd⟩
theorem Marked.kept{B T:Nat}{w w':World}{ds:List Deferred}(h:Marked B T w ds)(hk:KeepsFrom B w w'):Marked B T w' ds:=⟨h.1,fun d hd=>by
 obtain⟨r,h1,h2,h3,h4⟩:=h.2 d hd;exact⟨r,h1,h2,h3,hk.same r _ h2 h4 rfl⟩⟩
theorem Marked.own(B T:Nat)(ds:List Deferred){β:Type}:OwnFrom T fun(_:β) W=>Marked B T W ds:=fun _ W W' row hs hg hr=>⟨hs.1,fun d hd=>by
 obtain⟨r,h1,h2,h3,h4⟩:=hs.2 d hd;exact⟨r,h1,h2,h3,(hg.block r (Array.getElem?_eq_some_iff.1 h4).1 fun e=>by have:=(hr r e.symm).1;omega).trans h4⟩⟩
theorem Marked.cons{B T T' D:Nat}{w:World}{ds:List Deferred}(h:Marked B T w ds)(hB:B<=T)(hT:T<=D)(hD:D<T')(hd:w.heap[D]?=some (.deferred (some []))):Marked B T' w ({target:=.collected D,args:=#[]}::ds):=by
 refine⟨List.pairwise_cons.2 ⟨fun e he=> ?_,h.1⟩,fun d hd'=> ?_⟩
 ·obtain⟨r,rfl,_,h3,_⟩:=h.2 e he
  intro h5;cases h5;omega
 ·rcases List.mem_cons.1 hd' with rfl|hd'
  ·exact⟨D,rfl,by omega,hD,hd⟩
  ·obtain⟨r,h1,h2,h3,h4⟩:=h.2 d hd'
   exact⟨r,h1,h2,by omega,h4⟩
theorem ry{P:Program}{n:Nat}{fn:Func}{tmps:Array Value}{B T:Nat}{R:Ending->World->Prop}{K:World->Prop}(hK:OwnFrom B fun(_:Unit)=>K)(hR:∀w,K w->LeavesIn Fence.wide n P fn tmps R [] .returning w):
 ∀(ds:List Deferred)(w:World),Marked B T w ds->K w->LeavesInM Fence.wide n P fn tmps R ds .returning w
 | [],w,_,hk=>hR w hk
 |d::ds,w,hm,hk=>by
  obtain⟨hd,hm⟩:=hm;obtain⟨h1,h2⟩:=List.pairwise_cons.1 hd;obtain⟨r,rfl,hB,hT,hr⟩:=hm _ List.mem_cons_self;refine⟨by simp,.inl ⟨r,_,rfl,run_takeDeferred hr,ry (T:=T) hK hR ds _ ⟨h2,fun e he=> ?_⟩ (hK.putObj (s:=()) _ hk hB hr rfl)⟩⟩;obtain⟨r',h3,h4,h6,h5⟩:=hm e (List.mem_cons_of_mem _ he);refine⟨r',h3,h4,h6,(World.putObj_heap_other ?_).trans h5⟩;have:=h1 e he;rw[h3]at this;rintro rfl;exact this rfl
noncomputable def pK(a n:Nat):Bool:=(List.range n).all fun i=> !((prog.funcs[a+i]?).any Func.goes)
theorem aaZ:pK 0 60=true:=by kernel_rfl
theorem aa0:pK 60 60=true:=by kernel_rfl
theorem aa1:pK 120 60=true:=by kernel_rfl
theorem aa2:pK 180 60=true:=by kernel_rfl
theorem aa3:pK 240 60=true:=by kernel_rfl
theorem aa4:pK 300 60=true:=by kernel_rfl
theorem aa5:pK 360 140=true:=by kernel_rfl
theorem Pg:prog.funcs.size<=500:=of_decide_eq_true (by kernel_rfl)
theorem rE{a n g:Nat}(h:pK a n=true)(h1:a<=g)(h2:g<a+n):(prog.funcs[g]?).any Func.goes=false:=by
 have:=List.all_eq_true.1 h (g - a) (List.mem_range.2 (by omega));rw[show a+(g - a)=g by omega]at this;simpa using this
theorem My(g:Nat):(prog.funcs[g]?).any Func.goes=false:=by
 by_cases h:g<500
 ·rcases Nat.lt_or_ge g 60 with h1|h1
  ·exact rE aaZ (Nat.zero_le _) h1
  rcases Nat.lt_or_ge g 120 with h2|h2
  ·exact rE aa0 h1 h2
  rcases Nat.lt_or_ge g 180 with h3|h3
  ·exact rE aa1 h2 h3
  rcases Nat.lt_or_ge g 240 with h4|h4
  ·exact rE aa2 h3 h4
  rcases Nat.lt_or_ge g 300 with h5|h5
  ·exact rE aa3 h4 h5
  rcases Nat.lt_or_ge g 360 with h6|h6
  ·exact rE aa4 h5 h6
  exact rE aa5 h6 h
 ·rw[Array.getElem?_eq_none (by have:=Pg;omega)]
  rfl
theorem Mz(f:FuncId):prog.goes f=false:=by
 unfold Program.goes;have h:prog.funcs.any Func.goes=false:=by
  rw[Array.any_eq_false];intro i hi;have:=My i;rw[Array.getElem?_eq_getElem hi]at this;simpa using this
 rw[h,Bool.and_false,Bool.or_false];simp[My]
end Go.Proofs.YtomgpelfmgkknaaGreatDoor
