/- Lemmas for the law. No conditions. -/
import Derived.Test.YtomgpelfmgkknaaGreatDoorM7
import Derived.Test.YtomgpelfmgkknaaGreatDoorM4
namespace Go.Proofs.YtomgpelfmgkknaaGreatDoor
open Go.RowKit Go.Maps
open Go.Proofs.Tryz
set_option maxRecDepth 100000
set_option maxHeartbeats 40000000
set_option linter.unusedVariables false
set_option linter.unusedSimpArgs false
def argN(op:Int):Nat:=if op=0∨op=1∨op=2∨op=3 then 0 else if op=9∨op=15 then 1 else if op=16 then 3 else 2
def named3(op:Int):Bool:=(op==1||op==2)||op==3
def iz(e:Xp):Bool:=(decide (0<=e.op)&&decide (e.op<17))&&(((!(e.op==2)||nameB e.key)&&(e.args.length==argN e.op))&&(((if e.op=0 then ou (jF e.num 0) 1099511627776 else 0)==e.num)&&((named3 e.op||e.str.toList.isEmpty)&&((e.op==2||e.key.toList.isEmpty)&&(!named3 e.op||nameB e.str)))))
def ea:Nat->Xp->Bool
 |0,_=>false
 |d+1,e=>iz e&&e.args.all (ea d)
theorem Ky(e:Xp)(cs:zv)(w:World)(h:iP w cs e):Calls prog 146 #[.agg cs.toArray,.int .i64 0] w (cX (.bool (ea 0 e)) w):=by
 obtain⟨ao,c,rfl,hv⟩:=h.opened;clear h hv;go_enter func146,ntmps146;go_wp2;go_ret;exact⟨rfl,ae⟩
theorem Fj(d:Nat)(e:Xp)(cs:zv)(w:World)(h:iP w cs e)(hd:d<100)(ho:e.op<0∨17<=e.op):Calls prog 146 #[.agg cs.toArray,.int .i64 ((d+1:Nat):Int)] w (cX (.bool (ea (d+1) e)) w):=by
 have e0:ea (d+1) e=false:=by
  simp only[ea,iz];rcases ho with h|h
  ·rw[jE (show ¬(0:Int)<=e.op by omega)];rfl
  ·rw[jE (show ¬e.op<17 by omega),Bool.and_false];rfl
 rw[e0];have q:(((d+1:Nat):Int)==0)=false:=by simp;omega
 obtain⟨ao,c,rfl,hv⟩:=h.opened;clear h hv e0;rcases ho with h|h
 ·have q1:decide (e.op<0)=true:=zdt h
  clear h;go_enter func146,ntmps146;go_wp2;go_ret;exact⟨rfl,ae⟩
 ·have q1:decide (e.op<0)=false:=jE (by omega)
  have q2:decide (17<=e.op)=true:=zdt h;clear h;go_enter func146,ntmps146;go_wp2;go_ret;exact⟨rfl,ae⟩
theorem Fk(d:Nat)(op num:Int)(str key:ByteArray)(args:List Xp)(ao:Option Addr)(c:Nat)(w:World)(hg:Gl w)(h3:gS str)(h4:gS key)(hd:d<100)(hl:args.length<=9223372036854775807)(ho:op=0)(hh:iz (.mk op num str key args)=false):Calls prog 146 #[.agg #[.int .i64 op,.int .i64 num,.string str,.string key,.slice ao args.length c],.int .i64 ((d+1:Nat):Int)] w (cX (.bool false) w):=by
 have q:(((d+1:Nat):Int)==0)=false:=by simp;omega
 have HG:=aa hg;have HS:=aa h3;have HK:=aa h4;have HH:=aa hh;clear hg h3 h4 hh;subst ho;go_enter func146,ntmps146;go_wp2_with ((with_reducible refine(kI _ _ (HG.zo.exts ae) (by first|exact HS.zo|exact HK.zo)).mono ?_);rintro e w' ⟨rfl,x9,rfl⟩)
 all_goals first
  |(go_ret;exact⟨rfl,ae⟩)
  |(exfalso;have:=HH.zo;clear HH HG HS HK;subst_vars;simp_all[iz,argN,named3,Xp.op,Xp.num,Xp.str,Xp.key,Xp.args];done)
  |(exfalso;have:=HH.zo;clear HH HG HS HK;subst_vars;simp_all[iz,argN,named3,Xp.op,Xp.num,Xp.str,Xp.key,Xp.args];omega)
theorem Fl(d:Nat)(op num:Int)(str key:ByteArray)(args:List Xp)(ao:Option Addr)(c:Nat)(w:World)(hg:Gl w)(h3:gS str)(h4:gS key)(hd:d<100)(hl:args.length<=9223372036854775807)(ho:op=1)(hh:iz (.mk op num str key args)=false):Calls prog 146 #[.agg #[.int .i64 op,.int .i64 num,.string str,.string key,.slice ao args.length c],.int .i64 ((d+1:Nat):Int)] w (cX (.bool false) w):=by
 have q:(((d+1:Nat):Int)==0)=false:=by simp;omega
 have HG:=aa hg;have HS:=aa h3;have HK:=aa h4;have HH:=aa hh;clear hg h3 h4 hh;subst ho;go_enter func146,ntmps146;go_wp2_with ((with_reducible refine(kI _ _ (HG.zo.exts ae) (by first|exact HS.zo|exact HK.zo)).mono ?_);rintro e w' ⟨rfl,x9,rfl⟩)
 all_goals first
  |(go_ret;exact⟨rfl,ae⟩)
  |(exfalso;have:=HH.zo;clear HH HG HS HK;subst_vars;simp_all[iz,argN,named3,Xp.op,Xp.num,Xp.str,Xp.key,Xp.args];done)
  |(exfalso;have:=HH.zo;clear HH HG HS HK;subst_vars;simp_all[iz,argN,named3,Xp.op,Xp.num,Xp.str,Xp.key,Xp.args];omega)
theorem Fm(d:Nat)(op num:Int)(str key:ByteArray)(args:List Xp)(ao:Option Addr)(c:Nat)(w:World)(hg:Gl w)(h3:gS str)(h4:gS key)(hd:d<100)(hl:args.length<=9223372036854775807)(ho:op=2)(hh:iz (.mk op num str key args)=false):Calls prog 146 #[.agg #[.int .i64 op,.int .i64 num,.string str,.string key,.slice ao args.length c],.int .i64 ((d+1:Nat):Int)] w (cX (.bool false) w):=by
 have q:(((d+1:Nat):Int)==0)=false:=by simp;omega
 have HG:=aa hg;have HS:=aa h3;have HK:=aa h4;have HH:=aa hh;clear hg h3 h4 hh;subst ho;go_enter func146,ntmps146;go_wp2_with ((with_reducible refine(kI _ _ (HG.zo.exts ae) (by first|exact HS.zo|exact HK.zo)).mono ?_);rintro e w' ⟨rfl,x9,rfl⟩)
 all_goals(try go_region)
 all_goals(try go_wp2_with ((with_reducible refine(kI _ _ (HG.zo.exts ae) (by first|exact HS.zo|exact HK.zo)).mono ?_);rintro e w' ⟨rfl,x9,rfl⟩))
 all_goals first
  |(go_ret;exact⟨rfl,ae⟩)
  |(exfalso;have:=HH.zo;clear HH HG HS HK;subst_vars;simp_all[iz,argN,named3,Xp.op,Xp.num,Xp.str,Xp.key,Xp.args];done)
  |(exfalso;have:=HH.zo;clear HH HG HS HK;subst_vars;simp_all[iz,argN,named3,Xp.op,Xp.num,Xp.str,Xp.key,Xp.args];omega)
theorem Fo(d:Nat)(op num:Int)(str key:ByteArray)(args:List Xp)(ao:Option Addr)(c:Nat)(w:World)(hg:Gl w)(h3:gS str)(h4:gS key)(hd:d<100)(hl:args.length<=9223372036854775807)(ho:op=3)(hh:iz (.mk op num str key args)=false):Calls prog 146 #[.agg #[.int .i64 op,.int .i64 num,.string str,.string key,.slice ao args.length c],.int .i64 ((d+1:Nat):Int)] w (cX (.bool false) w):=by
 have q:(((d+1:Nat):Int)==0)=false:=by simp;omega
 have HG:=aa hg;have HS:=aa h3;have HK:=aa h4;have HH:=aa hh;clear hg h3 h4 hh;subst ho;go_enter func146,ntmps146;go_wp2_with ((with_reducible refine(kI _ _ (HG.zo.exts ae) (by first|exact HS.zo|exact HK.zo)).mono ?_);rintro e w' ⟨rfl,x9,rfl⟩)
 all_goals first
  |(go_ret;exact⟨rfl,ae⟩)
  |(exfalso;have:=HH.zo;clear HH HG HS HK;subst_vars;simp_all[iz,argN,named3,Xp.op,Xp.num,Xp.str,Xp.key,Xp.args];done)
  |(exfalso;have:=HH.zo;clear HH HG HS HK;subst_vars;simp_all[iz,argN,named3,Xp.op,Xp.num,Xp.str,Xp.key,Xp.args];omega)
theorem Fp(d:Nat)(op num:Int)(str key:ByteArray)(args:List Xp)(ao:Option Addr)(c:Nat)(w:World)(hg:Gl w)(h3:gS str)(h4:gS key)(hd:d<100)(hl:args.length<=9223372036854775807)(ho:op=9)(hh:iz (.mk op num str key args)=false):Calls prog 146 #[.agg #[.int .i64 op,.int .i64 num,.string str,.string key,.slice ao args.length c],.int .i64 ((d+1:Nat):Int)] w (cX (.bool false) w):=by
 have q:(((d+1:Nat):Int)==0)=false:=by simp;omega
 have HG:=aa hg;have HS:=aa h3;have HK:=aa h4;have HH:=aa hh;clear hg h3 h4 hh;subst ho;go_enter func146,ntmps146;go_wp2_with ((with_reducible refine(kI _ _ (HG.zo.exts ae) (by first|exact HS.zo|exact HK.zo)).mono ?_);rintro e w' ⟨rfl,x9,rfl⟩)
 all_goals first
  |(go_ret;exact⟨rfl,ae⟩)
  |(exfalso;have:=HH.zo;clear HH HG HS HK;subst_vars;simp_all[iz,argN,named3,Xp.op,Xp.num,Xp.str,Xp.key,Xp.args];done)
  |(exfalso;have:=HH.zo;clear HH HG HS HK;subst_vars;simp_all[iz,argN,named3,Xp.op,Xp.num,Xp.str,Xp.key,Xp.args];omega)
theorem Db(d:Nat)(op num:Int)(str key:ByteArray)(args:List Xp)(ao:Option Addr)(c:Nat)(w:World)(hg:Gl w)(h3:gS str)(h4:gS key)(hd:d<100)(hl:args.length<=9223372036854775807)(ho:op=15)(hh:iz (.mk op num str key args)=false):Calls prog 146 #[.agg #[.int .i64 op,.int .i64 num,.string str,.string key,.slice ao args.length c],.int .i64 ((d+1:Nat):Int)] w (cX (.bool false) w):=by
 have q:(((d+1:Nat):Int)==0)=false:=by simp;omega
 have HG:=aa hg;have HS:=aa h3;have HK:=aa h4;have HH:=aa hh;clear hg h3 h4 hh;subst ho;go_enter func146,ntmps146;go_wp2_with ((with_reducible refine(kI _ _ (HG.zo.exts ae) (by first|exact HS.zo|exact HK.zo)).mono ?_);rintro e w' ⟨rfl,x9,rfl⟩)
 all_goals first
  |(go_ret;exact⟨rfl,ae⟩)
  |(exfalso;have:=HH.zo;clear HH HG HS HK;subst_vars;simp_all[iz,argN,named3,Xp.op,Xp.num,Xp.str,Xp.key,Xp.args];done)
  |(exfalso;have:=HH.zo;clear HH HG HS HK;subst_vars;simp_all[iz,argN,named3,Xp.op,Xp.num,Xp.str,Xp.key,Xp.args];omega)
theorem Dc(d:Nat)(op num:Int)(str key:ByteArray)(args:List Xp)(ao:Option Addr)(c:Nat)(w:World)(hg:Gl w)(h3:gS str)(h4:gS key)(hd:d<100)(hl:args.length<=9223372036854775807)(ho:op=16)(hh:iz (.mk op num str key args)=false):Calls prog 146 #[.agg #[.int .i64 op,.int .i64 num,.string str,.string key,.slice ao args.length c],.int .i64 ((d+1:Nat):Int)] w (cX (.bool false) w):=by
 have q:(((d+1:Nat):Int)==0)=false:=by simp;omega
 have HG:=aa hg;have HS:=aa h3;have HK:=aa h4;have HH:=aa hh;clear hg h3 h4 hh;subst ho;go_enter func146,ntmps146;go_wp2_with ((with_reducible refine(kI _ _ (HG.zo.exts ae) (by first|exact HS.zo|exact HK.zo)).mono ?_);rintro e w' ⟨rfl,x9,rfl⟩)
 all_goals first
  |(go_ret;exact⟨rfl,ae⟩)
  |(exfalso;have:=HH.zo;clear HH HG HS HK;subst_vars;simp_all[iz,argN,named3,Xp.op,Xp.num,Xp.str,Xp.key,Xp.args];done)
  |(exfalso;have:=HH.zo;clear HH HG HS HK;subst_vars;simp_all[iz,argN,named3,Xp.op,Xp.num,Xp.str,Xp.key,Xp.args];omega)
theorem Fq(d:Nat)(op num:Int)(str key:ByteArray)(args:List Xp)(ao:Option Addr)(c:Nat)(w:World)(hg:Gl w)(h3:gS str)(h4:gS key)(hd:d<100)(hl:args.length<=9223372036854775807)(ho:(0<=op/\op<17)/\op≠0/\op≠1/\op≠2/\op≠3/\op≠9/\op≠15/\op≠16)(hh:iz (.mk op num str key args)=false):Calls prog 146 #[.agg #[.int .i64 op,.int .i64 num,.string str,.string key,.slice ao args.length c],.int .i64 ((d+1:Nat):Int)] w (cX (.bool false) w):=by
 have q:(((d+1:Nat):Int)==0)=false:=by simp;omega
 have HG:=aa hg;have HS:=aa h3;have HK:=aa h4;have HH:=aa hh;clear hg h3 h4 hh;have q0:(op==0)=false:=by simp;omega
 have q1:(op==1)=false:=by simp;omega
 have q2:(op==2)=false:=by simp;omega
 have q3:(op==3)=false:=by simp;omega
 have q9:(op==9)=false:=by simp;omega
 have JP:(op==15)=false:=by simp;omega
 have q16:(op==16)=false:=by simp;omega
 have JQ:decide (op<0)=false:=jE (by omega);have q21:decide (17<=op)=false:=jE (by omega);have HO:=aa ho;clear ho;go_enter func146,ntmps146;go_wp2_with ((with_reducible refine(kI _ _ (HG.zo.exts ae) (by first|exact HS.zo|exact HK.zo)).mono ?_);rintro e w' ⟨rfl,x9,rfl⟩)
 all_goals first
  |(go_ret;exact⟨rfl,ae⟩)
  |(exfalso;have:=HH.zo;clear HH HG HS HK;subst_vars;simp_all[iz,argN,named3,Xp.op,Xp.num,Xp.str,Xp.key,Xp.args];done)
  |(exfalso;have:=HH.zo;clear HH HG HS HK;subst_vars;simp_all[iz,argN,named3,Xp.op,Xp.num,Xp.str,Xp.key,Xp.args];omega)
theorem De(d:Nat)(num:Int)(ao:Option Addr)(c:Nat)(w:World)(hg:Gl w)(hd:d<100)(hn:ou (jF num 0) 1099511627776=num):Calls prog 146 #[.agg #[.int .i64 0,.int .i64 num,.string ⟨#[]⟩,.string ⟨#[]⟩,.slice ao 0 c],.int .i64 ((d+1:Nat):Int)] w (cX (.bool (true)) w):=by
 have q:((d:Int)+1==0)=false:=by simp;omega
 have WD:((d+1:Nat):Int) - 1=(d:Int):=by omega
 have WE:(d:Int)+1 - 1=(d:Int):=by omega
 have HG:=aa hg;clear hg;go_enter func146,ntmps146;go_wp2_with (first|(refine wp_loop_rounds 6 ?_;rw[rounds_succ])|(rw[rounds_succ]))
 go_ret;exact⟨by rfl,ae⟩
theorem Df(d:Nat)(str:ByteArray)(ao:Option Addr)(c:Nat)(w:World)(hg:Gl w)(hd:d<100)(h3:gS str)(hs1:nameB str=true):Calls prog 146 #[.agg #[.int .i64 1,.int .i64 0,.string str,.string ⟨#[]⟩,.slice ao 0 c],.int .i64 ((d+1:Nat):Int)] w (cX (.bool (true)) w):=by
 have q:((d:Int)+1==0)=false:=by simp;omega
 have WD:((d+1:Nat):Int) - 1=(d:Int):=by omega
 have WE:(d:Int)+1 - 1=(d:Int):=by omega
 have HG:=aa hg;clear hg;have HS:=aa h3;have xM:=aa hs1;clear h3 hs1;go_enter func146,ntmps146;go_wp2_with (first|((with_reducible refine(kI str _ (HG.zo.exts ae) HS.zo).mono ?_);rintro e w' ⟨rfl,x8,rfl⟩;rw[xM.zo])|(refine wp_loop_rounds 6 ?_;rw[rounds_succ])|(rw[rounds_succ]))
 go_ret;exact⟨by rfl,ae⟩
theorem Dg(d:Nat)(str:ByteArray)(key:ByteArray)(ao:Option Addr)(c:Nat)(w:World)(hg:Gl w)(hd:d<100)(h3:gS str)(hs1:nameB str=true)(h4:gS key)(hs2:nameB key=true):Calls prog 146 #[.agg #[.int .i64 2,.int .i64 0,.string str,.string key,.slice ao 0 c],.int .i64 ((d+1:Nat):Int)] w (cX (.bool (true)) w):=by
 have q:((d:Int)+1==0)=false:=by simp;omega
 have WD:((d+1:Nat):Int) - 1=(d:Int):=by omega
 have WE:(d:Int)+1 - 1=(d:Int):=by omega
 have HG:=aa hg;clear hg;have HS:=aa h3;have xM:=aa hs1;clear h3 hs1;have HK:=aa h4;have HS2:=aa hs2;clear h4 hs2;go_enter func146,ntmps146;go_wp2_with (first|((with_reducible refine(kI str _ (HG.zo.exts ae) HS.zo).mono ?_);rintro e w' ⟨rfl,x8,rfl⟩;rw[xM.zo])|((with_reducible refine(kI key _ (HG.zo.exts ae) HK.zo).mono ?_);rintro e w' ⟨rfl,x9,rfl⟩;rw[HS2.zo])|(refine wp_loop_rounds 6 ?_;rw[rounds_succ])|(rw[rounds_succ]))
 go_region;go_wp2_with (first|((with_reducible refine(kI str _ (HG.zo.exts ae) HS.zo).mono ?_);rintro e w' ⟨rfl,x8,rfl⟩;rw[xM.zo])|((with_reducible refine(kI key _ (HG.zo.exts ae) HK.zo).mono ?_);rintro e w' ⟨rfl,x9,rfl⟩;rw[HS2.zo])|(refine wp_loop_rounds 6 ?_;rw[rounds_succ])|(rw[rounds_succ]))
 go_ret;exact⟨by rfl,ae⟩
theorem Dh(d:Nat)(str:ByteArray)(ao:Option Addr)(c:Nat)(w:World)(hg:Gl w)(hd:d<100)(h3:gS str)(hs1:nameB str=true):Calls prog 146 #[.agg #[.int .i64 3,.int .i64 0,.string str,.string ⟨#[]⟩,.slice ao 0 c],.int .i64 ((d+1:Nat):Int)] w (cX (.bool (true)) w):=by
 have q:((d:Int)+1==0)=false:=by simp;omega
 have WD:((d+1:Nat):Int) - 1=(d:Int):=by omega
 have WE:(d:Int)+1 - 1=(d:Int):=by omega
 have HG:=aa hg;clear hg;have HS:=aa h3;have xM:=aa hs1;clear h3 hs1;go_enter func146,ntmps146;go_wp2_with (first|((with_reducible refine(kI str _ (HG.zo.exts ae) HS.zo).mono ?_);rintro e w' ⟨rfl,x8,rfl⟩;rw[xM.zo])|(refine wp_loop_rounds 6 ?_;rw[rounds_succ])|(rw[rounds_succ]))
 go_ret;exact⟨by rfl,ae⟩
theorem Di(d:Nat)(xa:Xp)(ao:Option Addr)(c:Nat)(w:World)(hg:Gl w)(hd:d<100)(hs:Sl j7 w ao 1 c [xa])(ih:∀(e:Xp)(cs:zv)(w:World),Gl w->iP w cs e->Calls prog 146 #[.agg cs.toArray,.int .i64 (d:Int)] w (cX (.bool (ea d e)) w)):Calls prog 146 #[.agg #[.int .i64 9,.int .i64 0,.string ⟨#[]⟩,.string ⟨#[]⟩,.slice ao 1 c],.int .i64 ((d+1:Nat):Int)] w (cX (.bool (ea d xa)) w):=by
 have q:((d:Int)+1==0)=false:=by simp;omega
 have WD:((d+1:Nat):Int) - 1=(d:Int):=by omega
 have WE:(d:Int)+1 - 1=(d:Int):=by omega
 have HG:=aa hg;clear hg;have IH:=aa ih;have HSL:=aa hs;clear ih hs;obtain⟨b0,ZO,cs0,rfl,JJ,hR0,cZ⟩:=HSL.zo.ld (i:=0) rfl;simp only[Nat.zero_mul,Nat.one_mul,Nat.add_zero,Nat.reduceMul]at cZ;have HR0:=aa (show iP _ cs0 _ from hR0);have ZP:=List.all_eq_true.2 ((j7).one hR0);have len0:=(j7).len hR0
 (try simp only[j7]at len0)
 clear hR0;obtain⟨r0,hr0⟩:∃r,ea d xa=r:=⟨_,rfl⟩;have wO:=aa hr0;rw[hr0];clear hr0;cases r0 with
 |false=>
  go_enter func146,ntmps146;go_wp2_with (first|(refine wp_loop_rounds 6 ?_;rw[rounds_succ])|(rw[rounds_succ])|((with_reducible refine(IH.zo xa _ _ (HG.zo.exts ae) (iP.exts HR0.zo ae)).mono ?_);rintro e w' ⟨rfl,x20,rfl⟩;rw[wO.zo]))
  go_ret;exact⟨by rfl,ae⟩
 |true=>
  go_enter func146,ntmps146;go_wp2_with (first|(refine wp_loop_rounds 6 ?_;rw[rounds_succ])|(rw[rounds_succ])|((with_reducible refine(IH.zo xa _ _ (HG.zo.exts ae) (iP.exts HR0.zo ae)).mono ?_);rintro e w' ⟨rfl,x20,rfl⟩;rw[wO.zo]))
  go_ret;exact⟨by rfl,ae⟩
theorem BJ(d:Nat)(xa:Xp)(ao:Option Addr)(c:Nat)(w:World)(hg:Gl w)(hd:d<100)(hs:Sl j7 w ao 1 c [xa])(ih:∀(e:Xp)(cs:zv)(w:World),Gl w->iP w cs e->Calls prog 146 #[.agg cs.toArray,.int .i64 (d:Int)] w (cX (.bool (ea d e)) w)):Calls prog 146 #[.agg #[.int .i64 15,.int .i64 0,.string ⟨#[]⟩,.string ⟨#[]⟩,.slice ao 1 c],.int .i64 ((d+1:Nat):Int)] w (cX (.bool (ea d xa)) w):=by
 have q:((d:Int)+1==0)=false:=by simp;omega
 have WD:((d+1:Nat):Int) - 1=(d:Int):=by omega
 have WE:(d:Int)+1 - 1=(d:Int):=by omega
 have HG:=aa hg;clear hg;have IH:=aa ih;have HSL:=aa hs;clear ih hs;obtain⟨b0,ZO,cs0,rfl,JJ,hR0,cZ⟩:=HSL.zo.ld (i:=0) rfl;simp only[Nat.zero_mul,Nat.one_mul,Nat.add_zero,Nat.reduceMul]at cZ;have HR0:=aa (show iP _ cs0 _ from hR0);have ZP:=List.all_eq_true.2 ((j7).one hR0);have len0:=(j7).len hR0
 (try simp only[j7]at len0)
 clear hR0;obtain⟨r0,hr0⟩:∃r,ea d xa=r:=⟨_,rfl⟩;have wO:=aa hr0;rw[hr0];clear hr0;cases r0 with
 |false=>
  go_enter func146,ntmps146;go_wp2_with (first|(refine wp_loop_rounds 6 ?_;rw[rounds_succ])|(rw[rounds_succ])|((with_reducible refine(IH.zo xa _ _ (HG.zo.exts ae) (iP.exts HR0.zo ae)).mono ?_);rintro e w' ⟨rfl,x20,rfl⟩;rw[wO.zo]))
  go_ret;exact⟨by rfl,ae⟩
 |true=>
  go_enter func146,ntmps146;go_wp2_with (first|(refine wp_loop_rounds 6 ?_;rw[rounds_succ])|(rw[rounds_succ])|((with_reducible refine(IH.zo xa _ _ (HG.zo.exts ae) (iP.exts HR0.zo ae)).mono ?_);rintro e w' ⟨rfl,x20,rfl⟩;rw[wO.zo]))
  go_ret;exact⟨by rfl,ae⟩
theorem Dj(d:Nat)(op:Int)(xa xb:Xp)(ao:Option Addr)(c:Nat)(w:World)(hg:Gl w)(hd:d<100)(ho:(0<=op/\op<17)/\op≠0/\op≠1/\op≠2/\op≠3/\op≠9/\op≠15/\op≠16)(hs:Sl j7 w ao 2 c [xa,xb])(ih:∀(e:Xp)(cs:zv)(w:World),Gl w->iP w cs e->Calls prog 146 #[.agg cs.toArray,.int .i64 (d:Int)] w (cX (.bool (ea d e)) w)):Calls prog 146 #[.agg #[.int .i64 op,.int .i64 0,.string ⟨#[]⟩,.string ⟨#[]⟩,.slice ao 2 c],.int .i64 ((d+1:Nat):Int)] w (cX (.bool (ea d xa&&(ea d xb))) w):=by
 have q:((d:Int)+1==0)=false:=by simp;omega
 have WD:((d+1:Nat):Int) - 1=(d:Int):=by omega
 have WE:(d:Int)+1 - 1=(d:Int):=by omega
 have HG:=aa hg;clear hg;have q0:(op==0)=false:=by simp;omega
 have q1:(op==1)=false:=by simp;omega
 have q2:(op==2)=false:=by simp;omega
 have q3:(op==3)=false:=by simp;omega
 have q9:(op==9)=false:=by simp;omega
 have JP:(op==15)=false:=by simp;omega
 have q16:(op==16)=false:=by simp;omega
 have JQ:decide (op<0)=false:=jE (by omega);have q21:decide (17<=op)=false:=jE (by omega);clear ho;have IH:=aa ih;have HSL:=aa hs;clear ih hs;obtain⟨b0,ZO,cs0,rfl,JJ,hR0,cZ⟩:=HSL.zo.ld (i:=0) rfl;simp only[Nat.zero_mul,Nat.one_mul,Nat.add_zero,Nat.reduceMul]at cZ;have HR0:=aa (show iP _ cs0 _ from hR0);have ZP:=List.all_eq_true.2 ((j7).one hR0);have len0:=(j7).len hR0
 (try simp only[j7]at len0)
 clear hR0;obtain⟨b1,off1,cs1,he1,lb1,hR1,Wb⟩:=HSL.zo.ld (i:=1) rfl;simp only[Option.some.injEq,Addr.mk.injEq,and_true]at he1;obtain⟨rfl,rfl⟩:=he1;simp only[Nat.zero_mul,Nat.one_mul,Nat.add_zero,Nat.reduceMul]at Wb;have HR1:=aa (show iP _ cs1 _ from hR1);have one1:=List.all_eq_true.2 ((j7).one hR1);have len1:=(j7).len hR1
 (try simp only[j7]at len1)
 clear hR1;obtain⟨r0,hr0⟩:∃r,ea d xa=r:=⟨_,rfl⟩;have wO:=aa hr0;rw[hr0];clear hr0;obtain⟨r1,hr1⟩:∃r,ea d xb=r:=⟨_,rfl⟩;have IA:=aa hr1;rw[hr1];clear hr1;cases r0 with
 |false=>
  go_enter func146,ntmps146;go_wp2_with (first|(refine wp_loop_rounds 6 ?_;rw[rounds_succ])|(rw[rounds_succ])|((with_reducible refine(IH.zo xa _ _ (HG.zo.exts ae) (iP.exts HR0.zo ae)).mono ?_);rintro e w' ⟨rfl,x20,rfl⟩;rw[wO.zo])|((with_reducible refine(IH.zo xb _ _ (HG.zo.exts ae) (iP.exts HR1.zo ae)).mono ?_);rintro e w' ⟨rfl,x21,rfl⟩;rw[IA.zo]))
  go_ret;exact⟨by rfl,ae⟩
 |true=>
  cases r1 with
  |false=>
   go_enter func146,ntmps146;go_wp2_with (first|(refine wp_loop_rounds 6 ?_;rw[rounds_succ])|(rw[rounds_succ])|((with_reducible refine(IH.zo xa _ _ (HG.zo.exts ae) (iP.exts HR0.zo ae)).mono ?_);rintro e w' ⟨rfl,x20,rfl⟩;rw[wO.zo])|((with_reducible refine(IH.zo xb _ _ (HG.zo.exts ae) (iP.exts HR1.zo ae)).mono ?_);rintro e w' ⟨rfl,x21,rfl⟩;rw[IA.zo]))
   go_ret;exact⟨by rfl,ae⟩
  |true=>
   go_enter func146,ntmps146;go_wp2_with (first|(refine wp_loop_rounds 6 ?_;rw[rounds_succ])|(rw[rounds_succ])|((with_reducible refine(IH.zo xa _ _ (HG.zo.exts ae) (iP.exts HR0.zo ae)).mono ?_);rintro e w' ⟨rfl,x20,rfl⟩;rw[wO.zo])|((with_reducible refine(IH.zo xb _ _ (HG.zo.exts ae) (iP.exts HR1.zo ae)).mono ?_);rintro e w' ⟨rfl,x21,rfl⟩;rw[IA.zo]))
   go_ret;exact⟨by rfl,ae⟩
theorem Mi:∀(d:Nat)(hd:d<100)(e:Xp)(cs:zv)(most:Int)(w:World),iP w cs e->Calls prog 19 #[.agg cs.toArray,.int .i64 most,.int .i64 (d:Int)] w fun r w'=> ∃n:Int,r=.returned (.int .i64 n)/\af w w'
 |0,_,e,cs,most,w,h=>by
  obtain⟨ao,c,rfl,hv⟩:=h.opened;clear h hv;go_enter func19,ntmps19;go_wp2;go_ret;exact⟨_,rfl,ae⟩
 |d+1,hd,e,cs,most,w,h=>by
  have ih:=Mi d (by omega);obtain⟨ao,c,rfl,hv⟩:=h.opened;have hm:=hv.2.2.2.2.nle;unfold maxLen at hm;have HS:=aa hv.2.2.2.2;have IH:=aa ih;obtain⟨D,hD⟩:∃D:Int,((d+1:Nat):Int)=D:=⟨_,rfl⟩;have q:decide (D<1)=false:=jE (by omega);have WD:D - 1=(d:Int):=by omega
  have W1: -9223372036854775808<=D - 1:=by omega
  have W2:D - 1<=9223372036854775807:=by omega
  rw[hD];clear hD;clear h hv ih;go_enter func19,ntmps19;go_wp2;go_loopw [7,8] (fun n i wr=> ∃(k:Nat)(N:Int),k<=e.args.length/\i=.int .i64 k/\n=.int .i64 N/\af (w.alloc (.cells #[.int .i64 e.op,.int .i64 e.num,.string e.str,.string e.key,.slice ao e.args.length c] 48)) wr) (fun _ i _=>e.args.length - (intOf i).toNat)
  case atStart=>exact⟨0,1,by omega,rfl,rfl,ae⟩
  case round=>
   obtain⟨k,N,hk,rfl,rfl,⟨y,rfl⟩⟩:=hrel;by_cases hlt:k<e.args.length
   ·cases qm:decide (N<=most)with
    |true=>
     obtain⟨x,hx⟩:=HS.zo.ex hlt;obtain⟨b,off,cs,rfl,lb,hR,hld⟩:=HS.zo.ld hx;have one1:=List.all_eq_true.2 ((j7).one hR);have len1:=(j7).len hR
     (try simp only[j7]at len1)
     have HR:=aa (show iP w cs x from hR);clear hx hR;go_wp2_with ((with_reducible refine(IH.zo x _ _ _ (iP.exts HR.zo ae)).mono ?_);rintro e' w' ⟨m,rfl,x9,rfl⟩)
     refine⟨⟨k+1,_,by omega,by go_num,rfl,ae⟩,?_⟩;simp[intOf];omega
    |false=>
     go_wp2;go_ret;exact⟨_,rfl,ae⟩
   ·go_wp2
    go_ret;exact⟨_,rfl,ae⟩
theorem oM(e:Xp)(cs:zv)(most:Int)(w:World)(h:iP w cs e):Calls prog 19 #[.agg cs.toArray,.int .i64 most,.int .i64 14] w fun r w'=> ∃n:Int,r=.returned (.int .i64 n)/\af w w':=Mi 14 (by decide) e cs most w h
def fy(P:Prop)(w:World)(e:Ending)(w':World):Prop:= ∃b,e=.returned (.bool b)/\(b=true->P)/\af w w'
theorem fy.of{P:Prop}{w w':World}{e:Ending}(b:Bool)(h:e=.returned (.bool b))(hp:b=true->P)(hx:af w w'):fy P w e w':=⟨b,h,hp,hx⟩
theorem fy.no{P:Prop}{w w':World}{e:Ending}(h:e=.returned (.bool false))(hx:af w w'):fy P w e w':=⟨false,h,(fun h=>by cases h),hx⟩
def oN(r:Rule):Prop:=r.zones.length<=5/\r.exc.length<=5
theorem KB(r:Rule)(cs:zv)(w:World)(h:(aw).R w cs r):Calls prog 11 #[.agg cs.toArray] w (fy (oN r) w):=by
 obtain⟨cN,cO,dY,dZ,ej,ek,rfl,q0,q1,q2,q3,q4,q5,q6,q7,q8,q9,q10,q11,q12,q13,pV⟩:=h;have HT:=aa q7;have n1:=q1.nle;have n2:=q2.nle;unfold maxLen at n1 n2;have HG:Hid (∀b:Bool,b=true->r.zones.length<=5->r.exc.length<=5->oN r):=aa (fun b _ h1 h2=>⟨h1,h2⟩);clear q0 q1 q2 q3 q4 q5 q6 q7 q8 q9 q10 q11 q12 q13 pV;by_cases h1:r.zones.length<=5
 ·by_cases h2:r.exc.length<=5
  ·go_enter func11,ntmps11
   go_wp2_with ((with_reducible refine(oM r.test _ _ _ (HT.zo.exts ae).shut).mono ?_);rintro e' w' ⟨m,rfl,x9,rfl⟩)
   all_goals(
    go_ret;exact fy.of _ rfl (fun _=>⟨h1,h2⟩) ae)
  ·have q:decide ((r.exc.length:Int)<=5)=false:=jE (by omega)
   go_enter func11,ntmps11;go_wp2_with ((with_reducible refine(oM r.test _ _ _ (HT.zo.exts ae).shut).mono ?_);rintro e' w' ⟨m,rfl,x9,rfl⟩)
   all_goals(
    go_ret;exact fy.no rfl ae)
 ·have q:decide ((r.zones.length:Int)<=5)=false:=jE (by omega)
  go_enter func11,ntmps11;go_wp2_with ((with_reducible refine(oM r.test _ _ _ (HT.zo.exts ae).shut).mono ?_);rintro e' w' ⟨m,rfl,x9,rfl⟩)
  all_goals(
   go_ret;exact fy.no rfl ae)
theorem Sa{w:World}{ao:Option Addr}{n c:Nat}{l:List Def}(h:Sl mC w ao n c l){i:Nat}{d:Def}(hd:l[i]?=some d):∃b off o c',ao=some ⟨b,off,none⟩/\b<w.heap.size/\yv w o c' d.body/\∀w',af w w'->(jf 48 ⟨b,off+i*6+1,none⟩).run prog w'=.ok (.agg #[.int .i64 d.body.op,.int .i64 d.body.num,.string d.body.str,.string d.body.key,.slice o d.body.args.length c']) w':=by
 obtain⟨b,off,o,c',rfl,hb,c0,c1,c2,c3,c4,c5,q0,q1⟩:=Ew h hd;refine⟨b,off,o,c',rfl,hb,q1,fun w' he=> ?_⟩;refine uy (cs:= [.int .i64 d.body.op,.int .i64 d.body.num,.string d.body.str,.string d.body.key,.slice o d.body.args.length c']) rfl fun j u hu=>af.cell he ?_
 match j,hu with
 |0,hu=>(cases hu;exact c1)
 |1,hu=>(cases hu;exact c2)
 |2,hu=>(cases hu;exact c3)
 |3,hu=>(cases hu;exact c4)
 |4,hu=>(cases hu;exact c5)
structure Mj(p:Plan):Prop where
 rules:p.rules.length<=5
 defs:p.defs.length<=4
 zones:p.zones.length<=4
 caps:p.caps.length<=3
 tables:p.tables.length<=3
 views:p.views.length<=3
 eA:p.eA.length<=5
 rule:∀(i:Nat)(r:Rule),p.rules[i]?=some r->oN r
 zone:∀(i:Nat)(z:Zone),p.zones[i]?=some z->z.corners.length<=12
 cap:∀(i:Nat)(z:Cap),p.caps[i]?=some z->z.corners.length<=12
 table:∀(i:Nat)(t:xz),p.tables[i]?=some t->t.rows.length<=6
 view:∀(i:Nat)(v:View),p.views[i]?=some v->v.targets.length<=5
theorem IE(p:Plan)(cs:zv)(w:World)(h:(bq).R w cs p):Calls prog 18 #[.agg cs.toArray] w (fy (Mj p) w):=by
 obtain⟨bF,bG,aN,aK,aX,aY,bH,bE,bN,bO,bj,aZ,cj,ck,rfl,q0,q1,q2,q3,q4,q5,q6,q7⟩:=h;have rS:=aa q0;have n0:=q0.nle;have kS:=aa q1;have n1:=q1.nle;have fj:=aa q2;have n2:=q2.nle;have np:=aa q3;have n3:=q3.nle;have rT:=aa q4;have n4:=q4.nle;have nr:=aa q5;have n5:=q5.nle;have ZR:=aa q6;have n6:=q6.nle;unfold maxLen at n0 n1 n2 n3 n4 n5 n6;clear q0 q1 q2 q3 q4 q5 q6 q7;by_cases hs:p.rules.length<=5/\p.defs.length<=4/\p.zones.length<=4/\p.caps.length<=3/\p.tables.length<=3/\p.views.length<=3/\p.eA.length<=5
 case neg=>
  have HS:=aa hs;clear hs;go_enter func18,ntmps18;go_wp2_with fail
  all_goals first
   |(go_ret;exact fy.no rfl ae)
   |(exfalso;have:=HS.zo;simp_all;omega)
 case pos=>
 obtain⟨b0,b1,b2,b3,b4,b5,b6⟩:=hs;have afg:decide ((5:Int)<(p.rules.length:Int))=false:=jE (by omega);have ahu:decide ((4:Int)<(p.defs.length:Int))=false:=jE (by omega);have afh:decide ((4:Int)<(p.zones.length:Int))=false:=jE (by omega);have ahv:decide ((3:Int)<(p.caps.length:Int))=false:=jE (by omega);have aeE:decide ((3:Int)<(p.tables.length:Int))=false:=jE (by omega);have afi:decide ((3:Int)<(p.views.length:Int))=false:=jE (by omega);have ahJ:decide ((5:Int)<(p.eA.length:Int))=false:=jE (by omega);go_enter func18,ntmps18;go_wp2_with fail
 go_loopw [3] (fun i wr=> ∃(k:Nat),k<=p.rules.length/\i=.int .i64 k/\af (w.alloc (.cells #[.slice bF p.defs.length bG,.slice aN p.tables.length aK,.slice aX p.zones.length aY,.slice bH p.rules.length bE,.slice bN p.caps.length bO,.slice bj p.views.length aZ,.slice cj p.eA.length ck,.int .i64 p.hours] 30)) wr/\∀(j:Nat)(d:Rule),j<k->p.rules[j]?=some d->oN d) (fun i _=>p.rules.length - (intOf i).toNat)
 case atStart=>exact⟨0,by omega,rfl,ae,fun j d hj=>by omega⟩
 case round=>
  obtain⟨k,hk,rfl,⟨y0,rfl⟩,hall⟩:=hrel;have ey:=aa hall;clear hall;by_cases hlt:k<p.rules.length
  ·obtain⟨d,hd⟩:=np.zo.ex hlt
   have HD:=aa hd;obtain⟨b,off,cs,rfl,lb,hR,hld⟩:=np.zo.ld hd;have one1:=List.all_eq_true.2 ((aw).one hR);have len1:=(aw).len hR
   (try simp only[aw]at len1)
   have HR:=aa hR;clear hd hR;go_wp2_with ((with_reducible refine(KB d _ _ ((aw).exts HR.zo ae)).mono ?_);rintro e' w' ⟨b,rfl,hb,x9,rfl⟩;(have HB:=aa hb);clear hb)
   all_goals first
    |(go_ret;exact fy.no rfl ae)
    |skip
   refine⟨⟨k+1,by omega,by go_num,ae,fun j x hj hx=> ?_⟩,?_⟩
   ·rcases Nat.lt_or_ge j k with h1|h1
    ·exact ey.zo j x h1 hx
    ·obtain rfl:j=k:=by omega
     have e:=HD.zo;rw[hx]at e;cases e;exact HB.zo (by first|assumption|rfl|simp_all)
   ·simp[intOf];omega
  ·obtain rfl:k=p.rules.length:=by omega
   have Oe:=aa (show∀(i:Nat)(d:Rule),p.rules[i]?=some d->oN d from fun i d hd=>ey.zo i d (bw hd).1 hd);go_wp2_with fail
   go_loopw [4] (fun i wr=> ∃(k:Nat),k<=p.defs.length/\i=.int .i64 k/\af (w.alloc (.cells #[.slice bF p.defs.length bG,.slice aN p.tables.length aK,.slice aX p.zones.length aY,.slice bH p.rules.length bE,.slice bN p.caps.length bO,.slice bj p.views.length aZ,.slice cj p.eA.length ck,.int .i64 p.hours] 30)) wr) (fun i _=>p.defs.length - (intOf i).toNat)
   case atStart=>exact⟨0,by omega,rfl,ae⟩
   case round=>
    obtain⟨k,hk,rfl,⟨y1,rfl⟩⟩:=hrel;by_cases hlt:k<p.defs.length
    ·obtain⟨d,hd⟩:=rS.zo.ex hlt
     have HD:=aa hd;obtain⟨b,off,o1,c1,rfl,lb,hR,hld⟩:=Sa rS.zo hd;have HR:=aa hR;clear hd hR;go_wp2_with ((with_reducible refine(oM d.body _ _ _ (HR.zo.exts ae).shut).mono ?_);rintro e' w' ⟨m,rfl,x9,rfl⟩)
     all_goals first
      |(go_ret;exact fy.no rfl ae)
      |skip
     refine⟨⟨k+1,by omega,by go_num,ae⟩,?_⟩
     ·simp[intOf];omega
    ·obtain rfl:k=p.defs.length:=by omega
     go_wp2_with fail
     go_loopw [5] (fun i wr=> ∃(k:Nat),k<=p.zones.length/\i=.int .i64 k/\af (w.alloc (.cells #[.slice bF p.defs.length bG,.slice aN p.tables.length aK,.slice aX p.zones.length aY,.slice bH p.rules.length bE,.slice bN p.caps.length bO,.slice bj p.views.length aZ,.slice cj p.eA.length ck,.int .i64 p.hours] 30)) wr/\∀(j:Nat)(d:Zone),j<k->p.zones[j]?=some d->d.corners.length<=12) (fun i _=>p.zones.length - (intOf i).toNat)
     case atStart=>exact⟨0,by omega,rfl,ae,fun j d hj=>by omega⟩
     case round=>
      obtain⟨k,hk,rfl,⟨y2,rfl⟩,hall⟩:=hrel;have ey:=aa hall;clear hall;by_cases hlt:k<p.zones.length
      ·obtain⟨d,hd⟩:=fj.zo.ex hlt
       have HD:=aa hd;obtain⟨b,off,aV,aW,rfl,lb,c0,c1,c2,r0,r1⟩:=Ak fj.zo hd;have m1:=r1.nle;unfold maxLen at m1;clear hd r0 r1;go_wp2_with fail
       all_goals first
        |(go_ret;exact fy.no rfl ae)
        |skip
       refine⟨⟨k+1,by omega,by go_num,ae,fun j x hj hx=> ?_⟩,?_⟩
       ·rcases Nat.lt_or_ge j k with h1|h1
        ·exact ey.zo j x h1 hx
        ·obtain rfl:j=k:=by omega
         have e:=HD.zo;rw[hx]at e;cases e;omega
       ·simp[intOf];omega
      ·obtain rfl:k=p.zones.length:=by omega
       have HA2:=aa (show∀(i:Nat)(d:Zone),p.zones[i]?=some d->d.corners.length<=12 from fun i d hd=>ey.zo i d (bw hd).1 hd);go_wp2_with fail
       go_loopw [6] (fun i wr=> ∃(k:Nat),k<=p.caps.length/\i=.int .i64 k/\af (w.alloc (.cells #[.slice bF p.defs.length bG,.slice aN p.tables.length aK,.slice aX p.zones.length aY,.slice bH p.rules.length bE,.slice bN p.caps.length bO,.slice bj p.views.length aZ,.slice cj p.eA.length ck,.int .i64 p.hours] 30)) wr/\∀(j:Nat)(d:Cap),j<k->p.caps[j]?=some d->d.corners.length<=12) (fun i _=>p.caps.length - (intOf i).toNat)
       case atStart=>exact⟨0,by omega,rfl,ae,fun j d hj=>by omega⟩
       case round=>
        obtain⟨k,hk,rfl,⟨y3,rfl⟩,hall⟩:=hrel;have ey:=aa hall;clear hall;by_cases hlt:k<p.caps.length
        ·obtain⟨d,hd⟩:=rT.zo.ex hlt
         have HD:=aa hd;obtain⟨b,off,aV,aW,rfl,lb,c0,c1,c2,c3,r0,r1,r2,r3⟩:=Vb rT.zo hd;have m1:=r3.nle;unfold maxLen at m1;clear hd r0 r1 r2 r3;go_wp2_with fail
         all_goals first
          |(go_ret;exact fy.no rfl ae)
          |skip
         refine⟨⟨k+1,by omega,by go_num,ae,fun j x hj hx=> ?_⟩,?_⟩
         ·rcases Nat.lt_or_ge j k with h1|h1
          ·exact ey.zo j x h1 hx
          ·obtain rfl:j=k:=by omega
           have e:=HD.zo;rw[hx]at e;cases e;omega
         ·simp[intOf];omega
        ·obtain rfl:k=p.caps.length:=by omega
         have HA3:=aa (show∀(i:Nat)(d:Cap),p.caps[i]?=some d->d.corners.length<=12 from fun i d hd=>ey.zo i d (bw hd).1 hd);go_wp2_with fail
         go_loopw [7] (fun i wr=> ∃(k:Nat),k<=p.tables.length/\i=.int .i64 k/\af (w.alloc (.cells #[.slice bF p.defs.length bG,.slice aN p.tables.length aK,.slice aX p.zones.length aY,.slice bH p.rules.length bE,.slice bN p.caps.length bO,.slice bj p.views.length aZ,.slice cj p.eA.length ck,.int .i64 p.hours] 30)) wr/\∀(j:Nat)(d:xz),j<k->p.tables[j]?=some d->d.rows.length<=6) (fun i _=>p.tables.length - (intOf i).toNat)
         case atStart=>exact⟨0,by omega,rfl,ae,fun j d hj=>by omega⟩
         case round=>
          obtain⟨k,hk,rfl,⟨y4,rfl⟩,hall⟩:=hrel;have ey:=aa hall;clear hall;by_cases hlt:k<p.tables.length
          ·obtain⟨d,hd⟩:=kS.zo.ex hlt
           have HD:=aa hd;obtain⟨b,off,iF,iG,rfl,lb,c0,c1,c2,r0,r1,r2⟩:=Va kS.zo hd;have m1:=r1.nle;unfold maxLen at m1;clear hd r0 r1 r2;go_wp2_with fail
           all_goals first
            |(go_ret;exact fy.no rfl ae)
            |skip
           refine⟨⟨k+1,by omega,by go_num,ae,fun j x hj hx=> ?_⟩,?_⟩
           ·rcases Nat.lt_or_ge j k with h1|h1
            ·exact ey.zo j x h1 hx
            ·obtain rfl:j=k:=by omega
             have e:=HD.zo;rw[hx]at e;cases e;omega
           ·simp[intOf];omega
          ·obtain rfl:k=p.tables.length:=by omega
           have HA4:=aa (show∀(i:Nat)(d:xz),p.tables[i]?=some d->d.rows.length<=6 from fun i d hd=>ey.zo i d (bw hd).1 hd);go_wp2_with fail
           go_loopw [8] (fun i wr=> ∃(k:Nat),k<=p.views.length/\i=.int .i64 k/\af (w.alloc (.cells #[.slice bF p.defs.length bG,.slice aN p.tables.length aK,.slice aX p.zones.length aY,.slice bH p.rules.length bE,.slice bN p.caps.length bO,.slice bj p.views.length aZ,.slice cj p.eA.length ck,.int .i64 p.hours] 30)) wr/\∀(j:Nat)(d:View),j<k->p.views[j]?=some d->d.targets.length<=5) (fun i _=>p.views.length - (intOf i).toNat)
           case atStart=>exact⟨0,by omega,rfl,ae,fun j d hj=>by omega⟩
           case round=>
            obtain⟨k,hk,rfl,⟨y5,rfl⟩,hall⟩:=hrel;have ey:=aa hall;clear hall;by_cases hlt:k<p.views.length
            ·obtain⟨d,hd⟩:=nr.zo.ex hlt
             have HD:=aa hd;obtain⟨b,off,fl,fo,rfl,lb,c0,c1,c2,c3,c4,c5,r0,r1,r2,r3,r4,r5⟩:=PT nr.zo hd;have m1:=r5.nle;unfold maxLen at m1;clear hd r0 r1 r2 r3 r4 r5;go_wp2_with fail
             all_goals first
              |(go_ret;exact fy.no rfl ae)
              |skip
             refine⟨⟨k+1,by omega,by go_num,ae,fun j x hj hx=> ?_⟩,?_⟩
             ·rcases Nat.lt_or_ge j k with h1|h1
              ·exact ey.zo j x h1 hx
              ·obtain rfl:j=k:=by omega
               have e:=HD.zo;rw[hx]at e;cases e;omega
             ·simp[intOf];omega
            ·obtain rfl:k=p.views.length:=by omega
             have HA5:=aa (show∀(i:Nat)(d:View),p.views[i]?=some d->d.targets.length<=5 from fun i d hd=>ey.zo i d (bw hd).1 hd);go_wp2_with fail
             go_ret;exact fy.of _ rfl (fun _=>⟨b0,b1,b2,b3,b4,b5,b6,Oe.zo,HA2.zo,HA3.zo,HA4.zo,HA5.zo⟩) ae
end Go.Proofs.YtomgpelfmgkknaaGreatDoor
