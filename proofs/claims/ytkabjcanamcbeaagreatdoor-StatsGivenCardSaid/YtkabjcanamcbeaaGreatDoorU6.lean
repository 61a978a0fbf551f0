/- Texts joined. -/
import Derived.Test.YtkabjcanamcbeaaGreatDoorU5
set_option linter.unusedVariables false
set_option linter.unusedSimpArgs false
namespace Go.Ar
open Go Go.Vc Go.Proofs
variable {σ u u':Hp}{F B P Q:Rg}{L:LayH}{H H':Hw}{t k n pb:Nat}{A:AR}{Y:Lay}{x:LayT}{g:Th}{c:Cls}{l:Li}{cs:List Value}
set_option maxRecDepth 8000 in
theorem WkX (hso:HP)(h:HH σ F L H)(ht:t<H.ths.length)(p:Ph)(hp:WgX H t p)(hlen:∀g,H.ths[t]?=some g->g.hands.length<=900){R:Value->Int->Int->Hp->Prop}(hR:WoZ σ F L (Wt H t p) R) :
 ZD.c (aW L.p) (t:Int) (phV (some p)) σ R:=by
 refine ZD.o ?_;unfold ZD.v;have hlen':∀g,H.ths[t]?=some g->g.hands.length<=1000:=λg hg=>by have:=hlen g hg;omega
 refine nw (cs:=[.int .i64 0,.int .i64 0]) λv hz e i=>?_;have K1:=(HK.start h).box e hz;obtain⟨x,g,E,hg⟩:=h.th ht;have hlen:=hlen g hg;have htg:=GK hg;have hol:=own_lt h.s t;obtain⟨A,hA⟩:∃A,H.ars[H.own t]?=some A:=⟨_,gGe hol⟩;have hAe:=Wji hA;obtain⟨Y,hY,_,_⟩:=h.ar hA;refine nilP (K1.h.hd.rS rfl ?_);refine Wnf K1.h.trowS K1.h.s.ts E hg (d:=0) O rfl λtb0 to0 ha _=>?_;have hS1:AtH (λu=>u=v) L H.tb:=λm hm=>by cases hm;exact⟨_,L.ts,H,K1.h,rfl⟩
 refine⟨λu=>u=v,rfl,nilP (hS1.arow (Whm K1.h t ⟨rfl,K1.h.rA hY ⟨rfl,?_⟩⟩))⟩;refine Wbm (λw=>∃P ts',HK F σ (λb=>False\/b=σ.size) w P {L with ts:=ts'} (Wt H t p).1/\Blk w σ.size [.int .i64 0,.int .i64 0]/\(Wt H t p).2=(none,0,0)) (λw ⟨P,ts',K,hbw,X⟩=>?_) λJ hJ=>?_
 ·refine ret2 (n:=σ.size) K (.inr rfl) hbw λZ K'=>?_;have:=hR Z ts' K'.e (K'.fin h);rw[X]at this;exact this
 cases p with
 | take k=>
  obtain⟨hk,hy9⟩:k<H.tb.length/\∀y l,Kb (H.cls k) ((H.thr t).li k)=(some y,l)->I63 y:=hp;obtain⟨c,hc⟩:∃c,H.tb[k]?=some c:=⟨_,gGe hk⟩;have hll:=h.lsL E hg;obtain⟨l,hl⟩:∃l,g.ls[k]?=some l:=⟨_,gGe (by rw[hll];exact hk)⟩;have hce:=Ua hc;have hle:=WkD hl;rw[hce,htg,hle]at hy9;refine ye1 (nw (cs:=[.int .i64 0]) λv5 M V N=>?_);have K5:=K1.box V M;refine N.s0 aA λv6 o6 hb6=>?_;have K6:=K5.own o6 (.inr rfl);have C:=Ws o6 (V.blk i id) O;refine⟨λu=>u=v6,rfl,nilP ⟨some ⟨x.c.p,0,none⟩,λu U=>by cases U;exact K6.h.tc E hg ha O rfl,⟨(k:Int),λu U=>by cases U;rw[add_lit,hb6.cell];rfl,?_⟩⟩⟩;refine WkQ K6.h E hg hc hl λv7 ts7 W h7=>?_;have K7:=K6.to W h7 λb _ i=>i;have hb7:=K6.keepB W hb6 (.inr rfl);have B:=K6.keepB W C (.inl (.inr rfl));cases htk:Kb c l with
  | mk o l'=>
  rw[htk]at h7 K7;cases o with
  | some y=>
   have X:Wt H t (.take k)=(VF (H.setLs t g (g.ls.set k l')) y (c.size:Int) (k:Int),none,y,0):=by
    simp only[Wt,hce,htg,hle,htk,ZM hg];rfl
   rw[X]at hR;have hS2:AtH (λu=>(∃P ts H',HH u P {L with ts:=ts} H'/\H'.tb=H.tb)/\Blk u v.size [.int .i64 (k:Int)]) L H.tb:=λm hm=>hm.1;refine ifT rfl ⟨λu=>(∃P ts H',HH u P {L with ts:=ts} H'/\H'.tb=H.tb)/\Blk u v.size [.int .i64 (k:Int)],⟨⟨_,_,_,K7.h,rfl⟩,hb7⟩,nilP (hS2.tab ⟨(k:Int),λu U=>by rw[add_lit,U.2.cell];rfl,?_⟩)⟩;refine AtH.rC (L:={L with ts:=ts7}) (H:=H.setLs t g (g.ls.set k l')) hS2 K7.h hc ⟨(k:Int),λu U=>by rw[add_lit,U.2.cell];rfl,?_⟩;refine Wck K7.h y (c.size:Int) (k:Int) (hy9 y l' htk) λv8 e8 h8=>?_;have K8:=K7.to e8 h8 λb _ i=>.inl i;refine⟨⟨⟨_,_,_,h8,rfl⟩,K7.keepB e8 hb7 (.inr rfl)⟩,?_⟩;exact ret2 (n:=σ.size) K8 (.inl (.inr rfl)) (K7.keepB e8 B (.inl (.inr rfl))) λZ K'=>hR Z ts7 K'.e (K'.fin h)
  | none=>
   have X:Wt H t (.take k)=(H.setLs t g (g.ls.set k l'),some (.transfer k (Wa7 c l')),0,0):=by
    simp only[Wt,hce,htg,hle,htk,ZM hg];rfl
   rw[X]at hR;have htlt:=(gSi.1 hg).1;have hklt:=(gSi.1 hl).1;have hg7:(H.setLs t g (g.ls.set k l')).ths[t]?=some {g with ls:=g.ls.set k l'}:=by simp[Hw.setLs,htlt]
   obtain⟨x7,g7,hx7,_⟩:=K7.h.th (t:=t) (by simp[Hw.setLs,htlt]);have hl7:({g with ls:=g.ls.set k l'}:Th).ls[k]?=some l':=by simp[hklt]
   refine ifF rfl ⟨λu=>u=v7,rfl,nilP ⟨some ⟨x7.c.p,0,none⟩,λu U=>by cases U;exact K7.h.tc hx7 hg7 ha O rfl,⟨(k:Int),λu U=>by cases U;rw[add_lit,hb7.cell];rfl,?_⟩⟩⟩;refine Wk1 K7.h hx7 hg7 hc hl7 λv8 ts8 e8 h8=>?_;have K8:=K7.to e8 h8 λb _ i=>i;refine(K7.keepB e8 hb7 (.inr rfl)).rI rfl ?_;exact ret2 (n:=σ.size) K8 (.inl (.inr rfl)) (K7.keepB e8 B (.inl (.inr rfl))) λZ K'=>hR Z ts8 K'.e (K'.fin h)
 | transfer k w=>
  obtain⟨hk,hne0⟩:k<H.tb.length/\(Z7 (H.arn t) (k:Int)=0->YK (H.arn t) (k:Int)≠[]):=hp;rw[hAe]at hne0;obtain⟨c,hc⟩:∃c,H.tb[k]?=some c:=⟨_,gGe hk⟩;have hce:=Ua hc;refine nx1 aB (ye2 (nw (cs:=[.int .i64 0,.int .i64 0]) λv5 M V N=>?_));have K5:=K1.box V M;refine N.s1 aA λv5b o5 b5=>b5.s1 aA λv6 o6 b6=>?_;have K6:=(K5.own o5 (.inr rfl)).own o6 (.inr rfl);have S:σ.size≠v.size:=by omega
  have C:=Ws o6 (Ws o5 (V.blk i id) S) S;refine Wbm (λu=>(∃P',HK F σ (λb=>(False\/b=σ.size)\/b=v.size) u P' L H)/\Blk u σ.size [.int .i64 0,.int .i64 0]/\Blk u v.size [.int .i64 (k:Int),.int .i64 (w:Int)]/\Wt H t (.transfer k w)=(H,some (.central k w),0,0)) (λu ⟨⟨P',K⟩,hbw,hbx,X⟩=>?_) λJ1 hJ1=>?_
  ·rw[X]at hR;exact hbx.rI rfl (hbx.rI rfl (ret2 (n:=σ.size) K (.inl (.inr rfl)) hbw λZ K'=>hR Z L.ts K'.e (K'.fin h)))
  ·refine b6.rI rfl (nilP (K6.h.hd.rS rfl (b6.rI rfl (Wbc K6.h.tabS hc (d:=2) O ?_))));simp only[zA (show ¬(2=0) by omega),zA (show ¬(2=1) by omega)];refine iff_ (λheq=>b6.rI rfl ?_) λhne'=>hJ1 v6 ⟨⟨_,K6⟩,C,b6,?_⟩
   ·have heq':w=c.batch:=by simp only[zX]at heq;omega
    refine GR K6.h hA hY (k:Int) λs v7 Q W hQ hs7 hcap h7=>?_;have K7:=K6.to W h7 λb _ i=>i.1;have b7:=K6.keepB W b6 (.inr rfl);have B:=K6.keepB W C (.inl (.inr rfl));refine iff_ (λh0=>b7.rI rfl ?_) λhn0=>?_
    ·have h0':Z7 A (k:Int)=0:=by simpa using h0
     have X:Wt H t (.transfer k w)=(QP (H.setA (H.own t) (ZR A (k:Int))) t k (YK A (k:Int)),some .fill,0,0):=by
      simp only[Wt,hce,hAe,heq',h0',zT]
     rw[X]at hR;refine G8 K7.h (t:=t) ht k hs7 hcap (hne0 h0') (λb _ z E=>E.1.2 z) (K6.h.o.sub hQ) (λz=>K6.h.o2 (hQ _ z)) hlen' λv8 ts8 e8 h8=>?_;have K8:=K7.toX e8 h8 λb i z=>by
      rcases z with z|z
      ·exact z.imp id .inl
      ·exact .inr (.inr ⟨(K6.p b (hQ b z)).1,(K6.p b (hQ b z)).2.1⟩)
     exact ret2 (n:=σ.size) K8 (.inl (.inr rfl)) (K7.keepB e8 B (.inl (.inr rfl))) λZ K'=>hR Z ts8 K'.e (K'.fin h)
    ·have hn0':Z7 A (k:Int)≠0:=by simpa using hn0
     have hsame:ZR A (k:Int)=A:=by unfold ZR;rw[zA hn0']
     rw[hsame,WdC hA]at K7;refine hJ1 v7 ⟨⟨_,K7⟩,B,b7,?_⟩;simp only[Wt,hce,hAe,heq',zA hn0',zT]
   ·have hne2:w≠c.batch:=λe=>by rw[e]at hne';simp at hne'
    simp only[Wt,hce,zA hne2]
 | central k w=>
  refine nx1 aB (nx2 aB (ye2 (nw (cs:=[.int .i64 0,.int .i64 0]) λv5 M V N=>?_)));have K5:=K1.box V M;refine N.s1 aA λv5b o5 b5=>b5.s1 aA λv6 o6 b6=>?_;have K6:=(K5.own o5 (.inr rfl)).own o6 (.inr rfl);have S:σ.size≠v.size:=by omega
  have C:=Ws o6 (Ws o5 (V.blk i id) S) S;refine b6.rI rfl (b6.rI rfl (Wa8 K6.h hA hY (k:Int) (w:Int) λs v7 Q W hQ hs7 h7=>?_));have K7:=K6.to W h7 λb _ i=>i.1;have b7:=K6.keepB W b6 (.inr rfl);have B:=K6.keepB W C (.inl (.inr rfl));have hsl:s.len=(Ys A (k:Int) (w:Int)).length:=by have:=hs7.1;simp[ints]at this;omega
  by_cases hemp:Ys A (k:Int) (w:Int)=[]
  ·have X:Wt H t (.central k w)=(H.setA (H.own t) (YO A (k:Int) (w:Int)),some (.grow k w),0,0):=by
    simp only[Wt,hAe,zB hemp]
   rw[X]at hR;refine ifDF (by rw[hsl,hemp];simp) (b7.rI rfl (b7.rI rfl ?_));exact ret2 (n:=σ.size) K7 (.inl (.inr rfl)) B λZ K'=>hR Z L.ts K'.e (K'.fin h)
  ·have X:Wt H t (.central k w)=(QP (H.setA (H.own t) (YO A (k:Int) (w:Int))) t k ((Ys A (k:Int) (w:Int)).map λ(x:Nat)=>(x:Int)),some .fill,0,0):=by
    simp only[Wt,hAe,zA hemp]
   rw[X]at hR;have hpos:=zCG.2 hemp;refine ifDT (by rw[hsl];omega) (b7.rI rfl ?_);have hs7':=RowR.slR hs7;rw[Wov]at hs7';have hz6:=K6.e.1;refine G8 K7.h (t:=t) ht k hs7' (RowR.capO hs7) (by simpa using hemp) (λb _ z E=>E.1.2 z) (K6.o.1.sub λb i=>by have:=hQ b i;omega) (λz=>K6.o.2 (by have:=hQ _ z;omega)) hlen' λv8 ts8 e8 h8=>?_;have K8:=K7.toX e8 h8 λb i z=>by
    rcases z with z|z
    ·exact z.imp id .inl
    ·have:=hQ b z;exact .inr (.inr ⟨.inr O,λhB=>by have:=(K6.b b hB).2;omega⟩)
   exact ret2 (n:=σ.size) K8 (.inl (.inr rfl)) (K7.keepB e8 B (.inl (.inr rfl))) λZ K'=>hR Z ts8 K'.e (K'.fin h)
 | grow k w=>
  refine nx1 aB (nx2 aB (nx2 aB (ye2 (nw (cs:=[.int .i64 0,.int .i64 0]) λv5 M V N=>?_))));have K5:=K1.box V M;refine N.s1 aA λv5b o5 b5=>b5.s1 aA λv6 o6 b6=>?_;have K6:=(K5.own o5 (.inr rfl)).own o6 (.inr rfl);have S:σ.size≠v.size:=by omega
  have C:=Ws o6 (Ws o5 (V.blk i id) S) S;refine b6.rI rfl (Wi3 K6.h hA hY (k:Int) λv7 W h7=>?_);have K7:=K6.to W h7 λb _ i=>i;have b7:=K6.keepB W b6 (.inr rfl);have B:=K6.keepB W C (.inl (.inr rfl));refine iff_ (λhn0=>?_) λh0=>?_
  ·have hn0':KO A H.sp (k:Int)≠0:=by simpa using hn0
   have X:Wt H t (.grow k w)=({H.setA (H.own t) (growS A H.sp (k:Int)).1 with sp:=(growS A H.sp (k:Int)).2},none,0,KO A H.sp (k:Int)):=by
    simp only[Wt,hAe,zA hn0']
   rw[X]at hR;exact ret2 (n:=σ.size) K7 (.inl (.inr rfl)) B λZ K'=>hR Z L.ts K'.e (K'.fin h)
  ·have h0':KO A H.sp (k:Int)=0:=by simpa using h0
   have X:Wt H t (.grow k w)=({H.setA (H.own t) (growS A H.sp (k:Int)).1 with sp:=(growS A H.sp (k:Int)).2},some (.central k w),0,0):=by
    simp only[Wt,hAe,zB h0']
   rw[X]at hR;refine b7.rI rfl (b7.rI rfl ?_);exact ret2 (n:=σ.size) K7 (.inl (.inr rfl)) B λZ K'=>hR Z L.ts K'.e (K'.fin h)
 | fill=>
  obtain⟨k,y,ys,r,hh,hk,hy9,hfit⟩:∃k x xs r,(H.thr t).hands=(k,x::xs)::r/\k<H.tb.length/\I63 x/\((H.thr t).li k).os.length+xs.length<=256:=hp;rw[htg]at hh hfit;obtain⟨c,hc⟩:∃c,H.tb[k]?=some c:=⟨_,gGe hk⟩;have hll:=h.lsL E hg;obtain⟨l,hl⟩:∃l,g.ls[k]?=some l:=⟨_,gGe (by rw[hll];exact hk)⟩;have hce:=Ua hc;have hle:=WkD hl;rw[hle]at hfit;refine nx1 aB (nx2 aB (nx2 aB (nx2 aB (ye0 (nw (cs:=[]) λv5 M V N=>?_)))));have K5:=K1.box V M;have hbv5:=V.blk i id;obtain⟨G,D,hG,hD,hd,aa,hr,ab⟩:=K5.h.stN (λb i=>(K5.p b i).2.2) E hg (λ_=>False) (λb _ _ z=>z) (K5.o.1.sub λb i=>i.elim) (λz=>z);rw[hh]at aa;obtain⟨so,ps,Dn,hrow,hso1,hcap,hBr,hDn,hj,S,hxne⟩:=aa.uncons;have hz5':=K5.e.1;have hsol:so.len=ys.length+1:=by have:=hso1.1;simp[Wv]at this;omega
  refine nilP (ldS (K5.h.tc E hg ha (d:=1) O rfl) (WoB (RowO.slR hrow) λa ha0 ha1=>ldI ha0 (ldS ha1 ?_)));refine nw (cs:=[.int .i64 0,.slice none 0 0]) λv43 hz43 e43 hb43=>hb43.s1 aA λv44 o44 b44=>b44.s1 aA λv45 o45 b45=>?_;have e45:Ext0 v5 v45:=(e43.only o44 (.inr (zC _))).only o45 (.inr (zC _));have hz45:v5.size<v45.size:=b45.lt;refine nilP (ab v45 ⟨none,0,0⟩ [] (λ_=>False) (Ext0.to e45) (λb i=>i.elim) (BtR.nil _ _ _) ha λv46 e46 h46=>?_);have hz46:=e46.1;have e546:Ext _ v5 v46:=(Ext0.to e45).trans (e46.sub hD);have K46:=K5.to e546 h46 λb _ z=>by
   rcases z with z|z
   ·exact .inl z.1
   ·exact z.1.elim
  have hbv46:=K5.keepB e546 hbv5 (.inl (.inr rfl));have b46:Blk v46 v5.size _:=e46.blk b45 λE=>by have:=(K5.p _ (hD _ E)).2.2;omega
  have K46b:=K46.addB (B':=λb=>b=v5.size) λb i=>⟨O,O,λE=>by
   subst i;rcases E.1 with h1|h1
   ·have:=(K5.p _ h1.1).2.2;omega
   ·exact h1.1⟩
  have hso46:=aH.keep (aH.keep0 (aH.cut hso1) e45) e46 λb _ i E=>hd b (hDn b i.1.1) E;have hXn:∀b,(Dn b/\InB so b)/\b<v5.size->¬Cut (λb=>(Cut F σ b/\¬G b)\/False/\b<v45.size) v46 b:=λb i E=>by
   rcases E.1 with h1|h1
   ·exact h1.2 (hDn b i.1.1)
   ·exact h1.1
  have hg46:({H with ths:=H.ths.set t {g with hands:=[]}}:Hw).ths[t]?=some {g with hands:=[]}:=by simp[ht]
  have hx46:(L.ts.set t {x with h:=⟨none,0,0⟩})[t]?=some {x with h:=⟨none,0,0⟩}:=zM (gSi.1 E).1;refine nilP (ldP (K46b.h.tc hx46 hg46 ha (d:=0) O rfl) (b46.rI rfl (b46.rS (a:=so.a) (n:=so.len) (c:=so.cap) rfl (slc (lo:=1) (by show 1<=so.len;omega) hcap (zC _) ?_))));have hsub:=SlR.sub hso46 (lo:=1) (hi:=so.len) (mx:=so.cap) O (zC _) hcap;have hsx:((Wv (y::ys)).drop (1*1)).take ((so.len-1)*1)=Wv ys:=by
   rw[zAZ (by simp[Wv];omega)];rfl
  rw[hsx]at hsub;have hl46:({g with hands:=[]}:Th).ls[k]?=some l:=hl;refine Wj7 K46b.h hx46 hg46 hc hl46 hsub hXn hfit λv47 ts47 e47 h47=>?_;have K47:=K46b.to e47 h47 λb _ i=>i;have hso47:=aH.keep hso46 e47 λb _ i E=>hXn b i E;have b47:=K46b.keepB e47 b46 (.inr rfl);have hbv47:=K46b.keepB e47 hbv46 (.inl (.inl (.inr rfl)));have X:Wt H t .fill=(VF {H with ths:=H.ths.set t {g with ls:=g.ls.set k (addL ys.reverse l),hands:=[]}} y (c.size:Int) (k:Int),none,y,0):=by
   simp only[Wt,htg,hh,ZM hg,hle,hce]
  rw[X]at hR;obtain⟨b0,o0,ha0',hc0⟩:=hso47.cell (j:=0) (v:=.int .i64 y) rfl;have hS4:AtH (λu=>((∃P ts H',HH u P {L with ts:=ts} H'/\H'.tb=H.tb)/\Blk u v5.size [.int .i64 (k:Int),.slice so.a so.len so.cap])/\cell u ⟨b0,o0+0,none⟩=some (.int .i64 y)) L H.tb:=λm hm=>hm.1.1;refine⟨λu=>((∃P ts H',HH u P {L with ts:=ts} H'/\H'.tb=H.tb)/\Blk u v5.size [.int .i64 (k:Int),.slice so.a so.len so.cap])/\cell u ⟨b0,o0+0,none⟩=some (.int .i64 y),⟨⟨⟨_,_,_,K47.h,rfl⟩,b47⟩,hc0⟩,⟨so,λu U=>by rw[add_lit,U.1.2.cell];rfl,?_⟩⟩;refine ix0 ha0' O ⟨y,λu U=>U.2,nilP (hS4.tab ⟨(k:Int),λu U=>by rw[add_lit,U.1.2.cell];rfl,?_⟩)⟩;refine AtH.rC (L:={L with ts:=ts47}) (H:=Hw.setLs {H with ths:=H.ths.set t {g with hands:=[]}} t {g with hands:=[]} (g.ls.set k (addL ys.reverse l))) hS4 K47.h hc ⟨(k:Int),λu U=>by rw[add_lit,U.1.2.cell];rfl,?_⟩;refine Wck K47.h y (c.size:Int) (k:Int) hy9 λv48 e48 h48=>?_;have K48:=K47.to e48 h48 λb _ i=>.inl i;have hz4747:=e47.1;have hso48:=aH.keep hso47 e48 λb _ i E=>by
   rcases E.1 with h1|h1
   ·exact hXn b i h1
   ·have:=i.2;omega
  refine⟨⟨⟨⟨_,_,_,h48,rfl⟩,K47.keepB e48 b47 (.inr rfl)⟩,?_⟩,?_⟩
  ·obtain⟨b1,o1,ha1',hc1⟩:=hso48.cell (j:=0) (v:=.int .i64 y) rfl;rw[ha0']at ha1';cases ha1';exact hc1
  ·have K49:=K48;simp only[Hw.setLs,zBP]at K49;exact ret2 (n:=σ.size) K49 (.inl (.inl (.inr rfl))) (K47.keepB e48 hbv47 (.inl (.inl (.inr rfl)))) λZ K'=>hR Z ts47 K'.e (K'.fin h)
 | large m=>
  have hp:Z5 (H.arn t) H.sp (m:Int) 1<=1000000:=hp;rw[hAe]at hp;refine nx1 aB (nx2 aB (nx2 aB (nx2 aB (nx0 aB (ye1 (nw (cs:=[.int .i64 0]) λv5 M V N=>?_))))));have K5:=K1.box V M;refine N.s0 aA λv6 o6 b6=>?_;have K6:=K5.own o6 (.inr rfl);have C:=Ws o6 (V.blk i id) O;refine b6.rI rfl (Wbh K6.h hA hY (m:Int) 1 λv7 W h7=>?_);have K7:=K6.to W h7 λb _ i=>i;have b7:=K6.keepB W b6 (.inr rfl);have B:=K6.keepB W C (.inl (.inr rfl));refine iff_ (λhn0=>?_) λh0=>?_
  ·have hn0':Qz A H.sp (m:Int) 1≠0:=by simpa using hn0
   have X:Wt H t (.large m)=({H.setA (H.own t) (takeAS A H.sp (m:Int) 1).1 with sp:=(takeAS A H.sp (m:Int) 1).2},none,0,Qz A H.sp (m:Int) 1):=by
    simp only[Wt,hAe,zA hn0']
   rw[X]at hR;exact ret2 (n:=σ.size) K7 (.inl (.inr rfl)) B λZ K'=>hR Z L.ts K'.e (K'.fin h)
  ·have h0':Qz A H.sp (m:Int) 1=0:=by simpa using h0
   have hm:m<=64:=by
    unfold Qz at h0';split at h0'
    ·rename_i hpo;simp only[Kc,zF,zS]at hpo;omega
    ·omega
   have X:Wt H t (.large m)=(VF {H.setA (H.own t) (takeAS A H.sp (m:Int) 1).1 with sp:=(takeAS A H.sp (m:Int) 1).2} ((Z5 A H.sp (m:Int) 1*256:Nat):Int) ((m*256:Nat):Int) (-1),none,((Z5 A H.sp (m:Int) 1*256:Nat):Int),0):=by
    simp only[Wt,hAe,zB h0']
   rw[X]at hR;refine arN (m:=Z5 A H.sp (m:Int) 1*256) O O (b7.rI rfl (arN (m:=m*256) O O ?_));refine Wck K7.h _ _ _ O λv8 e8 h8=>?_;have K8:=K7.to e8 h8 λb _ i=>.inl i;exact ret2 (n:=σ.size) K8 (.inl (.inr rfl)) (K7.keepB e8 B (.inl (.inr rfl))) λZ K'=>hR Z L.ts K'.e (K'.fin h)
 | find x=>
  obtain⟨hx9,hro,hlv⟩:I63 x/\(mget H.live x=none->∀A∈H.ars,RunsOk A)/\∀b,mget H.live x=some b->0<=x:=hp;refine nx1 aB (nx2 aB (nx2 aB (nx2 aB (nx0 aB (nx1 aB (ye1 (nw (cs:=[.int .i64 0]) λv5 M V N=>?_)))))));have K5:=K1.box V M;refine N.s0 aA λv6 o6 b6=>?_;have K6:=K5.own o6 (.inr rfl);have C:=Ws o6 (V.blk i id) O;refine b6.rI rfl (WkL K6.h ht x hx9 hro hlen' hlv λv7 ts7 W h7=>?_);have K7:=K6.to W h7 λb _ i=>i;have B:=K6.keepB W C (.inl (.inr rfl));exact ret2 (n:=σ.size) K7 (.inl (.inr rfl)) B λZ K'=>hR Z ts7 K'.e (K'.fin h)
 | put k y=>
  obtain⟨hk,hne0⟩:k<H.tb.length/\(H.thr t).hands≠[]:=hp;rw[htg]at hne0;obtain⟨c,hc⟩:∃c,H.tb[k]?=some c:=⟨_,gGe hk⟩;have hll:=h.lsL E hg;obtain⟨l,hl⟩:∃l,g.ls[k]?=some l:=⟨_,gGe (by rw[hll];exact hk)⟩;have hce:=Ua hc;have hle:=WkD hl;refine nx1 aB (nx2 aB (nx2 aB (nx2 aB (nx0 aB (nx1 aB (nx1 aB (ye2 (nw (cs:=[.int .i64 0,.int .i64 0]) λv5 M V N=>?_))))))));have K5:=K1.box V M;refine N.s1 aA λv5b o5 b5=>b5.s1 aA λv6 o6 b6=>?_;have K6:=(K5.own o5 (.inr rfl)).own o6 (.inr rfl);have S:σ.size≠v.size:=by omega
  have C:=Ws o6 (Ws o5 (V.blk i id) S) S;generalize hgg:(if(putL c y l).1=[]then({g with ls:=g.ls.set k (putL c y l).2}:Th)else{g with ls:=g.ls.set k (putL c y l).2,hands:=g.hands++[(k,(putL c y l).1)]})=g2
  have hg2n:g2.hands≠[]/\g2.hands.length<=901:=by
   rw[←hgg];split
   ·exact⟨hne0,by simp;omega⟩
   ·exact⟨by simp,by simp;omega⟩
  refine Wbm (λw=>∃P ts',HK F σ (λb=>(False\/b=σ.size)\/b=v.size) w P {L with ts:=ts'} {H with ths:=H.ths.set t g2}/\Blk w σ.size [.int .i64 0,.int .i64 0]) (λw ⟨P,ts2,K,hbw⟩=>?_) λJ2 hJ2=>?_
  ·have hg3:({H with ths:=H.ths.set t g2}:Hw).ths[t]?=some g2:=by simp[ht]
   obtain⟨x2,_,hx2,_⟩:=K.h.th (t:=t) (by simpa using ht);obtain⟨G,D,hG,hD,hd,aa,hr,ab⟩:=K.h.stN (λb i=>(K.p b i).2.2) hx2 hg3 (λ_=>False) (λb _ _ z=>z) (K.o.1.sub λb i=>i.elim) (λz=>z);have hbl:=aa.len;have hbc:=aa.cap;obtain⟨b0,r0,hbr⟩:∃b r,g2.hands=b::r:=by
    cases hh:g2.hands with
    | nil=>exact absurd hh hg2n.1
    | cons b r=>exact⟨b,r,rfl⟩
   have hdr:g2.hands.drop 1=r0:=by rw[hbr];rfl
   rw[hbr]at aa;have hpos:1<=x2.h.len:=by rw[hbl,hbr];simp
   refine nilP (ldS (K.h.tc hx2 hg3 ha (d:=1) O rfl) ?_);refine slc (lo:=1) hpos hbc (zC _) ?_;refine nilP (ab w _ _ G (Ext.refl _ _) (λb i=>.inl i) aa.drop1 ha λw1 e1 h1=>?_);have e1':=e1.sub hD;have K1b:=K.to e1' h1 λb _ z=>by
    rcases z with z|z
    ·exact .inl z.1
    ·exact .inl (hG b z.1)
   have hbw1:=K.keepB e1' hbw (.inl (.inr rfl));have K3:=K1b;simp only[zBP]at K3;generalize hg3':({g2 with hands:=r0}:Th)=g3 at K3;have hl3:g3.hands=r0/\g3.ls=g2.ls:=by rw[←hg3'];exact⟨rfl,rfl⟩
   have hr0:r0.length<=900:=by have:=hg2n.2;rw[hbr]at this;simp at this;omega
   have hg3e:({H with ths:=H.ths.set t g3}:Hw).ths[t]?=some g3:=by simp[ht]
   have hpe:putH H t k y=(if H.cf.budget<Qt H.tb g3.ls then{H with ths:=H.ths.set t {g3 with ls:=Q6 KK H.tb g3.ls,hands:=g3.hands++Ka KK H.tb g3.ls}}else{H with ths:=H.ths.set t g3}):=by
    have e2:(if(putL c y l).1=[]then H.setT t λh=>h.setL k (putL c y l).2 else QP (H.setT t λh=>h.setL k (putL c y l).2) t k (putL c y l).1) = {H with ths:=H.ths.set t g2}:=by
     rw[←hgg];split
     ·rw[ZM hg];rfl
     ·rw[ZM hg];unfold QP Hw.setT;simp only;rw[K0 (t:=g.setL k (putL c y l).2) (by simp[ht]),zBP];rfl
    have e3:({H with ths:=H.ths.set t g2}:Hw).setT t (λh=>{h with hands:=h.hands.drop 1}) = {H with ths:=H.ths.set t g3}:=by
     rw[ZM hg3];simp only[zBP,hdr,hg3']
    unfold putH;simp only[hce,htg,hle,e2,e3,GK hg3e,ZM hg3e,zBP]
   have hx3:(ts2.set t {x2 with h:=⟨if x2.h.cap=1 then x2.h.a else x2.h.a.map (·.add (1*2)),x2.h.len-1,x2.h.cap-1⟩})[t]?=some {x2 with h:=⟨if x2.h.cap=1 then x2.h.a else x2.h.a.map (·.add (1*2)),x2.h.len-1,x2.h.cap-1⟩}:=zM (gSi.1 hx2).1
   generalize hx3':({x2 with h:=⟨if x2.h.cap=1 then x2.h.a else x2.h.a.map (·.add (1*2)),x2.h.len-1,x2.h.cap-1⟩}:LayT)=x3 at hx3 K3
   generalize ts2.set t x3=ts3 at hx3 K3;refine Wbm (λw=>∃P ts',HK F σ (λb=>(False\/b=σ.size)\/b=v.size) w P {L with ts:=ts'} (putH H t k y)/\Blk w σ.size [.int .i64 0,.int .i64 0]) (λw ⟨P,ts',K,hbw⟩=>?_) λJ3 hJ3=>?_
   ·have X:Wt H t (.put k y)=(putH H t k y,retH (putH H t k y) t,0,0):=rfl;rw[X]at hR;refine V8 K.h (t:=t) ?_ ?_
    ·rw[hpe];split<;>simpa using ht
    ·exact ret2 (n:=σ.size) K (.inl (.inr rfl)) hbw λZ K'=>hR Z ts' K'.e (K'.fin h)
   ·refine nilP (ldP (K3.h.tc hx3 hg3e ha (d:=0) O rfl) ?_);refine Wlm K3.h hx3 hg3e λv10 e10=>?_;have K10:=K3.fr e10;have hbw10:=e10.blk hbw1 id;refine ifD (λhov=>?_) λhno=>hJ3 v10 ⟨_,ts3,by rw[hpe,zA hno];exact K10,hbw10⟩;refine⟨λu=>cell u (Addr.add ⟨tb0,to0+3*t,none⟩ 1)=some (.slice x3.h.a x3.h.len x3.h.cap)/\cell u (Addr.add ⟨tb0,to0+3*t,none⟩ 0)=some (.pointer (some ⟨x3.c.p,0,none⟩)),⟨K10.h.tc hx3 hg3e ha (d:=1) O rfl,K10.h.tc hx3 hg3e ha (d:=0) O rfl⟩,nilP ⟨x3.h,λu U=>U.1,nilP ⟨some ⟨x3.c.p,0,none⟩,λu U=>U.2,?_⟩⟩⟩;refine Wd4 hso K10.h hx3 hg3e λv11 s Q e11 hQ hB h11=>?_;have K11:=K10.to e11 h11 λb _ i=>i.1;have hbw11:=K10.keepB e11 hbw10 (.inl (.inr rfl));have hg11:(Hw.setLs {H with ths:=H.ths.set t g3} t g3 (Q6 KK H.tb g3.ls)).ths[t]?=some {g3 with ls:=Q6 KK H.tb g3.ls}:=by simp[Hw.setLs,ht]
    refine⟨⟨K11.h.tc hx3 hg11 ha (d:=1) O rfl,K11.h.tc hx3 hg11 ha (d:=0) O rfl⟩,?_⟩;have hz0:=K10.e.1;obtain⟨G,D,hG,hD,hd,aa,hr,ab⟩:=K11.h.stN (λb i=>i.2) hx3 hg11 (λb=>Q b\/v11.size<=b) (λb i hP z=>z.elim (λz=>hP.1.2 z) λz=>O) (K10.o.1.sub λb i=>i.elim (λi=>by have:=hQ b i;omega) λi=>by have:=K11.e.1;omega) (λz=>K10.o.2 (z.elim (λi=>by have:=hQ _ i;omega) λi=>by have:=K11.e.1;omega));refine BtR.app aa hB (λb hg z=>(hG b hg).1.2 z) ?_ λs' v12 e12 hB12=>?_
    ·have:=WaM KK H.tb g3.ls;have:H.tb.length<=40:=K3.h.tb40;simp only[hl3.1];omega
    have hcell:∀{d:Nat} {w:Value},d<3->(thV (x3,({g3 with ls:=Q6 KK H.tb g3.ls}:Th)))[d]?=some w->cell v12 (Addr.add ⟨tb0,to0+3*t,none⟩ d)=some w:=λhd3 hv=>by
     obtain⟨b',o',ha',hc'⟩:=Ur (hr v12 e12) hx3 hg11 hd3 hv;rw[ha]at ha';cases ha';rw[add_lit,zCF];exact hc'
    refine⟨⟨hcell (d:=1) O rfl,hcell (d:=0) O rfl⟩,nilP (ab v12 s' _ _ e12 (λb i=>i.imp id id) hB12 ha λv13 e13 h13=>?_)⟩;have e13':=(e12.sub hG).trans (e13.sub hD);have K13:=K11.toX e13' h13 λb i z=>by
     rcases z with z|z
     ·exact .inl z.1
     ·rcases z.1 with h1|h1|h1
      ·exact .inl (hG b h1)
      ·have:=hQ b h1;exact .inr (.inr ⟨.inr O,λhB=>by have:=(K10.b b hB).2;omega⟩)
      ·exact .inr (.inl h1)
    have hbw13:=K11.keepB e13' hbw11 (.inl (.inr rfl));have K14:=K13;simp only[Hw.setLs,zBP]at K14;have hpe':=hpe;rw[zB hov]at hpe';rw[hpe']at hJ3;exact hJ3 v13 ⟨_,_,K14,hbw13⟩
  ·refine⟨λu=>u=v6,rfl,nilP ⟨some ⟨x.c.p,0,none⟩,λu U=>by cases U;exact K6.h.tc E hg ha (d:=0) O rfl,⟨(k:Int),λu U=>by cases U;rw[add_lit,b6.cell];rfl,⟨y,λu U=>by cases U;rw[add_lit,b6.cell];rfl,?_⟩⟩⟩⟩;refine Wnw K6.h E hg hc hl y λv7 ts7 s ee Q W hQ hs7 h7=>?_;have K7:=K6.to W h7 λb _ i=>i.1;have b7:=K6.keepB W b6 (.inr rfl);have B:=K6.keepB W C (.inl (.inr rfl));have hsl:s.len=(putL c y l).1.length:=by have:=hs7.1;simp[Wv]at this;omega
   by_cases hemp:(putL c y l).1=[]
   ·rw[zB hemp]at hgg;rw[←hgg]at hJ2;exact ifDF (by rw[hsl,hemp];simp) (hJ2 v7 ⟨_,ts7,K7,B⟩)
   ·rw[zA hemp]at hgg;have hpos:=zCG.2 hemp;have hz6:=K6.e.1;refine ifDT (by rw[hsl];omega) (b7.rI rfl ?_);refine G8 K7.h (t:=t) (by simpa[Hw.setLs]using ht) k (RowR.slR hs7) (RowR.capO hs7) hemp (λb _ z E=>E.1.2 z) (K6.o.1.sub λb i=>by have:=hQ b i;omega) (λz=>K6.o.2 (by have:=hQ _ z;omega)) (λg' hg'=>?_) λv8 ts8 e8 h8=>?_
    ·have:(H.setLs t g (g.ls.set k (putL c y l).2)).ths[t]?=some {g with ls:=g.ls.set k (putL c y l).2}:=by simp[Hw.setLs,ht]
     rw[this]at hg';cases hg';simp only;omega
    ·have K8:=K7.toX e8 h8 λb i z=>by
      rcases z with z|z
      ·exact z.imp id .inl
      ·have:=hQ b z;exact .inr (.inr ⟨.inr O,λhB=>by have:=(K6.b b hB).2;omega⟩)
     have e9:QP (H.setLs t g (g.ls.set k (putL c y l).2)) t k (putL c y l).1 = {H with ths:=H.ths.set t g2}:=by
      rw[←hgg];unfold QP Hw.setT Hw.setLs;simp only;rw[K0 (t:={g with ls:=g.ls.set k (putL c y l).2}) (by simp[ht]),zBP]
     rw[e9]at K8;exact hJ2 v8 ⟨_,ts8,K8,K7.keepB e8 B (.inl (.inr rfl))⟩
 | back=>
  obtain⟨k,xs,r,hh,hxs,hxl⟩:∃k xs r,(H.thr t).hands=(k,xs)::r/\(∀x∈xs,I63 x/\0<=YJ H.ars x)/\xs.length<=1000000:=hp;rw[htg]at hh;refine nx1 aB (nx2 aB (nx2 aB (nx2 aB (nx0 aB (nx1 aB (nx1 aB (nx2 aB (ye0 (nw (cs:=[]) λv5 M V N=>?_)))))))));have K5:=K1.box V M;have hbv5:=V.blk i id;obtain⟨G,D,hG,hD,hd,aa,hr,ab⟩:=K5.h.stN (λb i=>(K5.p b i).2.2) E hg (λb=>v5.size<=b) (λb i _ z=>O) K5.h.newN.1 K5.h.newN.2;have hbl:=aa.len;have hbc:=aa.cap;rw[hh]at aa;obtain⟨so,ps,Dn,hrow,hso1,hcap,hBr,hDn,hj,S,hxne⟩:=aa.uncons;have hz5':=K5.e.1;refine nilP (ldS (K5.h.tc E hg ha (d:=1) O rfl) (WoB (RowO.slR hrow) λa ha0 ha1=>ldI ha0 (ldS ha1 ?_)));refine nw (cs:=[.int .i64 0,.slice none 0 0]) λv81 hz81 e81 hb81=>hb81.s1 aA λv82 o82 b82=>b82.s1 aA λv83 o83 b83=>?_;have e83:Ext0 v5 v83:=(e81.only o82 (.inr (zC _))).only o83 (.inr (zC _));have hz83:v5.size<v83.size:=b83.lt;have hcell:∀{u1:Hp},Ext G v5 u1->∀{d:Nat} {w:Value},d<3->(thV (x,g))[d]?=some w->cell u1 (Addr.add ⟨tb0,to0+3*t,none⟩ d)=some w:=λhe _ _ hd3 hv=>by
   obtain⟨b',o',ha',hc'⟩:=Ur (hr _ he) E hg hd3 hv;rw[ha]at ha';cases ha';rw[add_lit,zCF];exact hc'
  refine nilP (ldS (hcell (Ext0.to e83) (d:=1) (w:=.slice x.h.a x.h.len x.h.cap) O rfl) ?_);have hpos:1<=x.h.len:=by rw[hbl,hh];simp
  refine slc (lo:=1) hpos hbc (zC _) ?_;have hrow':=aH.keep0 (aH.cut (RowO.slR (hrow.from (lo:=1) hpos))) e83;have hdr:(btsV ((k,so)::ps)).drop (1*2)=btsV ps:=rfl;rw[hdr]at hrow';refine WoN hrow' aC λs' v84 hs'l e84 hs'=>?_;have hBt':BtR s' r v84 (λb=>Dn b/\¬InB so b/\b<v5.size\/v83.size<=b):=by
   refine⟨ps,λb=>Dn b/\¬InB so b/\b<v5.size,(RowO.loc _ _ _).mono hs'.o λb _ i=>⟨.inr i,λE=>O⟩,(BtO.loc _ _).keep0 ((BtO.loc _ _).keep0 ((BtO.loc _ _).mono ((BtO.loc _ _).cut hBr) λb _ i=>⟨i.1.1,i.1.2,i.2⟩) e83) e84,λb i=>.inl i,hj,S⟩
  have e584:Ext0 v5 v84:=e83.trans e84;refine nilP (ab v84 s' r _ (Ext0.to e584) (λb i=>i.elim (λi=>.inl (hDn b i.1)) λi=>.inr O) hBt' ha λv85 e85 h85=>?_);have hz84:=e84.1;have hz85:=e85.1;have e585:Ext _ v5 v85:=(Ext0.to e584).trans (e85.sub hD);have K85:=K5.to e585 h85 λb _ z=>by
   rcases z with z|z
   ·exact .inl z.1
   ·rcases z.1 with h1|h1
    ·exact .inl (hG b (hDn b h1.1))
    ·exact .inr O
  have hbv85:=K5.keepB e585 hbv5 (.inl (.inr rfl));have b85:Blk v85 v5.size _:=e85.blk (e84.blk b83 id) λE=>by have:=(K5.p _ (hD _ E)).2.2;omega
  have K85b:=K85.addB (B':=λb=>b=v5.size) λb i=>⟨O,O,λE=>by
   subst i;rcases E.1 with h1|h1
   ·have:=(K5.p _ h1.1).2.2;omega
   ·rcases h1.1 with h2|h2<;>omega⟩
  have hso5:=aH.keep (aH.keep0 (aH.cut hso1) e584) e85 λb _ i E=>hd b (hDn b i.1.1) E;have X:Wt H t .back=(HT {H with ths:=H.ths.set t {g with hands:=r}} (H.own t) k xs,retH (HT {H with ths:=H.ths.set t {g with hands:=r}} (H.own t) k xs) t,0,0):=by
   simp only[Wt,htg,hh,ZM hg]
  rw[X]at hR;refine⟨λu=>u=v85,rfl,⟨(k:Int),λu U=>by cases U;rw[add_lit,b85.cell];rfl,⟨so,λu U=>by cases U;rw[add_lit,b85.cell];rfl,?_⟩⟩⟩;refine Whm K85b.h t ⟨rfl,WlE K85b.h hol k hso5 (λb _ i E=>?_) hcap hxs hxl λv87 e87 h87=>?_⟩
  ·rcases E.1 with h1|h1
   ·exact h1.2 (hDn b i.1.1)
   ·rcases h1.1 with h2|h2
    ·exact h2.2.1 i.1.2
    ·have:=i.2;omega
  have K87:=K85b.to e87 h87 λb _ i=>i;have hbl7:(HT {H with ths:=H.ths.set t {g with hands:=r}} (H.own t) k xs).ths.length=H.ths.length:=by
   rw[WaB];simp
  refine V8 K87.h (t:=t) (by rw[hbl7];exact ht) ?_;exact ret2 (n:=σ.size) K87 (.inl (.inl (.inr rfl))) (K85b.keepB e87 hbv85 (.inl (.inl (.inr rfl)))) λZ K'=>hR Z _ K'.e (K'.fin h)
 | give s a=>
  obtain⟨ha0,hal,hru⟩:0<=a/\a.toNat<H.ars.length/\∀A∈H.ars,∀r∈A.runs,r.1<=1000000:=hp;obtain⟨A2,hA2⟩:∃A,H.ars[a.toNat]?=some A:=⟨_,gGe hal⟩;have hae:a=((a.toNat:Nat):Int):=by omega
  refine nx1 aB (nx2 aB (nx2 aB (nx2 aB (nx0 aB (nx1 aB (nx1 aB (nx2 aB (nx0 aB (ye2 (nw (cs:=[.int .i64 0,.int .i64 0]) λv5 M V N=>?_))))))))));have K5:=K1.box V M;refine N.s1 aA λv5b o5 b5=>b5.s1 aA λv6 o6 b6=>?_;have K6:=(K5.own o5 (.inr rfl)).own o6 (.inr rfl);have S:σ.size≠v.size:=by omega
  have C:=Ws o6 (Ws o5 (V.blk i id) S) S;obtain⟨Y2,hY2,_,_⟩:=K6.h.ar hA2;refine nilP (K6.h.hd.rS rfl (b6.rI (x:=((a.toNat:Nat):Int)) (by rw[←hae];rfl) (K6.h.rA hY2 (b6.rI rfl ?_))));refine Wcj K6.h hA2 hY2 s (hru A2 (zE hA2)) λv7 W h7=>?_;have K7:=K6.to W h7 λb _ i=>i;have B:=K6.keepB W C (.inl (.inr rfl));have X:Wt H t (.give s a)=(H.setA a.toNat (QH A2 s),none,0,0):=by
   simp only[Wt,hA2]
  refine hJ v7 ⟨_,L.ts,⟨?_,K7.e,λb i=>⟨(K7.p b i).1,λE=>(K7.p b i).2.1 (.inl E),(K7.p b i).2.2⟩,λb i=>K7.b b (.inl i),K7.o⟩,B,by rw[X]⟩;rw[X];exact K7.h
 | drain=>
  refine nx1 aB (nx2 aB (nx2 aB (nx2 aB (nx0 aB (nx1 aB (nx1 aB (nx2 aB (nx0 aB (nx2 aB (ye0 (nw (cs:=[]) λv5 M V N=>?_)))))))))));have K5:=K1.box V M;have hbv5:=V.blk i id;refine nilP (ldP (K5.h.tc E hg ha (d:=0) O rfl) ?_);refine WiL hso K5.h E hg λv7 s Q W hQ hB h7=>?_;have K7:=K5.to W h7 λb _ i=>i.1;have B:=K5.keepB W hbv5 (.inl (.inr rfl));have hz0:=K5.e.1;have hg7:(H.setLs t g (Q6 ZX H.tb g.ls)).ths[t]?=some {g with ls:=Q6 ZX H.tb g.ls}:=by simp[Hw.setLs,ht]
  obtain⟨G,D,hG,hD,hd,aa,hr,ab⟩:=K7.h.stN (λb i=>i.2) E hg7 Q (λb _ i z=>i.1.2 z) (K5.o.1.sub λb i=>by have:=hQ b i;omega) (λz=>K5.o.2 (by have:=hQ _ z;omega));refine nilP (ab v7 s _ Q (Ext.refl _ _) (λb i=>.inr i) hB ha λv8 e8 h8=>?_);have e8':=e8.sub hD;have K8:=K7.toX e8' h8 λb _ z=>by
   rcases z with z|z
   ·exact .inl z.1
   ·have:=hQ b z.1;exact .inr (.inr ⟨.inr O,λhB=>by have:=(K5.b b hB).2;omega⟩)
  have hbv8:=K7.keepB e8' B (.inl (.inr rfl));have X:Wt H t .drain=({H with ths:=H.ths.set t {g with ls:=Q6 ZX H.tb g.ls,hands:=Ka ZX H.tb g.ls}},retH {H with ths:=H.ths.set t {g with ls:=Q6 ZX H.tb g.ls,hands:=Ka ZX H.tb g.ls}} t,0,0):=by
   simp only[Wt,ZM hg]
  have K9:=K8;simp only[Hw.setLs,zBP]at K9;rw[X]at hR;refine V8 K9.h (t:=t) (by simpa using ht) ?_;exact ret2 (n:=σ.size) K9 (.inl (.inr rfl)) hbv8 λZ K'=>hR Z _ K'.e (K'.fin h)
def setPh (H:Hw)(t:Nat)(p:Option Ph):Hw:=H.setT t λh=>{h with ph:=p}
theorem Vr (H:Hw)(t:Nat)(f:Th->Th):(H.setT t f).ths.length=H.ths.length:=by simp[Hw.setT]
theorem Wlq (H:Hw)(t k:Nat)(x:Int):(putH H t k x).ths.length=H.ths.length:=by
 unfold putH;simp only;split<;>split<;>simp[Vr,QP]
theorem Wdn (H:Hw)(t:Nat)(p:Ph):(Wt H t p).1.ths.length=H.ths.length:=by
 cases p with
 | take k=>simp only[Wt];split<;>simp[VF,Vr]
 | transfer k w=>
  simp only[Wt];split
  ·split<;>simp[QP,Vr,Hw.setA]
  ·rfl
 | central k w=>simp only[Wt];split<;>simp[QP,Vr,Hw.setA]
 | grow k w=>simp only[Wt];split<;>simp[Hw.setA]
 | fill=>simp only[Wt];split<;>simp[VF,Vr]
 | large m=>simp only[Wt];split<;>simp[VF,Hw.setA]
 | find x=>
  simp only[Wt,UZ];split
  ·rfl
  ·split<;>simp[QP,Vr]
 | put k x=>exact Wlq H t k x
 | back=>simp only[Wt];split<;>simp[WaB,Vr]
 | give s a=>simp only[Wt];split<;>simp[Hw.setA]
 | drain=>simp[Wt,Vr]
def Wb2 (H:Hw)(t:Nat)(p:Ph):Prop:=WgX H t p/\∀g,H.ths[t]?=some g->g.hands.length<=900
def QO (H:Hw)(t:Nat)(p:Ph):Hw:=setPh (Wt H t p).1 t (Wt H t p).2.1
theorem WjV (hso:HP)(h:HH σ F L H)(hg:H.ths[t]?=some g){p:Ph}(hp:g.ph=some p)(hok:Wb2 H t p){R:Bool->Int->Int->Int->Hp->Prop}
 (hR:∀σ' ts',Ext F σ σ'->HH σ' (Grow F σ) {L with ts:=ts'} (QO H t p)->R (Wt H t p).2.1.isNone (Wt H t p).2.2.1 (Wt H t p).2.2.2 0 σ'):Zb.c (aW L.p) (t:Int) σ R:=by
 refine Zb.o ?_;unfold Zb.v;have G:=(gSi.1 hg).1;refine nw (cs:=[.int .i64 0,.int .i64 0]) λv Y e A=>?_;have K1:=(HK.start h).box e Y;obtain⟨x,g',Q,r⟩:=h.th G;rw[hg]at r;cases r;refine Kz K1.h (ifF rfl (Wc5 K1.h (t:Int) (ifF (by rw[zU O];rfl) ?_)));refine nilP (K1.h.hd.rS rfl (K1.h.tR Q hg ?_));rw[hp];refine⟨Wc7 _,ifF (by rw[WcK];rfl) (nilP (K1.h.hd.rS rfl (K1.h.tR Q hg ?_)))⟩;rw[hp];refine WkX hso K1.h G p hok.1 hok.2 λv9 C P h9=>?_;have K9:=K1.to P h9 λb _ A=>A;have s:=K1.keepB P A (.inr rfl);refine nw (cs:=[.int .i64 0,.int .i64 0]) λX w z y=>?_;have K10:=K9.box z w;refine y.s1 aA λV m E=>E.s1 aA λW B J=>?_;have K12:=(K10.own m (.inr rfl)).own B (.inr rfl);have j:σ.size≠v9.size:=by have:=(K9.b σ.size (.inr rfl)).2;omega
 have d:=Ws B (Ws m (z.blk s id) j) j;have K:t<(Wt H t p).1.ths.length:=by rw[Wdn];exact G
 obtain⟨x9,Z,M,u⟩:=K12.h.th K;have N:QO H t p = {(Wt H t p).1 with ths:=(Wt H t p).1.ths.set t {Z with ph:=(Wt H t p).2.1}}:=ZM u _;refine nilP (K12.h.hd.rS rfl (K12.h.stepP M u (Wt H t p).2.1 λU i D=>?_));have K13:=K12.to i D λb _ A=>.inl A;have a:=K12.keepB i J (.inr rfl);rw[←N]at K13;refine⟨Wc7 _,a.rI rfl (a.rI rfl ?_)⟩;refine ret2 (n:=σ.size) K13 (.inl (.inr rfl)) (K12.keepB i d (.inl (.inr rfl))) λS K'=>?_;rw[WcK];exact hR S C K'.e (K'.fin h)
theorem Wl7 {p:Nat->Prop}(h:∃n,p n):∃n,p n/\∀m,p m->n<=m:=by
 obtain⟨n,d⟩:=h
 induction n using Nat.strongRecOn with
 | _ n ih=>
  by_cases hm:∃m,m<n/\p m
  ·obtain⟨m,b,a⟩:=hm;exact ih m b a
  ·exact⟨n,d,λm a=>Nat.le_of_not_lt λb=>hm ⟨m,b,a⟩⟩
theorem Wn8 {start:Fam []->Prop}{round:Fam []->Fam []}(Inv:Nat->Hp->Prop)(h0:start λh=>∃n,Inv n h)(hr:∀n h,Inv n h->∀J:Hp->Prop,(∀m h',m<n->Inv m h'->J h')->round J h):W7 [] start round:=by
 classical
 refine WoS (λh=>∃n,Inv n h) (λh=>if hx:∃n,Inv n h then(Wl7 hx).choose else 0) h0 λh d=>?_
 have g:=(Wl7 d).choose_spec;refine hr _ h g.1 _ λm h' e b=>⟨⟨m,b⟩,?_⟩;have a:∃n,Inv n h':=⟨m,b⟩;rw[dif_pos a,dif_pos d];exact Nat.lt_of_le_of_lt ((Wl7 a).choose_spec.2 m b) e
inductive RunN:Nat->Hw->Nat->Ph->Hw->Int->Int->Prop
 | done {H:Hw} {t:Nat} {p:Ph}:Wb2 H t p->(Wt H t p).2.1=none->RunN 1 H t p (QO H t p) (Wt H t p).2.2.1 (Wt H t p).2.2.2
 | next {n:Nat} {H:Hw} {t:Nat} {p p':Ph} {H':Hw} {a e:Int}:Wb2 H t p->(Wt H t p).2.1=some p'->RunN n (QO H t p) t p' H' a e->RunN (n+1) H t p H' a e
theorem Wfl {p:Ph}(ht:t<H.ths.length):∃g,(QO H t p).ths[t]?=some g/\g.ph=(Wt H t p).2.1:=by
 have a:t<(Wt H t p).1.ths.length:=by rw[Wdn];exact ht
 exact⟨{(Wt H t p).1.ths[t]with ph:=(Wt H t p).2.1},by simp[QO,setPh,Hw.setT,zDB,gGe a],rfl⟩
end Go.Ar
namespace Go.Ar
open Go Go.Vc Go.Proofs
open Go.Bu (isPow)
variable {σ:Hp}{F:Rg}
def KG (size align:Int):Bool:=decide (1<=size)&&(decide (1<=align)&&(decide (align<=256)&&isPow align))
def clsV (tb:List Cls)(size align:Int):Option Nat:=tb.findIdx? λc=>decide (size<=(c.size:Int))&&((c.size:Int)%align==0)
theorem Wj8 (n:Int)(h1:1<=n)(h2:n<=256){R:aN}(hR:∀p:Int,(p != n) = !isPow n->R p σ):Qd.c n σ R:=by
 refine Qd.o ?_;unfold Qd.v;refine Km (a:=bN) (bb:=bN) (λ(p q:Int) w=>w=σ/\(p=0/\q=1\/∃k:Nat,k<=8/\p=((2^k:Nat):Int)/\q=((2^(k+1):Nat):Int)/\p<=n)) (λp q _=>1000-q.toNat) ⟨rfl,.inl ⟨rfl,rfl⟩⟩ ?_;rintro(p:Int) (q:Int) w ⟨rfl,hpq⟩;refine ifD (λb=>?_) λg=>?_
 ·rcases hpq with⟨rfl,rfl⟩|⟨k,hk,rfl,rfl,hp⟩
  ·exact arN (m:=2) O O ⟨⟨rfl,.inr ⟨0,O,by simp,by simp,O⟩⟩,by simp⟩
  ·have r:k<=7:=by
    apply Classical.byContradiction;intro hc;have:2^9<=2^(k+1):=zBQ aB O;omega
   have s:=zAG (k+1);exact arN (m:=2^(k+1+1)) (by rw[zAW 2 (k+1)];omega) (by rw[zAW 2 (k+1)];omega) ⟨⟨rfl,.inr ⟨k+1,O,rfl,rfl,b⟩⟩,by rw[zAW 2 (k+1)];omega⟩
 ·rcases hpq with⟨rfl,rfl⟩|⟨k,hk,rfl,rfl,hp⟩
  ·omega
  ·refine hR _ ?_;by_cases e:((2^k:Nat):Int)=n
   ·have:isPow n=true:=by
     unfold isPow;rw[zy];exact⟨k,zV.2 O,by simp[←e]⟩
    rw[this,e];simp
   ·have:isPow n=false:=by
     unfold isPow;rw[zAY];intro j hj he;have d:n=((2^j:Nat):Int):=by simpa using he
     rcases zCA j k with h3|h3|h3
     ·have:2^(j+1)<=2^k:=zBQ aB h3;rw[zAW]at this;have:=zAG j;omega
     ·subst h3;exact e d.symm
     ·have:2^(k+1)<=2^j:=zBQ aB h3;omega
    rw[this];simpa using e
theorem WfB {s:Sl}{xs:List (Int×Int×Int)}(ha:Acts σ s xs)(hv:Qi xs=true)(size align:Int){R:Int->Int->Hp->Prop}
 (hR:∀σ',Ext0 σ σ'->R (if KG size align then((clsV (xs.map ZV) size align).getD 0:Nat)else 0) (if KG size align then(if(clsV (xs.map ZV) size align).isSome then 0 else 4)else 1) σ'):Z0.c s size align σ R:=by
 refine Z0.o ?_;unfold Z0.v;refine nw (cs:=[.int .i64 size]) λv hz e hb=>nw (cs:=[.int .i64 align]) λv1 hz1 B S=>?_;have Z:=B.blk hb id;refine Ho (YN ha (e.trans B)) λg Y=>?_;rw[hv];have F:=Y.blk Z id;have y:=Y.blk S id;have u:=(e.trans B).trans Y;refine ifF rfl ?_;have key:∀r,r = !KG size align->(If r (R 0 1 g) (Wl.c s ⟨80,#[],#[.pointer (some ⟨σ.size,0,none⟩),.pointer (some ⟨v.size,0,none⟩)]⟩ g λk v4=>If (decide (k<0)) (R 0 4 v4) (R k 0 v4))):=by
  intro r b;cases hok:KG size align with
  | false=>
   rw[hok]at b;have:=hR g u;rw[hok]at this;exact ifT (by rw[b];rfl) this
  | true=>
   rw[hok]at b;refine ifF (by rw[b];rfl) ?_;have G:=hok;simp only[KG,zF,zS]at G;refine Wl.o ?_;unfold Wl.v;have hlen:=ha.1;have hxl:=((Qr xs).1 hv).2.1;refine ZT (a:=bN) (λ(z:Int) w=>∃i:Nat,z=(i:Int)/\i<=xs.length/\Ext0 g w/\∀j c,j<i->(xs.map ZV)[j]?=some c->(decide (size<=(c.size:Int))&&((c.size:Int)%align==0))=false) (λz _=>xs.length-z.toNat) ⟨0,rfl,O,Ext.refl _ _,λj c h=>O⟩ ?_;rintro(z:Int) w ⟨i,rfl,hi,ew,hno⟩;refine ifD (λhlt=>?_) λW=>?_
   ·have N:i<xs.length:=by omega
    have C:(xs.map ZV)[i]?=some (ZV xs[i]):=by simp[N]
    generalize ZV xs[i]=c at C;have M:=YN ha (u.trans ew);obtain⟨hx,hcok⟩:=UL M hv C;refine U8 M hx ?_;refine Gh (all := #[.agg #[.int .i64 (c.size:Int),.int .i64 (c.pages:Int),.int .i64 (c.batch:Int)],.pointer (some ⟨σ.size,0,none⟩),.pointer (some ⟨v.size,0,none⟩)]) (by kernel_rfl) aA ?_;refine ZY.o ?_;unfold ZY.v;refine nw (cs:=[.int .i64 (c.size:Int),.int .i64 (c.pages:Int),.int .i64 (c.batch:Int)]) λD hz1 B H=>?_;have X:=B.blk (ew.blk F id) id;have Q:=B.blk (ew.blk y id) id;have E:=ew.trans B;have go:∀r,r=(decide (size<=(c.size:Int))&&((c.size:Int)%align==0))->If r (If (decide ((i:Int)<0)) (R 0 4 D) (R (i:Int) 0 D)) (Ar .i64 ((i:Int)+1) λL=>(∃i:Nat,L=(i:Int)/\i<=xs.length/\Ext0 g D/\∀j c,j<i->(xs.map ZV)[j]?=some c->(decide (size<=(c.size:Int))&&((c.size:Int)%align==0))=false)/\xs.length-L.toNat<xs.length-(i:Int).toNat):=by
     intro r b;refine iff_ (λh1=>ifDF O ?_) λh0=>?_
     ·have hf:clsV (xs.map ZV) size align=some i:=by
       obtain⟨P,rfl⟩:=gSi.1 C;exact zBH.2 ⟨P,by rw[←b];exact h1,λj K=>by rw[hno j _ K (gGe O)];simp⟩
      have:=hR D (u.trans E);rw[hok,hf]at this;exact this
     ·exact arN (m:=i+1) O O ⟨⟨i+1,rfl,O,E,λj d K hd=>by
       by_cases e:j=i
       ·subst e;rw[C]at hd;cases hd;rw[←b];exact h0
       ·exact hno j d O hd⟩,O⟩
    refine H.rI rfl (X.rI0 rfl ?_);refine UW (λr w=>w=D/\r=(decide (size<=(c.size:Int))&&((c.size:Int)%align==0))) (λr w ⟨U,b⟩=>by subst U;exact go r b) λJ A=>?_;refine ifD (λW=>H.rI rfl (Q.rI0 rfl (nz O (A _ _ ⟨rfl,?_⟩)))) λhlt2=>A _ _ ⟨rfl,?_⟩
    ·rw[Q8 O,zU (by omega:size<=(c.size:Int)),zEI]
    ·rw[zi O,zDI]
   ·have hf:clsV (xs.map ZV) size align=none:=by
     unfold clsV;rw[zDT];intro c C;obtain⟨j,K⟩:=zN C;have:=(gSi.1 K).1;simp at this;exact hno j c O K
    have:=hR w (u.trans ew);rw[hok,hf]at this;exact ifDT aB this
 refine WmT (λr w=>w=g/\r = !KG size align) (λr w ⟨U,b⟩=>by subst U;exact key r b) λJ A=>?_;have aa:∀m,m=g->cell m ⟨σ.size,0,none⟩=some (.int .i64 size):=λm V=>by rw[V,F.cell];rfl
 have x:∀m,m=g->cell m ⟨v.size,0,none⟩=some (.int .i64 align):=λm V=>by rw[V,y.cell];rfl
 refine⟨λm=>m=g,rfl,⟨size,aa,?_⟩⟩;refine ifD (λh1=>A _ _ ⟨rfl,?_⟩) λh1=>⟨align,x,ifD (λh2=>A _ _ ⟨rfl,?_⟩) λh2=>⟨align,x,ifD (λh3=>A _ _ ⟨rfl,?_⟩) λh3=>⟨align,x,⟨align,x,?_⟩⟩⟩⟩
 ·simp only[KG,zi (by omega:¬1<=size),zDI,zFJ]
 ·simp only[KG,zi (by omega:¬1<=align),zDI,zCW,zFJ]
 ·simp only[KG,zi (by omega:¬align<=256),zDI,zCW,zFJ]
 ·refine Wj8 align O O λp hp=>⟨rfl,A _ _ ⟨rfl,?_⟩⟩;rw[hp];simp only[KG,zU (by omega:1<=size),zU (by omega:1<=align),zU (by omega:align<=256),zEI]
end Go.Ar
namespace Go.Ar
open Go Go.Vc Go.Proofs
variable {σ u u':Hp}{F B P Q:Rg}{L:LayH}{H H':Hw}{t k n pb:Nat}{A:AR}{Y:Lay}{x:LayT}{g:Th}{c:Cls}{l:Li}{cs:List Value}
def clsT (c:Cls):Int×Int×Int:=((c.size:Int),(c.pages:Int),(c.batch:Int))
theorem Wj9 (tb:List Cls):(tb.map clsT).map ZV=tb:=by
 rw[zt]
 conv=>rhs;rw[←zEK tb]
 apply zAH;intro c _;rfl
theorem Waf {s:Sl}{tb:List Cls}(h:SlR s 3 (tabV tb) σ F):Acts σ s (tb.map clsT):=by
 have w:=h.1;rw[KE]at w;refine⟨by simp;omega,λi x y z j=>?_⟩;rw[ze,zCJ]at j;obtain⟨c,r,e⟩:=j;obtain⟨p,m,u⟩:=HN r;simp only[clsT,Prod.mk.injEq]at e;obtain⟨rfl,rfl,rfl⟩:=e;obtain⟨b,o,d,g⟩:=h.cell p;obtain⟨D,C,a,B⟩:=h.cell m;rw[d]at a;cases a;obtain⟨D,C,a,A⟩:=h.cell u;rw[d]at a;cases a;exact⟨b,o,d,QV g,by rw[show o+i*3=o+3*i by omega];exact g,by rw[show o+i*3+1=o+(3*i+1) by omega];exact B,by rw[show o+i*3+2=o+(3*i+2) by omega];exact A⟩
def TbOk (tb:List Cls):Prop:=Qi (tb.map clsT)=true
def reqH (tb:List Cls)(kind size align addr:Int):Option Ph:=
 if kind=0 then(if 1<=size/\size<=16384 then(if KG size align then(match clsV tb size align with
  | some k=>some (.take k)
  | none=>some (.large ((size+255).toNat/256)))else none)else none)
 else if kind=1 then some (.find addr)else if kind=2 then some .drain else none
theorem WeJ (h:HH σ F L H)(hv:TbOk H.tb)(kind size align addr:Int){R:Value->Hp->Prop}(hR:∀σ',Ext0 σ σ'->R (phV (reqH H.tb kind size align addr)) σ'):YC.c (aW L.p) kind size align addr σ R:=by
 refine YC.o ?_;unfold YC.v;refine nw (cs:=[.int .i64 kind,.int .i64 size,.int .i64 align,.int .i64 addr]) λv N e s=>s.rI rfl ?_;have D:=h.keep0 e;have a:=hR v e;refine iff_ (λz=>?_) λz=>?_
 ·have i:kind=0:=by simpa using z
  have E:reqH H.tb kind size align addr=(if 1<=size/\size<=16384 then(if KG size align then(match clsV H.tb size align with
   | some k=>some (.take k)
   | none=>some (.large ((size+255).toNat/256)))else none)else none):=by unfold reqH;rw[zB i]
  rw[E]at hR a;refine s.rI rfl (UW (λr w=>w=v/\r = !decide (1<=size/\size<=16384)) (λr w ⟨K,y⟩=>?_) λJ B=>?_)
  ·subst K;by_cases hs:1<=size/\size<=16384
   ·rw[zB hs]at hR;rw[zU hs]at y;refine ifF (by rw[y];rfl) ⟨λm=>m=w,rfl,nilP ⟨L.tab,λm x=>by rw[x,add_lit,D.hd.cell];rfl,⟨size,λm x=>by rw[x,add_lit,s.cell];rfl,⟨align,λm x=>by rw[x,add_lit,s.cell];rfl,?_⟩⟩⟩⟩;refine WfB (Waf D.tabS) hv size align λG C=>?_;rw[Wj9];have A:=C.blk s id;have b:=hR G (e.trans C);cases hok:KG size align with
    | false=>
     rw[hok]at b;exact ifF rfl (ifF rfl b)
    | true=>
     rw[hok]at b;simp only[zT]at b ⊢;cases hcl:clsV H.tb size align with
     | some k=>rw[hcl]at b;exact ifT rfl b
     | none=>
      rw[hcl]at b;refine ifF rfl (ifT rfl (A.rI rfl (ar O O (ar O O (nz aB (ar (by rw[YL O];omega) (by rw[YL O];omega) ?_))))));rw[YL O];have:(size+256-1)/256=(((size+255).toNat/256:Nat):Int):=by omega
      rw[this];exact b
   ·rw[zA hs]at a;rw[zi hs]at y;exact ifT (by rw[y];rfl) a
  ·refine ifD (λM=>B _ _ ⟨rfl,?_⟩) λM=>s.rI rfl (B _ _ ⟨rfl,?_⟩)
   ·rw[zi O];rfl
   ·by_cases h2:size>16384
    ·rw[zU h2,zi O];rfl
    ·rw[zi h2,zU O];rfl
 ·have i:kind≠0:=by simpa using z
  refine iff_ (λu=>s.rI rfl ?_) λu=>?_
  ·have d:kind=1:=by simpa using u
   unfold reqH at a;rw[zA i,zB d]at a;exact a
  ·have d:kind≠1:=by simpa using u
   refine iff_ (λj=>?_) λj=>?_
   ·have g:kind=2:=by simpa using j
    unfold reqH at a;rw[zA i,zA d,zB g]at a;exact a
   ·have g:kind≠2:=by simpa using j
    unfold reqH at a;rw[zA i,zA d,zA g]at a;exact a
def KH (H:Hw)(thread kind size align addr:Int):Int ⊕ (Nat×Ph):=
 if 0<=thread/\thread<(H.ths.length:Int)then(match H.ths[thread.toNat]? with
  | some g=>(if g.ph=none then(match reqH H.tb kind size align addr with
   | some p=>.inr (thread.toNat,p)
   | none=>.inl 1)else .inl 5)
  | none=>.inl 1)else .inl 1
theorem WjI (h:HH σ F L H)(hv:TbOk H.tb)(thread kind size align addr:Int){R:aN}(h0:∀e,KH H thread kind size align addr=.inl e->e≠0->∀σ',Ext F σ σ'->HH σ' (Grow F σ) L H->R e σ')
 (h1:∀t p,KH H thread kind size align addr=.inr (t,p)->thread=(t:Int)->t<H.ths.length->∀σ',Ext F σ σ'->HH σ' (Grow F σ) L (setPh H t (some p))->R 0 σ'):Yb.c (aW L.p) thread kind size align addr σ R:=by
 refine Yb.o ?_;unfold Yb.v;refine nw (cs:=[.int .i64 kind,.int .i64 size,.int .i64 align,.int .i64 addr]) λv u e d=>?_;have K1:=(HK.start h).box e u;refine Kz K1.h (ifF rfl (Wc5 K1.h thread ?_));by_cases hth:0<=thread/\thread<(H.ths.length:Int)
 ·obtain⟨t,rfl⟩:∃t:Nat,thread=(t:Int):=⟨thread.toNat,O⟩;have j:t<H.ths.length:=by omega
  obtain⟨x,g,m,i⟩:=h.th j;have a:KH H (t:Int) kind size align addr=(if g.ph=none then(match reqH H.tb kind size align addr with
   | some p=>.inr (t,p)
   | none=>.inl 1)else .inl 5):=by
   unfold KH;rw[zB hth,iTn,i]
  refine ifF (by rw[zU hth];rfl) (nilP (K1.h.hd.rS rfl (K1.h.tR m i ⟨Wc7 _,?_⟩)));cases hp:g.ph with
  | some p=>
   rw[hp,zA aA]at a;exact ifT (by rw[WcK];rfl) (h0 5 a aB v K1.e (K1.fin h))
  | none=>
   rw[hp,zB rfl]at a;refine ifF rfl (d.rI rfl (d.rI rfl (d.rI rfl (d.rI rfl (WeJ K1.h hv kind size align addr λv3 z=>⟨Wc7 _,?_⟩)))));have K3:=K1.fr z;rw[WcK];cases hq:reqH H.tb kind size align addr with
   | none=>
    rw[hq]at a;exact ifT rfl (h0 1 a aB v3 K3.e (K3.fin h))
   | some p=>
    rw[hq]at a;refine ifF rfl (nilP (K3.h.hd.rS rfl (K3.h.stepP m i (some p) λy s w=>?_)));have K4:=K3.to s w λb _ d=>.inl d;have r:setPh H t (some p) = {H with ths:=H.ths.set t {g with ph:=some p}}:=ZM i _;rw[←r]at K4;exact h1 t p a rfl j y K4.e (K4.fin h)
 ·have a:KH H thread kind size align addr=.inl 1:=by unfold KH;rw[zA hth]
  exact ifT (by rw[zi hth];rfl) (h0 1 a aB v K1.e (K1.fin h))
theorem WjR {p:Option Ph}(ht:t<H.ths.length):∃g,(setPh H t p).ths[t]?=some g/\g.ph=p:=
 ⟨{H.ths[t]with ph:=p},by simp[setPh,Hw.setT,zDB,gGe ht],rfl⟩
theorem WdS (hso:HP)(h:HH σ F L H)(hv:TbOk H.tb)(thread kind size align addr:Int){R:Int->Int->Hp->Prop}(h0:∀e,KH H thread kind size align addr=.inl e->e≠0->∀σ',Ext F σ σ'->HH σ' (Grow F σ) L H->R 0 e σ')
 (h1:∀t p,KH H thread kind size align addr=.inr (t,p)->∃n H' a e,RunN n (setPh H t (some p)) t p H' a e/\∀σ' ts',Ext F σ σ'->HH σ' (Grow F σ) {L with ts:=ts'} H'->R a e σ'):XQ.c (aW L.p) thread kind size align addr σ R:=by
 refine XQ.o ?_;unfold XQ.v;refine nw (cs:=[.int .i64 kind,.int .i64 size,.int .i64 align,.int .i64 addr]) λv hz e i=>i.rI rfl (i.rI rfl (i.rI rfl (i.rI rfl ?_)));have K1:=(HK.start h).box e hz;refine WjI K1.h hv thread kind size align addr (λz he x v1 Y u=>?_) λt p ag Z ht v1 Y u=>?_
 ·have K2:=K1.to Y u λb _ i=>i;exact ifT (by simpa using x) (h0 z he x v1 K2.e (K2.fin h))
 ·subst Z;have K2:=K1.to Y u λb _ i=>i;obtain⟨n,Hf,a,z,d,A⟩:=h1 t p ag;refine ifF rfl (Wn8 (λn w=>∃(B P:Rg) (ts:List LayT) (H:Hw) (p:Ph),HK F σ B w P {L with ts:=ts} H/\(∃g,H.ths[t]?=some g/\g.ph=some p)/\RunN n H t p Hf a z) ⟨n,_,_,L.ts,_,p,K2,WjR ht,d⟩ ?_);rintro n w ⟨B,P,ts,H2,j,K,⟨g,hg,V⟩,d⟩ J hJ;have go:Wb2 H2 t j->((Wt H2 t j).2.1.isNone=true->(Wt H2 t j).2.2.1=a/\(Wt H2 t j).2.2.2=z/\QO H2 t j=Hf)->((Wt H2 t j).2.1.isNone=false->∃m M,m<n/\(Wt H2 t j).2.1=some M/\RunN m (QO H2 t j) t M Hf a z)->Zb.c (aW L.p) (t:Int) w λU E C ah v3=>Nw (.cells #[.int .i64 0,.int .i64 0] 156 (0,0)) v3 λr v4=>St1 (r.add 0) (.int .i64 E) v4 λv5=>St1 (r.add 1) (.int .i64 C) v5 λs=>If U (LdI .i64 (r.add 0) s λQ=>LdI .i64 (r.add 1) s λad=>R Q ad s) (J s):=by
   intro hok hd hn;refine WjV hso K.h hg V hok λv3 D e3 af=>?_;have K3:=K.to e3 af λb _ i=>i;refine nw (cs:=[.int .i64 0,.int .i64 0]) λv4 X e4 ae=>?_;have K4:=K3.box e4 X;refine ae.s1 aA λv5 o5 b5=>b5.s1 aA λs o6 b6=>?_;have K6:=(K4.own o5 (.inr rfl)).own o6 (.inr rfl);refine iff_ (λW=>?_) λac=>?_
   ·obtain⟨q1,q2,q3⟩:=hd W;rw[q3]at K6;refine b6.rI rfl (b6.rI rfl ?_);rw[q1,q2];exact A s D K6.e (K6.fin h)
   ·obtain⟨m,M,hm,ab,N⟩:=hn ac;have S:t<H2.ths.length:=(gSi.1 hg).1;obtain⟨g',aa,y⟩:=Wfl (p:=j) S;exact hJ m s hm ⟨_,_,D,_,M,K6,⟨g',aa,by rw[y,ab]⟩,N⟩
  cases d with
  | done hok hnone=>exact go hok (λ_=>⟨rfl,rfl,rfl⟩) λG=>by rw[hnone]at G;cases G
  | next hok hsome hrun'=>exact go hok (λG=>by rw[hsome]at G;cases G) λ_=>⟨_,_,Nat.lt_succ_self _,hsome,hrun'⟩
end Go.Ar
namespace Go.Ar
open Go Go.Vc Go.Proofs
variable {σ u w w':Hp}{F B P Q:Rg}{n:Nat}{cs:List Value}{tb:List Cls}{cf:Cf}
def Ue (tb:List Cls)(cf:Cf):Hw:=⟨tb,cf,Vp cf.pages,List.replicate cf.arenas (newA cf.pages cf.room tb),List.replicate cf.threads ⟨List.replicate tb.length liN,[],none⟩,[]⟩
def WdV (p a t b r:Int):Bool:=decide (32<=p)&&decide (p<=1024)&&(p%16==0)&&decide (1<=a)&&decide (a<=4)&&decide (1<=t)&&decide (t<=4)&&decide (0<=b)&&decide (b<=65536)&&decide (0<=r)&&decide (r<=8)
theorem lvl {K:aO}{r:Bool}{a:Addr}{x:Int}{k:IntKind}{f:Int->Bool}(hl:∀{K':Int->Prop},K' x->LdI k a w K')(h:K (r&&f x) w):JnB K λJ=>If r (LdI k a w λt=>J (f t) w) (J false w):=
 JnB.intro (iff_ (λb=>hl (by rw[b]at h;exact h)) λb=>by rw[b]at h;exact h)
theorem WiA (p a t b r:Int){R:aO}(hR:∀σ',Ext0 σ σ'->R (WdV p a t b r) σ'):QA.c p a t b r σ R:=by
 refine QA.o ?_;unfold QA.v;refine nw (cs:=[.int .i64 p,.int .i64 a,.int .i64 t,.int .i64 b,.int .i64 r]) λv A e g=>g.rI rfl ?_;have i:=hR v e;unfold WdV at i;refine UW (λm w=>w=v/\m=(decide (32<=p)&&decide (p<=1024))) (λm w ⟨x,u⟩=>?_) λJ j=>?_
 ·subst x;subst u;refine UW (λm y=>y=w/\m=(decide (32<=p)&&decide (p<=1024)&&(p%16==0))) (λm y ⟨x,u⟩=>?_) λJ j=>?_
  ·rw[x];subst u;exact lvl (λd=>g.rI rfl d) (lvl (λd=>g.rI rfl d) (lvl (λd=>g.rI rfl d) (lvl (λd=>g.rI rfl d) (lvl (λd=>g.rI rfl d) (lvl (λd=>g.rI rfl d) (lvl (λd=>g.rI rfl d) (lvl (λd=>g.rI rfl d) i)))))))
  ·refine iff_ (λs=>g.rI rfl (nz aB (j _ _ ⟨rfl,?_⟩))) λz=>j _ _ ⟨rfl,?_⟩
   ·simp only[zF,zS]at s;rw[Q8 O,zU s.1,zU s.2];rfl
   ·rw[z];rfl
 ·refine ifD (λs=>g.rI rfl (j _ _ ⟨rfl,?_⟩)) λz=>j _ _ ⟨rfl,?_⟩
  ·rw[zU (by omega:32<=p)];rfl
  ·rw[zi O];rfl
structure NwS where
 p:Nat
 tab:Sl
 lm:Nat
 hs:Option Nat
 hp:Option Nat
 aw:Sl
 al:List Nat
 ha:Sl
 tw:Sl
 tl:List Value
 ht:Sl
 ys:List Lay
 cs:List LayC
def hdW (cf:Cf)(N:NwS):List Value:=[.slice N.tab.a N.tab.len N.tab.cap,.int .i64 (cf.pages:Int),.int .i64 (cf.arenas:Int),.int .i64 (cf.threads:Int),.int .i64 (cf.budget:Int),.int .i64 (cf.room:Int),
 .pointer (N.hp.map λq=>⟨q,0,none⟩),.slice N.ha.a N.ha.len N.ha.cap,.slice N.ht.a N.ht.len N.ht.cap,.map (some N.lm)]
def ArN (n room:Nat)(tb:List Cls)(y:Option Lay):Hp->Rg->Prop:=λσ F=>match y with
 | some Y=>AHY σ F Y (newA n room tb) (traT (newA n room tb) Y)
 | none=>True
def CaN (tb:List Cls)(bud:Nat)(y:Option LayC):Hp->Rg->Prop:=λσ F=>match y with
 | some Y=>CaY σ F Y tb bud (List.replicate tb.length liN)
 | none=>True
def SpN (n:Nat)(q:Option Nat):Hp->Rg->Prop:=λσ F=>match q with
 | some q=>SpH3 σ F q (Vp n)
 | none=>True
def CNW (tb:List Cls)(cf:Cf)(N:NwS):LbH->Hp->Rg->Prop
 | .hd=>BlkR N.p (hdW cf N)
 | .tab=>SlR N.tab 3 (tabV tb)
 | .sp=>SpN cf.pages N.hs
 | .arow=>RowR N.aw 1 (ptrV N.al)
 | .trow=>RowR N.tw 3 N.tl
 | .live=>MapR N.lm .i64 (.ag 4) []
 | .ar k=>ArN cf.pages cf.room tb N.ys[k]?
 | .ca k=>CaN tb cf.budget N.cs[k]?
 | .hn _=>λ_ _=>True
theorem ArN.loc (n room:Nat)(tb:List Cls)(y:Option Lay):Lcl (ArN n room tb y):=by
 intro σ σ' F G h hz hs;cases y with
 | some Y=>exact AHY.loc _ _ _ _ h hz hs
 | none=>trivial
theorem CaN.loc (tb:List Cls)(bud:Nat)(y:Option LayC):Lcl (CaN tb bud y):=by
 intro σ σ' F G h hz hs;cases y with
 | some Y=>exact CaY.loc _ _ _ _ h hz hs
 | none=>trivial
theorem SpN.loc (n:Nat)(q:Option Nat):Lcl (SpN n q):=by
 intro σ σ' F G h hz hs;cases q with
 | some q=>exact SpH3.loc _ _ _ _ h hz hs
 | none=>trivial
theorem CNW.loc {N:NwS}:∀i,Lcl (CNW tb cf N i)
 | .hd=>BlkR.loc _ _
 | .tab=>SlR.loc _ _ _
 | .sp=>SpN.loc _ _
 | .arow=>RowR.loc _ _ _
 | .trow=>RowR.loc _ _ _
 | .live=>MapR.loc _ _ _ _
 | .ar k=>ArN.loc _ _ _ _
 | .ca k=>CaN.loc _ _ _
 | .hn _=>λ_ _ _ _ _ _ _=>trivial
structure NK (σ:Hp) (B:Rg) (w:Hp) (P:Rg) (tb:List Cls) (cf:Cf) (N:NwS):Prop where
 sep:Sep (CNW tb cf N) w P
 e:Ext0 σ w
 p:∀b,P b->σ.size<=b/\¬B b/\b<w.size
 b:∀b,B b->σ.size<=b/\b<w.size
variable {N N':NwS}
theorem NK.fr (K:NK σ B w P tb cf N)(e:Ext0 w w'):NK σ B w' P tb cf N:=
 ⟨(Sep.loc CNW.loc).keep0 K.sep e,K.e.trans e,λb a=>⟨(K.p b a).1,(K.p b a).2.1,by have:=(K.p b a).2.2;have:=e.1;omega⟩,λb a=>by have:=K.b b a;have:=e.1;omega⟩
theorem NK.box (K:NK σ B w P tb cf N)(e:Ext0 w w')(hz:w'.size=w.size+1):NK σ (λb=>B b\/b=w.size) w' P tb cf N:=by
 have h:=K.fr e;have i:=K.e.1;exact⟨h.sep,h.e,λb a=>⟨(K.p b a).1,λg=>g.elim (K.p b a).2.1 λd=>by have:=(K.p b a).2.2;omega,(h.p b a).2.2⟩,λb a=>a.elim (h.b b) λd=>O⟩
theorem NK.drop (K:NK σ B w P tb cf N){B':Rg}(hb:∀b,B' b->B b):NK σ B' w P tb cf N:=⟨K.sep,K.e,λb h=>⟨(K.p b h).1,λa=>(K.p b h).2.1 (hb b a),(K.p b h).2.2⟩,λb h=>K.b b (hb b h)⟩
theorem NK.put (K:NK σ B w P tb cf N)(e:Ext0 w w')(i:LbH)(hj:∀j,j≠i->CNW tb cf N' j=CNW tb cf N j)(hi:CNW tb cf N' i w' (λb=>w.size<=b)):NK σ B w' (λb=>P b\/w.size<=b/\b<w'.size) tb cf N':=by
 have h:=K.fr e;have m:=K.e.1;refine⟨h.sep.put CNW.loc i (G:=λb=>w.size<=b/\b<w'.size) (λb a g=>by have:=(K.p b g).2.2;omega) hj ((CNW.loc i).mono hi λb a d=>⟨d,a⟩) (CNW.loc i),h.e,λb a=>?_,h.b⟩;rcases a with a|a
 ·exact h.p b a
 ·exact⟨O,λd=>by have:=(K.b b d).2;omega,a.2⟩
theorem NK.step (K:NK σ B w P tb cf N)(i:LbH):∃G:Rg,(∀b,G b->P b)/\CNW tb cf N i w G/\∀(w':Hp) (N':NwS) (G':Rg),(∀j,j≠i->CNW tb cf N' j=CNW tb cf N j)->Ext G w w'->(∀b,G' b->G b\/w.size<=b/\¬B b)->CNW tb cf N' i w' G'->(∀b,B b->b<w'.size) →
 NK σ B w' (λb=>(P b/\¬G b\/G' b)/\b<w'.size) tb cf N':=by
 obtain⟨G,m,s,_,g⟩:=K.sep.stepD CNW.loc i;refine⟨G,m,s,λw' N' G' u e r y x=>⟨?_,?_,λb a=>?_,λb a=>⟨(K.b b a).1,x b a⟩⟩⟩
 ·have:=g w' (CNW tb cf N') G' u e (λb a=>(r b a).imp id λd=>d.1) y (CNW.loc _);refine(Sep.loc CNW.loc).mono this λb a d=>⟨?_,a⟩;exact d.imp (λd=>⟨d.1,d.2.2⟩) id
 ·exact Ext.newT K.e e λb a=>.inr (K.p b (m b a)).1
 ·have z:=K.e.1;rcases a.1 with h1|h1
  ·exact⟨(K.p b h1.1).1,(K.p b h1.1).2.1,a.2⟩
  ·rcases r b h1 with h2|h2
   ·exact⟨(K.p b (m b h2)).1,(K.p b (m b h2)).2.1,a.2⟩
   ·exact⟨O,h2.2,a.2⟩
theorem jnPp {K:Fam [.p]}{body:Fam [.p]->Prop}(P:Option Addr->Hp->Prop)(h1:∀r w,P r w->K r w)(h2:∀J:Fam [.p],(∀r w,P r w->J r w)->body J):Jn [.p] K body:=Jn.intro (h2 K h1)
def nilS:Sl:=⟨none,0,0⟩
def tlv (cs:List LayC):List Value:=cs.flatMap λc=>[.pointer (some ⟨c.p,0,none⟩),.slice none 0 0,.nilIface]
def N0 (p:Nat)(tab:Sl)(lm:Nat):NwS:=⟨p,tab,lm,none,none,nilS,[],nilS,nilS,[],nilS,[],[]⟩
def NB (p:Nat)(tab:Sl)(lm q:Nat)(aw:Sl)(ys:List Lay)(tw:Sl)(cs:List LayC):NwS:=⟨p,tab,lm,some q,some q,aw,ys.map (·.p),aw,tw,tlv cs,tw,ys,cs⟩
theorem NK0 {p lm:Nat}{tab:Sl}{D:Rg}(e:Ext0 σ w)(hz:σ.size<w.size)(hp:Blk w p (hdW cf (N0 p tab lm)))(hm:MapL w lm .i64 (.ag 4) [])(ht:SlR tab 3 (tabV tb) w D)(hD:∀b,D b->σ.size<b/\b<w.size/\b≠p/\b≠lm)(hpl:p≠lm)(h1:σ.size<p)(h2:σ.size<lm) :
 NK σ (· = σ.size) w (λb=>D b\/b=p\/b=lm) tb cf (N0 p tab lm):=by
 have d:=hp.lt;have g:=hm.lt;refine⟨⟨λb=>if b=p then .hd else if b=lm then .live else .tab,λi=>?_⟩,e,λb a=>?_,λb a=>O⟩
 ·cases i with
  | hd=>exact⟨⟨.inr (.inl rfl),zB rfl⟩,hp⟩
  | live=>exact⟨⟨.inr (.inr rfl),by show(if lm=p then LbH.hd else if lm=lm then LbH.live else LbH.tab)=.live;rw[zA (Ne.symm hpl),zB rfl]⟩,hm⟩
  | tab=>exact aH.mono ht λb _ a=>⟨.inl a,by show(if b=p then LbH.hd else if b=lm then LbH.live else LbH.tab)=.tab;rw[zA (hD b a).2.2.1,zA (hD b a).2.2.2]⟩
  | sp=>trivial
  | arow=>exact RowR.nil _ _ _ _
  | trow=>exact RowR.nil _ _ _ _
  | ar k=>trivial
  | ca k=>trivial
  | hn k=>trivial
 ·rcases a with a|a|a
  ·have:=hD b a;omega
  ·omega
  ·omega
theorem NK.hdB (K:NK σ B w P tb cf N):P N.p/\Blk w N.p (hdW cf N):=by
 obtain⟨G,b,a⟩:=K.sep.get .hd;exact⟨b _ a.1,a.2⟩
theorem NK.hdr (K:NK σ B w P tb cf N)(N':NwS)(hN':∀j,j≠.hd->CNW tb cf N' j=CNW tb cf N j)(hp:N'.p=N.p){i:Nat}{v:Value}(hs:(hdW cf N).set i v=hdW cf N')(hi:i<10){Kk:aP}(hK:∀w' P',NK σ B w' P' tb cf N'->QD w w' N.p->Kk w'):St1 (Addr.add ⟨N.p,0,none⟩ i) v w Kk:=by
 obtain⟨G,m,a,e⟩:=K.step .hd;have a:BlkR N.p (hdW cf N) w G:=a;refine a.2.s1 (by simpa[hdW]using hi) λw' o g=>hK w' _ (e w' N' G hN' (o.ext.sub λx d=>by rw[d];exact a.1) (λx d=>.inl d) ?_ λx d=>by have:=(K.b x d).2;have:=o.1;omega) o;show BlkR N'.p (hdW cf N') w' G;rw[zG,hs]at g;rw[hp];exact⟨a.1,g⟩
theorem WnZ {Y:Lay}(h:N'.ys=N.ys++[Y])(hr:∀j,(∀k,j≠.ar k)->CNW tb cf N' j=CNW tb cf N j):∀j,j≠LbH.ar N.ys.length->CNW tb cf N' j=CNW tb cf N j:=by
 intro j hj;cases j with
 | ar k=>
  have a:k≠N.ys.length:=λe=>hj (by rw[e]);show ArN _ _ _ N'.ys[k]?=ArN _ _ _ N.ys[k]?;rw[h]
  congr 1
  rcases Nat.lt_or_gt_of_ne a with h1|h1
  ·rw[zd h1]
  ·rw[zZ aE,zZ O]
 | _=>exact hr _ (λk e=>by cases e)
theorem WoO {Y:LayC}(h:N'.cs=N.cs++[Y])(hr:∀j,(∀k,j≠.ca k)->CNW tb cf N' j=CNW tb cf N j):∀j,j≠LbH.ca N.cs.length->CNW tb cf N' j=CNW tb cf N j:=by
 intro j hj;cases j with
 | ca k=>
  have a:k≠N.cs.length:=λe=>hj (by rw[e]);show CaN _ _ N'.cs[k]?=CaN _ _ N.cs[k]?;rw[h]
  congr 1
  rcases Nat.lt_or_gt_of_ne a with h1|h1
  ·rw[zd h1]
  ·rw[zZ aE,zZ O]
 | _=>exact hr _ (λk e=>by cases e)
end Go.Ar
namespace Go.Ar
open Go Go.Vc Go.Proofs
variable {σ u w w':Hp}{F B P Q:Rg}{n:Nat}{cs:List Value}{tb:List Cls}{cf:Cf}{N:NwS}
theorem Wc3 (p a t b r:Int):WdV p a t b r=true↔(32<=p/\p<=1024/\p%16=0)/\(1<=a/\a<=4)/\(1<=t/\t<=4)/\(0<=b/\b<=65536)/\0<=r/\r<=8:=by
 simp only[WdV,zF,zS,zX];omega
theorem Wnj (g:Gl σ)(gd:Gd σ):Off (λb=>σ.size<=b)/\¬(σ.size<=1):=by
 refine⟨?_,λh=>by have:=WhB gd;omega⟩;have d:Off (λ_=>False):=λb a=>a.elim;exact(d.grow g).sub λb a=>.inr a
theorem Wmy (cs:List LayC)(ls:List Li):trV (cs.map λc=>⟨c,nilS⟩) (List.replicate cs.length ⟨ls,[],none⟩)=tlv cs:=by
 induction cs with
 | nil=>rfl
 | cons c cs ih=>
  have a:trV ((c::cs).map λc=>(⟨c,nilS⟩:LayT)) (List.replicate (c::cs).length ⟨ls,[],none⟩)=thV (⟨c,nilS⟩,⟨ls,[],none⟩)++trV (cs.map λc=>(⟨c,nilS⟩:LayT)) (List.replicate cs.length ⟨ls,[],none⟩):=rfl;rw[a,ih];rfl
theorem WmV (cs:List LayC):(tlv cs).length=cs.length*3:=by
 induction cs with
 | nil=>rfl
 | cons c cs ih=>simp only[tlv,zBB,zK,zP,zAP]at *;omega
set_option maxRecDepth 8000 in
theorem Wd9 {s:Sl}{xs:List (Int×Int×Int)}(ha:Acts σ s xs)(g:Gl σ)(gd:Gd σ)(p a t b r:Int){R:Option Addr->Int->Hp->Prop}
 (h2:Qi xs=false->∀σ',Ext0 σ σ'->R none 2 σ')
 (h1:Qi xs=true->WdV p a t b r=false->∀σ',Ext0 σ σ'->R none 1 σ')
 (h0:Qi xs=true->WdV p a t b r=true->∀σ' L,Ext0 σ σ'->HH σ' (λq=>σ.size<=q) L (Ue (xs.map ZV) ⟨p.toNat,a.toNat,t.toNat,b.toNat,r.toNat⟩)->R (some ⟨L.p,0,none⟩) 0 σ') :
 Ku.c s p a t b r σ R:=by
 refine Ku.o ?_;unfold Ku.v;refine nw (cs:=[.int .i64 p,.int .i64 a,.int .i64 t,.int .i64 b,.int .i64 r]) λv hz e y=>?_;refine Ho (YN ha e) λv1 e1=>?_;cases hv:Qi xs with
 | false=>exact ifT rfl (h2 hv v1 (e.trans e1))
 | true=>
 have W:=e1.blk y id;refine ifF rfl (W.rI rfl (W.rI rfl (W.rI rfl (W.rI rfl (W.rI rfl (WiA p a t b r λv2 e2=>?_))))));have ab:=(e.trans e1).trans e2;cases hc:WdV p a t b r with
 | false=>exact ifT rfl (h1 hv hc v2 ab)
 | true=>
 have hcf:=(Wc3 p a t b r).1 hc;obtain⟨p,rfl⟩:∃n:Nat,p=(n:Int):=⟨p.toNat,O⟩;obtain⟨a,rfl⟩:∃n:Nat,a=(n:Int):=⟨a.toNat,O⟩;obtain⟨t,rfl⟩:∃n:Nat,t=(n:Int):=⟨t.toNat,O⟩;obtain⟨b,rfl⟩:∃n:Nat,b=(n:Int):=⟨b.toNat,O⟩;obtain⟨r,rfl⟩:∃n:Nat,r=(n:Int):=⟨r.toNat,O⟩;simp only[iTn]at h0;have h0:=h0 hv hc;have A:=e2.blk W id;have hxl:=(Qr xs).1 hv;have hz2:=ab.1;have hz02:σ.size<v2.size:=A.lt;generalize hcfd:(⟨p,a,t,b,r⟩:Cf)=cf at h0;generalize htbd:xs.map ZV=tb at h0;have hdE:∀(q:Nat) (tab:Sl) (C:Nat),hdW cf (N0 q tab C)=[.slice tab.a tab.len tab.cap,.int .i64 (p:Int),.int .i64 (a:Int),.int .i64 (t:Int),.int .i64 (b:Int),.int .i64 (r:Int),.pointer none,.slice none 0 0,.slice none 0 0,.map (some C)]:=λq tab C=>by rw[←hcfd];rfl
 refine ifF rfl (jnPp (λvh w=>∃P q tab C,vh=some ⟨q,0,none⟩/\NK σ (· = σ.size) w P tb cf (N0 q tab C)/\Blk w σ.size [.int .i64 (p:Int),.int .i64 (a:Int),.int .i64 (t:Int),.int .i64 (b:Int),.int .i64 (r:Int)]) (λvh w ⟨P,q,tab,C,hvh,K,hbw⟩=>?_) λJ hJ=>?_)
 ·subst hvh;refine hbw.rI rfl (WhF (n:=p) O O λv4 sp e4 _ hS=>?_);have hp:cf.pages=p:=by rw[←hcfd]
  have hroom:cf.room=r:=by rw[←hcfd]
  have hbud:cf.budget=b:=by rw[←hcfd]
  have K1:NK σ (· = σ.size) v4 _ tb cf {N0 q tab C with hs:=some sp}:=K.put e4 .sp (λj H=>by cases j<;>first|rfl|exact absurd rfl H) (by
   show SpH3 v4 _ sp (Vp cf.pages);rw[hp];exact hS)
  have hbw4:=e4.blk hbw id;refine nilP (K1.hdr (NB q tab C sp nilS [] nilS []) (λj H=>by cases j<;>first|rfl|exact absurd rfl H) rfl (i:=6) rfl O λv5 P5 K5 o5=>?_)
  have ac:∀{w:Hp} {P:Rg} {N:NwS},NK σ (· = σ.size) w P tb cf N->σ.size≠N.p:=λK e=>(K.p _ K.hdB.1).2.1 e.symm;have hbw5:=Ws o5 hbw4 (ac K1);refine hbw5.rI rfl ?_;refine ZT (a:=bN) (λ(z:Int) w=>∃(P:Rg) (aw:Sl) (ys:List Lay),z=(ys.length:Int)/\ys.length<=a/\(∀Y∈ys,Y.hs=sp)/\NK σ (· = σ.size) w P tb cf (NB q tab C sp aw ys nilS [])/\Blk w σ.size [.int .i64 (p:Int),.int .i64 (a:Int),.int .i64 (t:Int),.int .i64 (b:Int),.int .i64 (r:Int)]) (λz _=>a-z.toNat) ⟨P5,nilS,[],rfl,by simp,by simp,K5,hbw5⟩ ?_;rintro(z:Int) w6 ⟨P6,aw,ys,rfl,hyl,hys,K6,hbw6⟩;refine ifD (λhlt=>?_) λhge=>?_
  ·refine⟨λu=>u=w6,rfl,nilP ⟨some ⟨sp,0,none⟩,λu hu=>by cases hu;rw[add_lit];exact(Blk.cell (b:=q) K6.hdB.2).trans rfl,⟨(r:Int),λu hu=>by cases hu;rw[add_lit,hbw6.cell];rfl,?_⟩⟩⟩;obtain⟨GS,hGS,hSp⟩:=K6.sep.get .sp;have hSp:SpH3 w6 GS sp (Vp cf.pages):=hSp;have hnl:(Vp cf.pages).st.length=p:=by rw[hp];simp[Vp]
   have hnE:newE xs (Vp cf.pages).st.length (r:Int)=0:=by
    unfold newE;rw[zB hv,hnl,zB O]
   refine WnL (YN ha K6.e) hSp (r:Int) (λhne=>absurd hnE hne) λ_ v7 Y e7 hYh hA=>?_;rw[hnl,iTn,htbd]at hA;have K7:NK σ (· = σ.size) v7 _ tb cf {NB q tab C sp aw ys nilS []with ys:=ys++[Y]}:=K6.put e7 (.ar ys.length) (WnZ (N:=NB q tab C sp aw ys nilS []) rfl (λj H=>by
    cases j with
    | ar k=>exact absurd rfl (H k)
    | _=>rfl)) (by
    show ArN cf.pages cf.room tb (ys++[Y])[ys.length]? v7 _;rw[zm (zC _),zBY,hp,hroom];exact hA)
   have U:=e7.blk hbw6 id;refine nilP (K7.hdB.2.rS (a:=aw.a) (n:=aw.len) (c:=aw.cap) rfl (nw (cs:=[.pointer (some ⟨Y.p,0,none⟩)]) λv8 hz8 e8 hb8=>?_));have K8:=K7.box e8 hz8;obtain⟨G,hG,d,ah⟩:=K8.step .arow;have d:RowR aw 1 (ptrV (ys.map (·.p))) v8 G:=d;have hal:aw.len=ys.length:=by have:=d.1;simp[ptrV]at this;omega
   refine d.app (ys:=[.pointer (some ⟨Y.p,0,none⟩)]) rfl rfl ?_ (by simp[one1]) ?_ ?_ zBG λs' v9 _ e9 hr9=>?_
   ·intro j u hu;rw[add_lit,zG,hb8.cell];exact hu
   ·simp only;omega
   ·simp only;omega
   have hz9:=e9.1;have hbw9:Blk v9 σ.size _:=e9.blk (e8.blk U id) λF=>(K8.p _ (hG _ F)).2.1 (.inl rfl);have K9:=(ah v9 {NB q tab C sp aw ys nilS []with ys:=ys++[Y],aw:=s',al:=(ys++[Y]).map (·.p)} (λb=>Grow G v8 b/\b<v9.size) (λj H=>by cases j<;>first|rfl|exact absurd rfl H) e9 (λb y=>y.1.imp id λF=>⟨F,λhB=>by have:=(K8.b b hB).2;omega⟩) (by
    show RowR s' 1 (ptrV ((ys++[Y]).map (·.p))) v9 _;have:ptrV ((ys++[Y]).map (·.p))=ptrV (ys.map (·.p))++[.pointer (some ⟨Y.p,0,none⟩)]:=by simp[ptrV]
    rw[this];exact aI.mono hr9 λb y F=>⟨F,y⟩) λb hB=>by have:=(K8.b b hB).2;omega).drop (B':=(· = σ.size)) λb y=>.inl y
   refine nilP (K9.hdr (NB q tab C sp s' (ys++[Y]) nilS []) (λj H=>by cases j<;>first|rfl|exact absurd rfl H) rfl (i:=7) rfl O λae P10 K10 o10=>?_)
   have M:=Ws o10 hbw9 (ac K9);exact arN (m:=ys.length+1) O O ⟨⟨P10,s',ys++[Y],by simp,by simp;omega,λZ hZ=>(zR.1 hZ).elim (hys Z) λh=>by
    rw[zW]at h;rw[h];exact hYh,K10,M⟩,O⟩
  ·have hya:ys.length=a:=by omega
   refine hbw6.rI rfl ?_;refine ZT (a:=bN) (λ(z:Int) w=>∃(P:Rg) (tw:Sl) (cs:List LayC),z=(cs.length:Int)/\cs.length<=t/\NK σ (· = σ.size) w P tb cf (NB q tab C sp aw ys tw cs)/\Blk w σ.size [.int .i64 (p:Int),.int .i64 (a:Int),.int .i64 (t:Int),.int .i64 (b:Int),.int .i64 (r:Int)]) (λz _=>t-z.toNat) ⟨P6,nilS,[],rfl,by simp,K6,hbw6⟩ ?_;rintro(z:Int) w7 ⟨P7,tw,cs,rfl,hcsl,K7,U⟩;refine ifD (λhlt=>?_) λhge2=>?_
   ·refine U.rI rfl (Wnm (YN ha K7.e) (b:Int) (λhvf=>by rw[hv]at hvf;cases hvf) (λ_ hn=>absurd ⟨O,O⟩ hn) λ_ _ _ v8 Y e8 hC=>?_);rw[iTn,htbd]at hC;have K8:NK σ (· = σ.size) v8 _ tb cf {NB q tab C sp aw ys tw cs with cs:=cs++[Y]}:=K7.put e8 (.ca cs.length) (WoO (N:=NB q tab C sp aw ys tw cs) rfl (λj H=>by
     cases j with
     | ca k=>exact absurd rfl (H k)
     | _=>rfl)) (by
     show CaN tb cf.budget (cs++[Y])[cs.length]? v8 _;rw[zm (zC _),zBY,hbud];exact hC)
    have hbw8:=e8.blk U id;refine nilP (K8.hdB.2.rS (a:=tw.a) (n:=tw.len) (c:=tw.cap) rfl (nw (cs:=[.pointer (some ⟨Y.p,0,none⟩),.slice none 0 0,.nilIface]) λv9 hz9 e9 hb9=>?_));have K9:=K8.box e9 hz9;obtain⟨G,hG,d,ah⟩:=K9.step .trow;have d:RowR tw 3 (tlv cs) v9 G:=d;have hal:tw.len=cs.length:=by have:=d.1;rw[WmV]at this;omega
    refine d.app (ys:=[.pointer (some ⟨Y.p,0,none⟩),.slice none 0 0,.nilIface]) rfl rfl ?_ (by simp[one1]) ?_ ?_ zBG λs' ae _ e10 hr10=>?_
    ·intro j u hu;rw[add_lit,zG,hb9.cell];exact hu
    ·simp only;omega
    ·simp only;omega
    have hz10:=e10.1;have M:Blk ae σ.size _:=e10.blk (e9.blk hbw8 id) λF=>(K9.p _ (hG _ F)).2.1 (.inl rfl);have K10:=(ah ae {NB q tab C sp aw ys tw cs with cs:=cs++[Y],tw:=s',tl:=tlv (cs++[Y])} (λb=>Grow G v9 b/\b<ae.size) (λj H=>by cases j<;>first|rfl|exact absurd rfl H) e10 (λb y=>y.1.imp id λF=>⟨F,λhB=>by have:=(K9.b b hB).2;omega⟩) (by
     show RowR s' 3 (tlv (cs++[Y])) ae _;have:tlv (cs++[Y])=tlv cs++[.pointer (some ⟨Y.p,0,none⟩),.slice none 0 0,.nilIface]:=by simp[tlv]
     rw[this];exact aI.mono hr10 λb y F=>⟨F,y⟩) λb hB=>by have:=(K9.b b hB).2;omega).drop (B':=(· = σ.size)) λb y=>.inl y
    refine nilP (K10.hdr (NB q tab C sp aw ys s' (cs++[Y])) (λj H=>by cases j<;>first|rfl|exact absurd rfl H) rfl (i:=8) rfl O λv11 P11 K11 o11=>?_)
    have hbw11:=Ws o11 M (ac K10);exact arN (m:=cs.length+1) O O ⟨⟨P11,s',cs++[Y],by simp,by simp;omega,K11,hbw11⟩,O⟩
   ·have hct:cs.length=t:=by omega
    have Q:cf.threads=cs.length:=by rw[←hcfd,hct]
    have af:cf.arenas=ys.length:=by rw[←hcfd,hya]
    have hN:=Wnj g gd;refine h0 w7 ⟨q,sp,C,tab,aw,tw,ys,cs.map λc=>⟨c,nilS⟩⟩ K7.e ⟨⟨?_,hys,?_,?_,?_,?_,?_,?_⟩,?_,g.keep0 K7.e,gd.keep0 K7.e,hN.1,hN.2⟩
    ·simp[Ue,af]
    ·simp[Ue,Q]
    ·simp[Ue,af];omega
    ·simp[Ue,af];omega
    ·simp[Ue,Q];omega
    ·simp[Ue,Q];omega
    ·intro B hB;have:=zGP hB;rw[this];rfl
    ·refine(Sep.loc CH.loc).mono (G:=λq=>σ.size<=q) ?_ λb _ y=>y;obtain⟨ρ,hs⟩:=(Sep.loc CNW.loc).mono K7.sep (G:=λq=>σ.size<=q) λb _ y=>(K7.p b y).1;refine⟨ρ,λi=>?_⟩;have S:=hs i;cases i with
     | hd=>exact S
     | tab=>exact S
     | sp=>exact S
     | arow=>exact RowR.slR S
     | trow=>
      show RowR tw 3 (trV (cs.map λc=>⟨c,nilS⟩) (List.replicate cf.threads ⟨List.replicate tb.length liN,[],none⟩)) w7 _;rw[Q,Wmy];exact S
     | live=>exact S
     | ar k=>
      show ArH ys[k]? (List.replicate cf.arenas (newA cf.pages cf.room tb))[k]? w7 _;have S:ArN cf.pages cf.room tb ys[k]? w7 _:=S;unfold ArH;by_cases hk:k<ys.length
      ·rw[zAV,zB O,gGe hk];rw[gGe hk]at S;exact S
      ·rw[zZ O];trivial
     | ca k=>
      show CaH (cs.map λc=>(⟨c,nilS⟩:LayT))[k]? (List.replicate cf.threads (⟨List.replicate tb.length liN,[],none⟩:Th))[k]? tb cf.budget w7 _;have S:CaN tb cf.budget cs[k]? w7 _:=S;unfold CaH;by_cases hk:k<cs.length
      ·rw[zAV,zB O,ze,gGe hk];rw[gGe hk]at S;exact S
      ·rw[ze,zZ O];trivial
     | hn k=>
      show HnH (cs.map λc=>(⟨c,nilS⟩:LayT))[k]? (List.replicate cf.threads (⟨List.replicate tb.length liN,[],none⟩:Th))[k]? w7 _;unfold HnH;by_cases hk:k<cs.length
      ·rw[zAV,zB O,ze,gGe hk];exact BtR.nil _ _ _
      ·rw[ze,zZ O];trivial
 ·have rd:∀(i:Nat) (x:Int),[Value.int .i64 (p:Int),.int .i64 (a:Int),.int .i64 (t:Int),.int .i64 (b:Int),.int .i64 (r:Int)][i]?=some (.int .i64 x)->∀m,Blk m σ.size [.int .i64 (p:Int),.int .i64 (a:Int),.int .i64 (t:Int),.int .i64 (b:Int),.int .i64 (r:Int)]->cell m (Addr.add ⟨σ.size,0,none⟩ i)=some (.int .i64 x):=λi x F m hm=>by
   rw[add_lit,hm.cell,zG];exact F
  refine⟨λm=>Blk m σ.size [.int .i64 (p:Int),.int .i64 (a:Int),.int .i64 (t:Int),.int .i64 (b:Int),.int .i64 (r:Int)],A,⟨(p:Int),rd 0 _ rfl,⟨(a:Int),rd 1 _ rfl,⟨(t:Int),rd 2 _ rfl,⟨(b:Int),rd 3 _ rfl,⟨(r:Int),rd 4 _ rfl,⟨?_,?_⟩⟩⟩⟩⟩⟩⟩
  ·refine VW (YN ha ab) hv λtab v16 X E=>⟨X.blk A id,Wen λv17 z17 aj hm=>⟨aj.blk (X.blk A id) id,?_⟩⟩;rw[htbd]at E;have hz16:=X.1;refine nw (cs:=[.slice tab.a tab.len tab.cap,.int .i64 (p:Int),.int .i64 (a:Int),.int .i64 (t:Int),.int .i64 (b:Int),.int .i64 (r:Int),.pointer none,.slice none 0 0,.slice none 0 0,.map (some v16.size)]) λv18 z18 ad hb18=>⟨ad.blk (aj.blk (X.blk A id) id) id,hJ _ _ ⟨_,v17.size,tab,v16.size,rfl,NK0 (D:=λq=>v2.size<=q/\q<v16.size) (((ab.trans X).trans aj).trans ad) O (by rw[hdE];exact hb18) (ad.mapL (hm .i64 (.ag 4)) id) ?_ (λb y=>O) O O O,ad.blk (aj.blk (X.blk A id) id) id⟩⟩;exact aH.keep0 (aH.keep0 (aH.mono E (G:=λq=>v2.size<=q/\q<v16.size) λb y F=>⟨F,y⟩) aj) ad
  ·refine Wen λv19 z19 V hm=>⟨V.blk A id,VW (YN ha (ab.trans V)) hv λtab v20 aa E=>⟨aa.blk (V.blk A id) id,?_⟩⟩;rw[htbd]at E;have hz20:=aa.1;refine nw (cs:=[.slice tab.a tab.len tab.cap,.int .i64 (p:Int),.int .i64 (a:Int),.int .i64 (t:Int),.int .i64 (b:Int),.int .i64 (r:Int),.pointer none,.slice none 0 0,.slice none 0 0,.map (some v2.size)]) λv21 z21 ai hb21=>⟨ai.blk (aa.blk (V.blk A id) id) id,hJ _ _ ⟨_,v20.size,tab,v2.size,rfl,NK0 (D:=λq=>v19.size<=q/\q<v20.size) (((ab.trans V).trans aa).trans ai) O (by rw[hdE];exact hb21) (ai.mapL (aa.mapL (hm .i64 (.ag 4)) id) id) ?_ (λb y=>O) O O O,ai.blk (aa.blk (V.blk A id) id) id⟩⟩;exact aH.keep0 (aH.mono E (G:=λq=>v19.size<=q/\q<v20.size) λb y F=>⟨F,y⟩) ai
end Go.Ar
namespace Go.Ar
open Go Go.Vc Go.Proofs
variable {σ u w w':Hp}{F B P Q:Rg}{L:LayH}{H:Hw}{t:Nat}{g:Th}
def CfOk (H:Hw):Prop:=1<=H.cf.pages/\H.cf.threads=H.ths.length/\TbOk H.tb
end Go.Ar
namespace Go.Ar
open Go Go.Vc Go.Proofs
open Go.Bu (isPow)
variable {σ u w w':Hp}{F B P Q:Rg}{L:LayH}{H H':Hw}{t:Nat}{g:Th}
def U2 (H:Hw)(thread kind size align addr:Int)(H':Hw)(a e:Int):Prop:=
 (KH H thread kind size align addr=.inl e/\e≠0/\H'=H/\a=0)\/∃t p n,KH H thread kind size align addr=.inr (t,p)/\RunN n (setPh H t (some p)) t p H' a e
theorem War (hso:HP)(h:HH σ F L H)(hv:TbOk H.tb){thread kind size align addr:Int}{a e:Int}(hw:U2 H thread kind size align addr H' a e){R:Int->Int->Hp->Prop}
 (hR:∀σ' ts',Ext F σ σ'->HH σ' (Grow F σ) {L with ts:=ts'} H'->R a e σ'):XQ.c (aW L.p) thread kind size align addr σ R:=by
 rcases hw with⟨hs,hne,rfl,rfl⟩|⟨t,p,n,hs,hr⟩
 ·exact WdS hso h hv thread kind size align addr (λd b _ σ' g i=>by
   rw[hs]at b;cases b;exact hR σ' L.ts g i) λt p b=>by rw[hs]at b;cases b
 ·exact WdS hso h hv thread kind size align addr (λd b=>by rw[hs]at b;cases b) λj m b=>by
   rw[hs]at b;cases b;exact⟨n,H',a,e,hr,hR⟩
theorem Wgw (hso:HP)(h:HH σ F L H)(hv:TbOk H.tb){thread size align:Int}{a e:Int}(hw:U2 H thread 0 size align 0 H' a e){R:Int->Int->Hp->Prop}
 (hR:∀σ' ts',Ext F σ σ'->HH σ' (Grow F σ) {L with ts:=ts'} H'->R a e σ'):Yh.c (aW L.p) thread size align σ R:=by
 refine Yh.o ?_;unfold Yh.v;exact War hso h hv hw hR
theorem Wkn (hso:HP)(h:HH σ F L H)(hv:TbOk H.tb){thread addr:Int}{a e:Int}(hw:U2 H thread 1 0 0 addr H' a e){R:aN}
 (hR:∀σ' ts',Ext F σ σ'->HH σ' (Grow F σ) {L with ts:=ts'} H'->R e σ'):Zn.c (aW L.p) thread addr σ R:=by
 refine Zn.o ?_;unfold Zn.v;exact War hso h hv hw hR
theorem WiT (hso:HP)(h:HH σ F L H)(hv:TbOk H.tb){thread:Int}{a e:Int}(hw:U2 H thread 2 0 0 0 H' a e){R:aN}
 (hR:∀σ' ts',Ext F σ σ'->HH σ' (Grow F σ) {L with ts:=ts'} H'->R e σ'):Zj.c (aW L.p) thread σ R:=by
 refine Zj.o ?_;unfold Zj.v;exact War hso h hv hw hR
def Qc (H' H:Hw):Prop:=H'.tb=H.tb/\H'.cf=H.cf/\H'.ths.length=H.ths.length/\H'.ars.length=H.ars.length
theorem Qc.refl (H:Hw):Qc H H:=⟨rfl,rfl,rfl,rfl⟩
theorem Qc.trans {H1 H2 H3:Hw}(a:Qc H2 H1)(b:Qc H3 H2):Qc H3 H1:=⟨b.1.trans a.1,b.2.1.trans a.2.1,b.2.2.1.trans a.2.2.1,b.2.2.2.trans a.2.2.2⟩
theorem KJ (H:Hw)(t:Nat)(f:Th->Th):Qc (H.setT t f) H:=⟨rfl,rfl,by simp[Hw.setT],rfl⟩
theorem Z9 (H:Hw)(k:Nat)(A:AR)(sp:Sp):Qc {H.setA k A with sp:=sp} H:=⟨rfl,rfl,rfl,by simp[Hw.setA]⟩
theorem Wel (H:Hw)(k:Nat)(part:Nat->List Int)(j:Nat):Qc (Vg H k part (List.range j)) H:=by
 induction j with
 | zero=>exact Qc.refl H
 | succ j ih=>
  rw[Ve];split
  ·split
   ·exact ih
   ·exact ih.trans (Z9 _ _ _ _)
  ·exact ih
theorem Wjr (H:Hw)(own k:Nat)(xs:List Int):Qc (HT H own k xs) H:=by
 unfold HT;split
 ·split
  ·exact Z9 _ _ _ H.sp
  ·refine Qc.trans ?_ (Wel _ _ _ _);split
   ·exact Z9 _ _ _ H.sp
   ·exact Qc.refl H
 ·exact Qc.refl H
theorem Wkd (H:Hw)(t k:Nat)(x:Int):Qc (putH H t k x) H:=by
 unfold putH;simp only;split<;>split<;>exact⟨rfl,rfl,by simp[Hw.setT,QP],rfl⟩
theorem Wju (H:Hw)(t:Nat)(p:Ph):Qc (Wt H t p).1 H:=by
 cases p with
 | take k=>simp only[Wt];split<;>exact⟨rfl,rfl,by simp[VF,QP,Hw.setT,Hw.setA],by simp[VF,QP,Hw.setT,Hw.setA]⟩
 | transfer k w=>
  simp only[Wt];split
  ·split
   ·exact(Z9 _ _ _ H.sp).trans (KJ _ _ _)
   ·exact Qc.refl H
  ·exact Qc.refl H
 | central k w=>
  simp only[Wt];split
  ·exact Z9 _ _ _ H.sp
  ·exact(Z9 _ _ _ H.sp).trans (KJ _ _ _)
 | grow k w=>simp only[Wt];split<;>exact Z9 _ _ _ _
 | fill=>
  simp only[Wt];split
  ·exact⟨rfl,rfl,by simp[VF,QP,Hw.setT,Hw.setA],by simp[VF,QP,Hw.setT,Hw.setA]⟩
  ·exact Qc.refl H
 | large m=>simp only[Wt];split<;>exact⟨rfl,rfl,by simp[VF,QP,Hw.setT,Hw.setA],by simp[VF,QP,Hw.setT,Hw.setA]⟩
 | find x=>
  simp only[Wt,UZ];split
  ·exact Qc.refl H
  ·split
   ·exact⟨rfl,rfl,rfl,rfl⟩
   ·exact Qc.trans (H2:={H with live:=Go.Vc.mdel H.live x}) ⟨rfl,rfl,rfl,rfl⟩ (KJ _ _ _)
 | put k x=>exact Wkd H t k x
 | back=>
  simp only[Wt];split
  ·exact(KJ _ _ _).trans (Wjr _ _ _ _)
  ·exact Qc.refl H
 | give s a=>
  simp only[Wt];split
  ·exact Z9 _ _ _ H.sp
  ·exact Qc.refl H
 | drain=>exact KJ _ _ _
theorem Gk (H:Hw)(t:Nat)(p:Ph):Qc (QO H t p) H:=(Wju H t p).trans (KJ _ _ _)
theorem Wfm {n:Nat}{H H':Hw}{t:Nat}{p:Ph}{a e:Int}(h:RunN n H t p H' a e):Qc H' H:=by
 induction h with
 | done=>exact Gk _ _ _
 | next _ _ _ ih=>exact(Gk _ _ _).trans ih
theorem CfOk.keep (h:CfOk H)(k:Qc H' H):CfOk H':=⟨by rw[k.2.1];exact h.1,by rw[k.2.1,k.2.2.1];exact h.2.1,by rw[k.1];exact h.2.2⟩
end Go.Ar
namespace Go.Ar
variable {c:Cls}{ss:List SpA}
structure CenOk (c:Cls) (ss:List SpA):Prop where
 ok:c.ok
 tk:∀s∈ss,s.tk.length=c.n
 far:ss.Pairwise λa b=>a.st+c.pages<=b.st
def Tk (c:Cls)(ss:List SpA)(x:Int):Prop:=isTk c ss x=some true
def Cov (c:Cls)(ss:List SpA)(p:Nat):Prop:=∃s∈ss,s.st<=p/\p<s.st+c.pages
theorem CenOk.pos (h:CenOk c ss):0<c.size:=by have:=h.ok;unfold Cls.ok at this;omega
theorem CenOk.pg (h:CenOk c ss):1<=c.pages:=by have:=h.ok;unfold Cls.ok at this;omega
theorem CenOk.srt (h:CenOk c ss):ss.Pairwise λa b=>a.st<b.st:=h.far.imp λ{a b} d=>by have:=h.pg;omega
theorem CenOk.dis (h:CenOk c ss){i j:Nat}{s t:SpA}(hi:ss[i]?=some s)(hj:ss[j]?=some t)(hij:i<j):s.st+c.pages<=t.st:=by
 obtain⟨a,rfl⟩:=gSi.1 hi;obtain⟨b,rfl⟩:=gSi.1 hj;exact zAE.1 h.far i j a b hij
theorem CenOk.cov1 (h:CenOk c ss){i j:Nat}{s t:SpA}{p:Nat}(hi:ss[i]?=some s)(hj:ss[j]?=some t)(h1:s.st<=p)(h2:p<s.st+c.pages)(h3:t.st<=p)(h4:p<t.st+c.pages):i=j:=by
 rcases zCA i j with hl|hl|hl
 ·have:=h.dis hi hj hl;omega
 ·exact hl
 ·have:=h.dis hj hi hl;omega
theorem Wor (hp:0<c.size){s:SpA}{i:Nat}(hi:i<c.n):s.st*256<=at_ c s i/\at_ c s i+c.size<=(s.st+c.pages)*256:=by
 have b:=Cls.n_mul c;have a:(i+1)*c.size<=c.n*c.size:=zAK _ hi;unfold at_;rw[zj]at a;omega
theorem HU (hp:0<c.size){s:SpA}{i x:Nat}(hi:i<c.n)(h1:at_ c s i<=x)(h2:x<at_ c s i+c.size):s.st<=x/256/\x/256<s.st+c.pages:=by
 have:=Wor hp (s:=s) hi;omega
theorem Uk (h:CenOk c ss){k l:Nat}{s t:SpA}{i j x:Nat}(hk:ss[k]?=some s)(hl:ss[l]?=some t)(hi:i<c.n)(hj:j<c.n)(h1:at_ c s i<=x)(h2:x<at_ c s i+c.size)(h3:at_ c t j<=x)(h4:x<at_ c t j+c.size):k=l/\s=t/\i=j:=by
 have a:=HU h.pos hi h1 h2;have b:=HU h.pos hj h3 h4;have e:=h.cov1 hk hl a.1 a.2 b.1 b.2;subst e;rw[hk]at hl;cases hl;refine⟨rfl,rfl,?_⟩;unfold at_ at *;have d:=h.pos;rcases zCA i j with hl|hl|hl
 ·have:(i+1)*c.size<=j*c.size:=zAK _ hl;rw[zj]at this;omega
 ·exact hl
 ·have:(j+1)*c.size<=i*c.size:=zAK _ hl;rw[zj]at this;omega
theorem Wh2 (h:CenOk c ss){s:SpA}(hs:s∈ss){x:Int}{i:Nat}(hi:idx c s x=some i):i<c.n/\((s.st*256:Nat):Int)<=x/\x<(((s.st+c.pages)*256:Nat):Int)/\((at_ c s i:Nat):Int)<=x/\x<((at_ c s i+c.size:Nat):Int):=by
 obtain⟨d,b,a⟩:=(VX h.pos).1 hi;rw[h.tk s hs]at a;have:=Wor h.pos (s:=s) a;have e:at_ c s (i+1)=at_ c s i+c.size:=by unfold at_;rw[zj];omega
 rw[e]at b;omega
theorem WlX (h:CenOk c ss){k:Nat}{s:SpA}{x:Int}{i:Nat}(hs:ss[k]?=some s)(hi:idx c s x=some i):ofS c ss x=some k:=by
 obtain⟨p,g⟩:=gSi.1 hs;refine zBH.2 ⟨p,by rw[g,hi];rfl,λj m r=>?_⟩;have d:j<ss.length:=by omega
 obtain⟨u,e⟩:=zCB.1 r;have a:=Wh2 h (zE hs) hi;have b:=Wh2 h (zc d) e;have:=h.dis (gGe d) hs m;omega
theorem Wfd (h:CenOk c ss){x:Int}{b:Bool}:isTk c ss x=some b↔∃(k:Nat) (s:SpA) (i:Nat),ss[k]?=some s/\i<c.n/\x=((at_ c s i:Nat):Int)/\s.is i=b:=by
 constructor
 ·intro hx;obtain⟨k,s,i,_,a,g,e⟩:=Waj hx;obtain⟨m,j⟩:=(UJ h.pos).1 g;rw[h.tk s (zE a)]at j;exact⟨k,s,i,a,j,m,e⟩
 ·rintro⟨k,s,i,a,hi,rfl,e⟩;have p:=h.tk s (zE a);have g:obj c s ((at_ c s i:Nat):Int)=some i:=(UJ h.pos).2 ⟨rfl,O⟩;have d:idx c s ((at_ c s i:Nat):Int)=some i:=(VX h.pos).2 ⟨zCH _,by have:=h.pos;unfold at_;rw[zj];omega,O⟩;rw[VP (WlX h a d) a,g,←e];rfl
theorem Uc (h:CenOk c ss){x:Int}:Tk c ss x↔∃(k:Nat) (s:SpA) (i:Nat),ss[k]?=some s/\i<c.n/\x=((at_ c s i:Nat):Int)/\s.is i=true:=Wfd h
theorem Wdg (h:CenOk c ss){x:Int}{a:Nat}:Wcr c ss x=some a↔∃(k:Nat) (s:SpA) (i:Nat),ss[k]?=some s/\i<c.n/\a=at_ c s i/\((at_ c s i:Nat):Int)<=x/\x<((at_ c s i+c.size:Nat):Int):=by
 constructor
 ·intro hf;cases ho:ofS c ss x with
  | none=>rw[Wbx ho]at hf;cases hf
  | some k=>
   have j:=(zBH.1 ho).1;have b:ss[k]?=some ss[k]:=gGe j;rw[Gy ho b]at hf;obtain⟨i,g,rfl⟩:=zCJ.1 hf;have:=Wh2 h (zE b) g;exact⟨k,_,i,b,this.1,rfl,this.2.2.2.1,this.2.2.2.2⟩
 ·rintro⟨k,s,i,b,g,rfl,h1,h2⟩;have m:=h.tk s (zE b);have e:at_ c s (i+1)=at_ c s i+c.size:=by unfold at_;rw[zj];omega
  have d:idx c s x=some i:=(VX h.pos).2 ⟨h1,by rw[e];exact h2,O⟩;rw[Gy (WlX h b d) b,d];rfl
theorem CenOk.put (h:CenOk c ss){k i:Nat}{s:SpA}(hs:ss[k]?=some s)(v:Bool):CenOk c (ss.set k (s.put i v)):=by
 have r:=(gSi.1 hs).1;refine⟨h.ok,λt p=>?_,?_⟩
 ·rcases zEW p with p|rfl
  ·exact h.tk t p
  ·rw[show(s.put i v).tk.length=s.tk.length by simp[SpA.put]];exact h.tk s (zE hs)
 ·rw[zAE];intro a b ha hb hab;have d:a<ss.length:=by simpa using ha
  have m:b<ss.length:=by simpa using hb
  have g:∀j (hj:j<(ss.set k (s.put i v)).length) (hj':j<ss.length),(ss.set k (s.put i v))[j].st=ss[j].st:=by
   intro j hj hj';rw[List.getElem_set];split
   ·rename_i e;subst e;have:ss[k]=s:=(gSi.1 hs).2;rw[this];rfl
   ·rfl
  rw[g a ha d,g b hb m];exact zAE.1 h.far a b d m hab
theorem Wbu {k i:Nat}{s:SpA}(hs:ss[k]?=some s)(v:Bool):(ss.set k (s.put i v)).map (·.st)=ss.map (·.st):=by
 apply zw;intro j;simp only[ze];by_cases hjk:j=k
 ·subst hjk;rw[zM (gSi.1 hs).1,hs];rfl
 ·rw[zh (Ne.symm hjk)]
theorem Why {s:SpA}{i j:Nat}{v:Bool}(hi:i<s.tk.length):(s.put i v).is j=if j=i then v else s.is j:=by
 unfold SpA.is SpA.put;simp only[zL];by_cases hj:j=i
 ·subst hj;rw[zM hi,zB rfl];rfl
 ·rw[zh (Ne.symm hj),zA hj]
theorem WlM (h:CenOk c ss){k i:Nat}{s:SpA}(hs:ss[k]?=some s)(hi:i<c.n)(v:Bool){y:Int}:Tk c (ss.set k (s.put i v)) y↔(y=((at_ c s i:Nat):Int)/\v=true)\/(y≠((at_ c s i:Nat):Int)/\Tk c ss y):=by
 have b:=(gSi.1 hs).1;have m:=h.tk s (zE hs);have g:=h.pos;rw[Uc (h.put hs v),Uc h];constructor
 ·rintro⟨l,t,j,ht,hj,rfl,hb⟩;by_cases hlk:l=k
  ·subst hlk;rw[zM b]at ht;cases ht;rw[Why O]at hb;by_cases a:j=i
   ·subst a;rw[zB rfl]at hb;exact .inl ⟨rfl,hb⟩
   ·rw[zA a]at hb;refine .inr ⟨λe=>a ?_,l,s,j,hs,hj,rfl,hb⟩;have d:at_ c s j=at_ c s i:=by have:=Int.ofNat.inj e;exact this
    exact(Uk h hs hs hj hi (zC _) O O O).2.2
  ·rw[zh (Ne.symm hlk)]at ht;refine .inr ⟨λe=>hlk ?_,l,t,j,ht,hj,rfl,hb⟩;have d:at_ c t j=at_ c s i:=Int.ofNat.inj e;exact(Uk h ht hs hj hi (zC _) O O O).1
 ·rintro(⟨rfl,rfl⟩|⟨hne,l,t,j,ht,hj,rfl,hb⟩)
  ·exact⟨k,s.put i true,i,zM b,hi,rfl,by rw[Why O,zB rfl]⟩
  ·by_cases hlk:l=k
   ·subst hlk;rw[hs]at ht;cases ht;have a:j≠i:=λe=>hne (by rw[e]);exact⟨l,s.put i v,j,zM b,hj,rfl,by rw[Why O,zA a];exact hb⟩
   ·exact⟨l,t,j,(zh (Ne.symm hlk)).trans ht,hj,rfl,hb⟩
theorem Wjw {p:Nat}:Cov c ss p↔∃x∈ss.map (·.st),x<=p/\p<x+c.pages:=by
 constructor
 ·rintro⟨s,a,h⟩;exact⟨_,zD.2 ⟨s,a,rfl⟩,h⟩
 ·rintro⟨x,hx,h⟩;obtain⟨s,a,rfl⟩:=zD.1 hx;exact⟨s,a,h⟩
theorem WoU {ss':List SpA}(e:ss'.map (·.st)=ss.map (·.st)){p:Nat}:Cov c ss' p↔Cov c ss p:=by rw[Wjw,Wjw,e]
theorem Win (h:CenOk c ss){x:Nat}{ss':List SpA}(ho:oneS c ss=some (x,ss')):CenOk c ss'/\ss'.map (·.st)=ss.map (·.st)/\¬Tk c ss (x:Int)/\∀y,Tk c ss' y↔y=(x:Int)\/Tk c ss y:=by
 unfold oneS at ho;split at ho
 ·rename_i k hk;obtain⟨_,s,g,u⟩:=QN hk;rw[g]at ho;simp only at ho;split at ho
  ·rename_i i hi;cases ho;obtain⟨r,w,p,m⟩:=G7 u;rw[hi]at w;cases w;have j:i<c.n:=by rw[←h.tk s (zE g)];exact p
   have a:¬Tk c ss ((at_ c s i:Nat):Int):=λd=>by
    have z:=(Wfd h (x:=((at_ c s i:Nat):Int)) (b:=false)).2 ⟨k,s,i,g,j,rfl,m⟩;unfold Tk at d;rw[z]at d;cases d
   refine⟨h.put g true,Wbu g true,a,λy=>?_⟩;rw[WlM h g j];constructor
   ·rintro(⟨e,_⟩|⟨_,d⟩)
    ·exact .inl e
    ·exact .inr d
   ·rintro(e|d)
    ·exact .inl ⟨e,rfl⟩
    ·exact .inr ⟨λe=>a (e▸d),d⟩
  ·cases ho
 ·cases ho
theorem GC:∀(m:Nat) {ss:List SpA},CenOk c ss->CenOk c (Q7 c m ss).2/\(Q7 c m ss).2.map (·.st)=ss.map (·.st)/\(Q7 c m ss).1.length<=m/\(Q7 c m ss).1.Nodup/\(∀x∈(Q7 c m ss).1,¬Tk c ss (x:Int))/\∀y,Tk c (Q7 c m ss).2 y↔(∃x∈(Q7 c m ss).1,y=((x:Nat):Int))\/Tk c ss y
 | 0,ss,h=>⟨h,rfl,zC _,zCQ,by simp[Q7],by simp[Q7]⟩
 | m+1,ss,h=>by
  cases ho:oneS c ss with
  | none=>
   have e:Q7 c (m+1) ss=([],ss):=by simp[Q7,ho]
   rw[e];exact⟨h,rfl,by simp,zCQ,by simp,by simp⟩
  | some r=>
   obtain⟨x,p⟩:=r;rw[Ga ho];obtain⟨i,g,A,a⟩:=Win h ho;obtain⟨u,d,B,j,b,w⟩:=GC m i;refine⟨u,d.trans g,by simp;omega,zo.2 ⟨λz=>b x z ((a _).2 (.inl rfl)),j⟩,?_,λy=>?_⟩
   ·intro y hy;rcases zQ.1 hy with rfl|hy
    ·exact A
    ·exact λs=>b y hy ((a _).2 (.inr s))
   ·rw[w,a];simp only[zQ,exists_eq_or_imp];constructor
    ·rintro(h|h|h)
     ·exact .inl (.inr h)
     ·exact .inl (.inl h)
     ·exact .inr h
    ·rintro((h|h)|h)
     ·exact .inr (.inl h)
     ·exact .inl h
     ·exact .inr (.inr h)
theorem Wda:∀(xs:List Int) {ss:List SpA},CenOk c ss->AllT c ss xs->CenOk c (xs.foldl (put1 c) ss)/\(xs.foldl (put1 c) ss).map (·.st)=ss.map (·.st)/\∀y,Tk c (xs.foldl (put1 c) ss) y↔Tk c ss y/\y∉xs
 | [],ss,h,_=>⟨h,rfl,by simp⟩
 | x::xs,ss,h,hA=>by
  have hx:=hA.1 x aA;obtain⟨k,s,i,r,d,j,_⟩:=Waj hx;obtain⟨b,a⟩:=(UJ h.pos).1 j;rw[h.tk s (zE d)]at a;have e:=Wcz r d j;have w:=h.put d false (i:=i);have g:=hA.next h.pos;obtain⟨u,m,p⟩:=Wda xs (ss:=put1 c ss x) (by rw[e];exact w) g;rw[zAI];refine⟨u,m.trans (by rw[e];exact Wbu d false),λy=>?_⟩;rw[p,e,WlM h d a,←b];simp only[zb,and_false,false_or,zQ,not_or];constructor
  ·rintro⟨⟨b,a⟩,h3⟩;exact⟨a,b,h3⟩
  ·rintro⟨a,b,h3⟩;exact⟨⟨b,a⟩,h3⟩
theorem Wjz {s:SpA}(h0:s.many=0)(i:Nat):s.is i=false:=by
 unfold SpA.many at h0;rw[zEY]at h0;unfold SpA.is;rw[zL];cases hi:s.tk[i]? with
 | none=>rfl
 | some b=>
  cases b
  ·rfl
  ·exact absurd (zE hi) h0
theorem CenOk.sweep (h:CenOk c ss):CenOk c (Go.Ar.sweep ss):=⟨h.ok,λs a=>h.tk s (zH.1 a).1,h.far.filter _⟩
theorem WfR (h:CenOk c ss){y:Int}:Tk c (sweep ss) y↔Tk c ss y:=by
 rw[Uc h.sweep,Uc h];constructor
 ·rintro⟨k,s,i,hs,hi,rfl,hb⟩;obtain⟨l,a⟩:=zN (zH.1 (zE hs)).1;exact⟨l,s,i,a,hi,rfl,hb⟩
 ·rintro⟨k,s,i,hs,hi,rfl,hb⟩;have:s∈sweep ss:=zH.2 ⟨zE hs,by
   have:s.many≠0:=λb=>by rw[Wjz b i]at hb;cases hb
   simpa using this⟩
  obtain⟨l,a⟩:=zN this;exact⟨l,s,i,a,hi,rfl,hb⟩
theorem Wa9 {x:Nat}:x∈Z6 ss↔∃s∈ss,s.many=0/\s.st=x:=by
 unfold Z6;simp only[zD,zH,zX,and_assoc]
theorem Wdi (h:CenOk c ss){p:Nat}:Cov c (sweep ss) p↔Cov c ss p/\¬∃x∈Z6 ss,x<=p/\p<x+c.pages:=by
 constructor
 ·rintro⟨s,hs,h1,h2⟩;have a:=zH.1 hs;refine⟨⟨s,a.1,h1,h2⟩,?_⟩;rintro⟨x,hx,h3,h4⟩;obtain⟨t,m,d,rfl⟩:=Wa9.1 hx;obtain⟨i,g⟩:=zN a.1;obtain⟨j,b⟩:=zN m;have e:=h.cov1 g b h1 h2 h3 h4;subst e;rw[g]at b;cases b;simp[d]at a
 ·rintro⟨⟨s,hs,h1,h2⟩,hn⟩;refine⟨s,zH.2 ⟨hs,?_⟩,h1,h2⟩;have:s.many≠0:=λd=>hn ⟨s.st,Wa9.2 ⟨s,hs,d,rfl⟩,h1,h2⟩;simpa using this
theorem Wih (h:CenOk c ss):(Z6 ss).Pairwise λa b=>a+c.pages<=b:=by
 unfold Z6;rw[zCN];exact h.far.filter _
theorem VD {st:Nat}{t:SpA}:t∈addS c ss st↔t=⟨st,List.replicate c.n false⟩\/t∈ss:=by
 unfold addS;rw[zR,zQ];have:t∈ss↔t∈ss.takeWhile (λs=>decide (s.st<st))\/t∈ss.dropWhile (λs=>decide (s.st<st)):=by
  rw[←zR,zGQ]
 rw[this];constructor
 ·rintro(h|h|h)
  ·exact .inr (.inl h)
  ·exact .inl h
  ·exact .inr (.inr h)
 ·rintro(h|h|h)
  ·exact .inr (.inl h)
  ·exact .inl h
  ·exact .inr (.inr h)
theorem WiK (h:CenOk c ss){st:Nat}(hd:∀s∈ss,s.st+c.pages<=st\/st+c.pages<=s.st):CenOk c (addS c ss st):=by
 refine⟨h.ok,λs m=>?_,?_⟩
 ·rcases VD.1 m with rfl|m
  ·simp
  ·exact h.tk s m
 ·have g:=HQ h.srt st;have r:=h.pg;rw[Wax];refine zBT.2 ⟨h.far.sublist (zGL _ _),zAS.2 ⟨λb e=>?_,h.far.sublist (zGN _ _)⟩,λa u b e=>?_⟩
  ·obtain⟨i,d⟩:=zN e;rw[zn]at d;have:=g.2 _ _ d;rcases hd b (zCL e)with h1|h1
   ·omega
   ·exact h1
  ·obtain⟨i,d⟩:=zN u;rw[zY]at d;split at d
   ·rename_i hlt;rcases zQ.1 e with rfl|e
    ·have:=(g.2 _ _ d).2 hlt;rcases hd a (zE d)with h1|h1
     ·exact h1
     ·omega
    ·obtain⟨j,p⟩:=zN e;rw[zn]at p;exact h.dis d p O
   ·cases d
theorem Wiy (h:CenOk c ss){st:Nat}(hd:∀s∈ss,s.st+c.pages<=st\/st+c.pages<=s.st){y:Int}:Tk c (addS c ss st) y↔Tk c ss y:=by
 rw[Uc (WiK h hd),Uc h];constructor
 ·rintro⟨k,s,i,hs,hi,rfl,hb⟩;rcases VD.1 (zE hs)with rfl|hm
  ·have:(⟨st,List.replicate c.n false⟩:SpA).is i=false:=Wjz (by simp[SpA.many,zFM]) i;rw[this]at hb;cases hb
  ·obtain⟨l,a⟩:=zN hm;exact⟨l,s,i,a,hi,rfl,hb⟩
 ·rintro⟨k,s,i,hs,hi,rfl,hb⟩;obtain⟨l,a⟩:=zN (VD.2 (.inr (zE hs)):s∈addS c ss st);exact⟨l,s,i,a,hi,rfl,hb⟩
theorem Wj1 {st:Nat}(hd:∀s∈ss,s.st+c.pages<=st\/st+c.pages<=s.st):GW c ss st=0:=by
 unfold GW;rw[zA];simp only[zy,zS,not_exists,not_and];intro s hs hlt;rcases hd s hs with h|h<;>omega
end Go.Ar
namespace Go.Ar
open Go.Bu (Zf QM runS Zu Wbq allF Vk V9 give take Kh Ke Bounded)
def gf (st:List Nat)(p:Nat):Nat:=st.getD p 0
def AR.f (A:AR)(p:Nat):Nat:=gf A.st p
def inR (rs:List (Nat×Nat))(p:Nat):Prop:=∃r∈rs,r.1<=p/\p<r.1+r.2
theorem WoL {st:List Nat}{p:Nat}(h:gf st p≠0):p<st.length:=by
 apply Classical.byContradiction;intro hn;exact h (by unfold gf;rw[zL,zZ O];rfl)
theorem HA {st:List Nat}{a b v p:Nat}(hb:b<=st.length):gf (setR st a b v) p=if a<=p/\p<b then v else gf st p:=by
 unfold gf;rw[zL,zL,HO];by_cases hp:p<st.length
 ·rw[gGe hp];simp only[zf,zBU]
 ·rw[zZ O,zA O];rfl
theorem Vb {n a m:Nat}:Zf n (a:Int) (m:Int)=true↔1<=m/\a+m<=n:=by
 simp only[Zf,zF,zS];omega
theorem WdB {st:List Nat}{a m:Nat}{fr:List Nat}(hl:a+m<=st.length):WgK st a m fr=true↔∀p,a<=p->p<a+m->gf st p∈fr:=by
 unfold WgK;rw[zAB];constructor
 ·intro h p h1 h2;have d:p<st.length:=by omega
  have:st[p]∈(st.drop a).take m:=by
   refine zE (i:=p-a) ?_;rw[zY,zB O,zn,show a+(p-a)=p by omega,gGe d]
  have:=h _ this;unfold gf;rw[zL,gGe d];simpa using this
 ·intro h x hx;obtain⟨i,b⟩:=zN hx;rw[zY]at b;split at b
  ·rename_i hlt;rw[zn]at b;have:=h (a+i) O O;unfold gf at this;rw[zL,b]at this;simpa using this
  ·cases b
theorem WcW {st:List Nat}{a m v:Nat}{fr:List Nat}(h1:1<=m)(hl:a+m<=st.length)(h:∀p,a<=p->p<a+m->gf st p∈fr):VM st (a:Int) (m:Int) v fr=setR st a (a+m) v:=by
 unfold VM GT;rw[zB (Vb.2 ⟨h1,hl⟩),iTn,iTn,(WdB hl).2 h];rfl
theorem Wiz {st:List Nat}{a m v:Nat}(hl:a+m<=st.length):Wlr st a m v=false↔∀p,a<=p->p<a+m->gf st p≠v:=by
 have:=WdB (fr:=[v]) hl;unfold Wlr;constructor
 ·intro h p h1 h2 e;have g:p<st.length:=by omega
  have d:st[p]∈(st.drop a).take m:=by
   refine zE (i:=p-a) ?_;rw[zY,zB O,zn,show a+(p-a)=p by omega,gGe g]
  have j:st[p]=v:=by
   unfold gf at e;rw[zL,gGe g]at e;exact e
  rw[j]at d;rw[zDC.2 d]at h;cases h
 ·intro h;apply zAU.2;intro hc;obtain⟨i,b⟩:=zN (zDC.1 hc);rw[zY]at b;split at b
  ·rename_i hlt;rw[zn]at b;refine h (a+i) O O ?_;unfold gf;rw[zL,b];rfl
  ·cases b
structure PG (A:AR):Prop where
 len:A.st.length=A.n
 n1:32<=A.n
 n2:A.n<=1024
 n16:A.n%16=0
 le:∀p,A.f p<=3
 us:∀p,A.f p=1↔A.ow p≠0
 fr:∀p,A.S p=true↔2<=A.f p
 hp:∀p,A.f p=0↔A.f (p/16*16)=0
theorem PG.lt {A:AR}(h:PG A){p:Nat}(hp:A.f p≠0):p<A.n:=h.len▸WoL hp
theorem PG.bnd {A:AR}(h:PG A):Bounded A.S A.n:=λp a=>h.lt (by have:=(h.fr p).1 a;omega)
theorem PG.hp2 {A:AR}(h:PG A){p q:Nat}(e:p/16=q/16):A.f p=0↔A.f q=0:=by rw[h.hp p,h.hp q,e]
theorem PG.same {A B:AR}(h:PG A)(e1:B.n=A.n)(e2:B.st=A.st)(e3:B.S=A.S)(e4:B.ow=A.ow):PG B:=by
 have a:∀p,B.f p=A.f p:=λp=>by unfold AR.f;rw[e2]
 exact⟨by rw[e2,e1];exact h.len,by rw[e1];exact h.n1,by rw[e1];exact h.n2,by rw[e1];exact h.n16,λp=>by rw[a];exact h.le p,λp=>by rw[a,e4];exact h.us p,λp=>by rw[a,e3];exact h.fr p,λp=>by rw[a,a];exact h.hp p⟩
theorem WjA {ow:Nat->Nat}{a m no:Nat}(h1:1<=m)(h2:a+m<=1024)(p:Nat):setO ow a m no p=if a<=p/\p<a+m then no else ow p:=by
 unfold setO;rw[zB (Vb.2 ⟨h1,h2⟩)]
theorem WfO {n:Nat}{S:Nat->Bool}{a m:Nat}(h1:1<=m)(h2:a+m<=n)(h:∀p,a<=p->p<a+m->S p=false):QM n S (a:Int) (m:Int)=give S a (a+m):=by
 unfold QM;rw[Vb.2 ⟨h1,h2⟩,iTn,iTn,Vk.2 h];rfl
theorem Wm0 {n:Nat}{S:Nat->Bool}{a m:Nat}(h1:1<=m)(h2:a+m<=n)(h:∀p,a<=p->p<a+m->S p=true):runS n S (a:Int) (m:Int)=take S a (a+m):=by
 unfold runS;rw[Vb.2 ⟨h1,h2⟩,iTn,iTn,V9.2 h];rfl
structure Out (A B:AR) (a b:Nat):Prop where
 n:B.n=A.n
 len:B.st.length=A.st.length
 f:∀p,¬(a<=p/\p<b)->B.f p=A.f p
 ow:∀p,¬(a<=p/\p<b)->B.ow p=A.ow p
 S:∀p,¬(a<=p/\p<b)->B.S p=A.S p
theorem Out.pg {A B:AR}{a b v:Nat}(o:Out A B a b)(h:PG A)(hv:v<=3)(hf:∀p,a<=p->p<b->B.f p=v)(hw:∀p,a<=p->p<b->(v=1↔B.ow p≠0))(hS:∀p,a<=p->p<b->(B.S p=true↔2<=v))
 (hz:∀p,B.f p=0↔B.f (p/16*16)=0):PG B:=by
 refine⟨by rw[o.len,o.n];exact h.len,by rw[o.n];exact h.n1,by rw[o.n];exact h.n2,by rw[o.n];exact h.n16,λp=>?_,λp=>?_,λp=>?_,hz⟩
 ·by_cases hp:a<=p/\p<b
  ·rw[hf p hp.1 hp.2];exact hv
  ·rw[o.f p hp];exact h.le p
 ·by_cases hp:a<=p/\p<b
  ·rw[hf p hp.1 hp.2];exact hw p hp.1 hp.2
  ·rw[o.f p hp,o.ow p hp];exact h.us p
 ·by_cases hp:a<=p/\p<b
  ·rw[hf p hp.1 hp.2];exact hS p hp.1 hp.2
  ·rw[o.f p hp,o.S p hp];exact h.fr p
theorem Out.zero {A B:AR}{a b v:Nat}(o:Out A B a b)(h:PG A)(hf:∀p,a<=p->p<b->B.f p=v)(hv:v≠0)(hA:∀p,a<=p->p<b->A.f p≠0):∀p,B.f p=0↔A.f p=0:=by
 intro p;by_cases hp:a<=p/\p<b
 ·rw[hf p hp.1 hp.2];exact⟨λe=>(hv e).elim,λe=>(hA p hp.1 hp.2 e).elim⟩
 ·rw[o.f p hp]
theorem Wnk {A B:AR}(h:PG A)(e:∀p,B.f p=0↔A.f p=0):∀p,B.f p=0↔B.f (p/16*16)=0:=λp=>by rw[e,e];exact h.hp p
theorem WfS {A:AR}(h:PG A){a m:Nat}(h1:1<=m)(hu:∀p,a<=p->p<a+m->A.f p=1):Out A (VY A (a,m)) a (a+m)/\(∀p,a<=p->p<a+m->(VY A (a,m)).f p=2/\(VY A (a,m)).ow p=0)/\PG (VY A (a,m))/\∀p,(VY A (a,m)).f p=0↔A.f p=0:=by
 have g:a+m<=A.n:=by have:=h.lt (p:=a+m-1) (by rw[hu _ O O];omega);omega
 have y:=h.n2;have w:(VY A (a,m)).st=setR A.st a (a+m) 2:=WcW h1 (by rw[h.len];exact g) λp d b=>by
  have:=hu p d b;unfold AR.f at this;rw[this];simp
 have u:(VY A (a,m)).S=give A.S a (a+m):=WfO h1 g λp d b=>by
  apply zAU.2;intro hS;have:=(h.fr p).1 hS;have:=hu p d b;omega
 have x:∀p,(VY A (a,m)).ow p=if a<=p/\p<a+m then 0 else A.ow p:=λp=>WjA h1 O p
 have s:∀p,(VY A (a,m)).f p=if a<=p/\p<a+m then 2 else A.f p:=λp=>by unfold AR.f;rw[w,HA (by rw[h.len];exact g)]
 have o:Out A (VY A (a,m)) a (a+m):=⟨rfl,by rw[w,Qj],λp e=>by rw[s,zA e],λp e=>by rw[x,zA e],λp e=>by
  rw[u];unfold give;have:(decide (a<=p)&&decide (p<a+m))=false:=by simp;omega
  rw[this,Bool.or_false]⟩
 have i:∀p,a<=p->p<a+m->(VY A (a,m)).f p=2:=λp d b=>by rw[s,zB ⟨d,b⟩]
 have r:∀p,a<=p->p<a+m->(VY A (a,m)).ow p=0:=λp d b=>by rw[x,zB ⟨d,b⟩]
 have j:=o.zero h i O λp d b=>by rw[hu p d b];omega
 refine⟨o,λp d b=>⟨i p d b,r p d b⟩,o.pg h O i (λp d b=>by rw[r p d b];simp) (λp d b=>?_) (Wnk h j),j⟩;rw[u,Kh];exact⟨λ_=>zC _,λ_=>.inr ⟨d,b⟩⟩
structure Backd (A B:AR) (rs:List (Nat×Nat)):Prop where
 pg:PG B
 n:B.n=A.n
 tb:B.tb=A.tb
 room:B.room=A.room
 tra:B.tra=A.tra
 cen:B.cen=A.cen
 runs:B.runs=A.runs
 i:∀p,inR rs p->B.f p=2/\B.ow p=0
 o:∀p,¬inR rs p->B.f p=A.f p/\B.ow p=A.ow p
 z:∀p,B.f p=0↔A.f p=0
theorem WfM:∀(rs:List (Nat×Nat)) {A:AR},PG A->(∀r∈rs,1<=r.2)->(∀r∈rs,∀p,r.1<=p->p<r.1+r.2->A.f p=1)->rs.Pairwise (λa b=>a.1+a.2<=b.1\/b.1+b.2<=a.1)->Backd A (VO A rs) rs
 | [],A,h,_,_,_=>⟨h,rfl,rfl,rfl,rfl,rfl,rfl,λp ⟨r,hr,_⟩=>by simp at hr,λp _=>⟨rfl,rfl⟩,λp=>Iff.rfl⟩
 | (a,m)::rs,A,h,hp,hu,hd=>by
  have hd':=zAS.1 hd;obtain⟨o,B,w,C⟩:=WfS h (hp _ (zAN ..)) (hu _ (zAN ..));have d:=WfM rs w (λr hr=>hp r (zAJ _ hr)) (λr hr p u s=>by
   have:=hd'.1 r hr;simp only at this;rw[o.f p O];exact hu r (zAJ _ hr) p u s) hd'.2
  have e:VO A ((a,m)::rs)=VO (VY A (a,m)) rs:=rfl;rw[e];refine⟨d.pg,d.n,d.tb,d.room,d.tra,d.cen,d.runs,λp g=>?_,λp g=>?_,λp=>(d.z p).trans (C p)⟩
  ·by_cases j:inR rs p
   ·exact d.i p j
   ·have:=d.o p j;obtain⟨r,hr,u,s⟩:=g;rcases zQ.1 hr with rfl|hr
    ·rw[this.1,this.2];exact B p u s
    ·exact(j ⟨r,hr,u,s⟩).elim
  ·have j:¬inR rs p:=λ⟨r,hr,x⟩=>g ⟨r,zAJ _ hr,x⟩;have y:¬(a<=p/\p<a+m):=λx=>g ⟨(a,m),zAN ..,x⟩;have:=d.o p j;exact⟨this.1.trans (o.f p y),this.2.trans (o.ow p y)⟩
theorem We2 {A:AR}(h:PG A){a m no:Nat}(h1:1<=m)(hn:no≠0)(hS:∀p,a<=p->p<a+m->A.S p=true):Out A (useA A a m no) a (a+m)/\(∀p,a<=p->p<a+m->(useA A a m no).f p=1/\(useA A a m no).ow p=no)/\PG (useA A a m no)/\∀p,(useA A a m no).f p=0↔A.f p=0:=by
 have g:∀p,a<=p->p<a+m->2<=A.f p:=λp d b=>(h.fr p).1 (hS p d b);have r:a+m<=A.n:=by have:=h.lt (p:=a+m-1) (by have:=g (a+m-1) O O;omega);omega
 have y:=h.n2;have w:(useA A a m no).st=setR A.st a (a+m) 1:=WcW h1 (by rw[h.len];exact r) λp d b=>by
  have z:=g p d b;have B:=h.le p;unfold AR.f at z B;have:gf A.st p=2\/gf A.st p=3:=by omega
  simpa using this
 have x:∀p,(useA A a m no).ow p=if a<=p/\p<a+m then no else A.ow p:=λp=>WjA h1 O p
 have s:∀p,(useA A a m no).f p=if a<=p/\p<a+m then 1 else A.f p:=λp=>by unfold AR.f;rw[w,HA (by rw[h.len];exact r)]
 have o:Out A (useA A a m no) a (a+m):=⟨rfl,by rw[w,Qj],λp e=>by rw[s,zA e],λp e=>by rw[x,zA e],λp e=>by
  show take A.S a (a+m) p=A.S p;unfold take;have:(decide (a<=p)&&decide (p<a+m))=false:=by simp;omega
  rw[this];simp⟩
 have i:∀p,a<=p->p<a+m->(useA A a m no).f p=1:=λp d b=>by rw[s,zB ⟨d,b⟩]
 have u:∀p,a<=p->p<a+m->(useA A a m no).ow p=no:=λp d b=>by rw[x,zB ⟨d,b⟩]
 have j:=o.zero h i O λp d b=>by have:=g p d b;omega
 refine⟨o,λp d b=>⟨i p d b,u p d b⟩,o.pg h O i (λp d b=>by rw[u p d b];simp[hn]) (λp d b=>?_) (Wnk h j),j⟩;show take A.S a (a+m) p=true↔_;rw[Ke];constructor
 ·rintro⟨_,hx⟩;exact(hx ⟨d,b⟩).elim
 ·intro hx;omega
theorem Wh3:∀(m:Nat) {st:List Nat} {a:Nat},(a+m)*16<=st.length->(∀p,a*16<=p->p<(a+m)*16->gf st p=0)->(UO st a m).length=st.length/\∀p,gf (UO st a m) p=if a*16<=p/\p<(a+m)*16 then 3 else gf st p
 | 0,st,a,hl,hz=>⟨rfl,λp=>by rw[zA O];rfl⟩
 | m+1,st,a,hl,hz=>by
  obtain⟨i1,i2⟩:=Wh3 m (st:=st) (a:=a) O λp d g=>hz p d O;rw[WbV];have b:gf (UO st a m) (16*(a+m))=0:=by rw[i2,zA O];exact hz _ O O
  have ok:addE (UO st a m) ((a+m:Nat):Int)=0:=by
   unfold addE;rw[UI (by rw[i1];omega),zB rfl,iTn];unfold gf at b;rw[zB b]
  have e:addT (UO st a m) ((a+m:Nat):Int)=setR (UO st a m) (16*(a+m)) (16*(a+m)+16) 3:=by
   unfold addT;rw[zB ok,iTn]
  rw[e];refine⟨by rw[Qj,i1],λp=>?_⟩;rw[HA (by rw[i1];omega),i2];by_cases h1:16*(a+m)<=p/\p<16*(a+m)+16
  ·rw[zB h1,zB O]
  ·rw[zA h1];by_cases h2:a*16<=p/\p<(a+m)*16
   ·rw[zB h2,zB O]
   ·rw[zA h2,zA O]
theorem WaL {sp:Sp}{s m:Nat}(h:mapE sp (s:Int) (m:Int)=0):1<=m/\s+m<=sp.st.length/\∀p,s<=p->p<s+m->gf sp.st p=0:=by
 unfold mapE at h;split at h
 ·rename_i hr;obtain⟨e,d⟩:=Vb.1 hr;rw[iTn,iTn]at h;split at h
  ·cases h
  ·rename_i hn;refine⟨e,d,λp j g=>?_⟩;have a:p<sp.st.length:=by omega
   have b:sp.st[p]∈(sp.st.drop s).take m:=by
    refine zE (i:=p-s) ?_;rw[zY,zB O,zn,show s+(p-s)=p by omega,gGe a]
   simp only[zy,not_exists,not_and]at hn;have:=hn _ b;unfold gf;rw[zL,gGe a];simpa using this
 ·cases h
structure Grown (A B:AR) (sp sp':Sp) (s size:Nat):Prop where
 pg:PG B
 n:B.n=A.n
 tb:B.tb=A.tb
 room:B.room=A.room
 tra:B.tra=A.tra
 cen:B.cen=A.cen
 runs:B.runs=A.runs
 ow:B.ow=A.ow
 s16:s%16=0
 s1:16<=s
 sl:s+size<=A.n
 un:∀p,s<=p->p<s+size->gf sp.st p=0
 i:∀p,s<=p->p<s+size->B.f p=3/\gf sp'.st p=1
 o:∀p,¬(s<=p/\p<s+size)->B.f p=A.f p/\gf sp'.st p=gf sp.st p
 w:∀x,¬(s*32<=x/\x<(s+size)*32)->sp'.wd x=sp.wd x
 l:sp'.st.length=sp.st.length
 pk:sp'.pk=sp.pk
theorem US {sp:Sp}{size s:Nat}(h1:1<=size)(h:growStart sp size=some s):mapE sp (s:Int) (size:Int)=0/\s≠0/\(∃j,s=j*size)/\∀j,j*size<s->1<=j->mapE sp ((j*size:Nat):Int) (size:Int)≠0:=by
 unfold growStart at h;obtain⟨p,us,vs,u,z⟩:=List.find?_eq_some_iff_append.1 h;simp only[zF,bne_iff_ne,ne_eq,zX]at p;have e:s∈(List.range (sp.st.length/size)).map (· * size):=by rw[u];simp
 obtain⟨j,x,rfl⟩:=zD.1 e;rw[zV]at x;refine⟨p.2,p.1,⟨j,rfl⟩,λi w A=>?_⟩;have y:i<j:=Nat.lt_of_mul_lt_mul_right w;have:i*size∈us:=by
  have g:i*size∈(List.range (sp.st.length/size)).map (· * size):=zD.2 ⟨i,zV.2 O,rfl⟩;have d:((List.range (sp.st.length/size)).map (· * size)).Pairwise (· < ·):=by
   rw[zCN];exact List.pairwise_lt_range.imp λ{a b} r=>Nat.mul_lt_mul_of_pos_right r O
  rw[u]at g d;rcases zR.1 g with h|h
  ·exact h
  ·rcases zQ.1 h with h|h
   ·have:=zEP O h;omega
   ·have:=(zAS.1 (zBT.1 d).2.1).1 _ h;omega
 have:=z _ this;have m:i*size≠0:=by
  have:=Nat.mul_pos (show 0<i by omega) (show 0<size by omega);omega
 simpa[m]using this
theorem Wjb {sp:Sp}{s m:Nat}(h:mapE sp (s:Int) (m:Int)=0):(mapS sp (s:Int) (m:Int)).st.length=sp.st.length/\(∀p,gf (mapS sp (s:Int) (m:Int)).st p=if s<=p/\p<s+m then 1 else gf sp.st p)/\(∀x,¬(s*32<=x/\x<(s+m)*32)->(mapS sp (s:Int) (m:Int)).wd x=sp.wd x)/\(mapS sp (s:Int) (m:Int)).pk=sp.pk:=by
 obtain⟨d,a,_⟩:=WaL h;unfold mapS;rw[zB h,iTn,iTn];refine⟨by simp[Sp.set,Qj],λp=>HA a,λx b=>?_,rfl⟩;show(if s*32<=x/\x<(s+m)*32 then 0 else sp.wd x)=_
 rw[zA b]
theorem Wj0 {A:AR}{sp:Sp}(h:PG A)(hl:sp.st.length=A.n)(hz:∀p,gf sp.st p=0->A.f p=0){size:Nat}(hs:size=16\/size=32\/size=64){B:AR}{sp':Sp}(hg:UQ A sp size=some (B,sp')) :
 ∃s,growStart sp size=some s/\Grown A B sp sp' s size:=by
 unfold UQ at hg;split at hg
 ·cases hg
 ·rename_i s hgs;cases hg;obtain⟨x,L,⟨j,M⟩,_⟩:=US O hgs;obtain⟨K,E,y⟩:=WaL x;have u:s%16=0:=by rcases hs with rfl|rfl|rfl<;>omega
  have z:size%16=0:=by rcases hs with rfl|rfl|rfl<;>omega
  have D:s/16*16=s:=by omega
  have r:(s/16+size/16)*16=s+size:=by omega
  have e:∀p,s<=p->p<s+size->A.f p=0:=λp d b=>hz p (y p d b);obtain⟨G,g⟩:=Wh3 (size/16) (st:=A.st) (a:=s/16) (by rw[r,h.len,←hl];exact E) (by rw[D,r];exact e);rw[D,r]at g;obtain⟨H,C,J,F⟩:=Wjb x;have i:s+size<=A.n:=by rw[←hl];exact E
  have w:QM A.n A.S (s:Int) (size:Int)=give A.S s (s+size):=WfO K i λp d b=>by
   apply zAU.2;intro hS;have:=(h.fr p).1 hS;have:=e p d b;omega
  refine⟨s,hgs,⟨?_,rfl,rfl,rfl,rfl,rfl,rfl,rfl,u,O,i,y,λp d b=>⟨?_,?_⟩,λp hp=>⟨?_,?_⟩,J,H,F⟩⟩
  ·have o:Out A {A with st:=UO A.st (s/16) (size/16),S:=QM A.n A.S (s:Int) (size:Int)} s (s+size):=⟨rfl,G,λp hp=>by show gf _ p=_;rw[g,zA hp];rfl,λp hp=>rfl,λp hp=>by
    show QM A.n A.S (s:Int) (size:Int) p=A.S p;rw[w];unfold give;have:(decide (s<=p)&&decide (p<s+size))=false:=by simp;omega
    rw[this,Bool.or_false]⟩
   have m:∀p,s<=p->p<s+size->AR.f {A with st:=UO A.st (s/16) (size/16),S:=QM A.n A.S (s:Int) (size:Int)} p=3:=λp d b=>by show gf _ p=3;rw[g,zB ⟨d,b⟩]
   refine o.pg h (zC _) m (λp d b=>?_) (λp d b=>?_) λp=>?_
   ·have L:=e p d b;have:=h.us p;constructor
    ·intro hx;omega
    ·intro hx;have:=this.2 hx;omega
   ·show QM A.n A.S (s:Int) (size:Int) p=true↔_;rw[w,Kh];exact⟨λ_=>O,λ_=>.inr ⟨d,b⟩⟩
   ·by_cases hp:s<=p/\p<s+size
    ·rw[m p hp.1 hp.2,m (p/16*16) O O]
    ·rw[o.f p hp,o.f (p/16*16) O];exact h.hp p
  ·show gf (UO A.st (s/16) (size/16)) p=3;rw[g,zB ⟨d,b⟩]
  ·rw[C,zB ⟨d,b⟩]
  ·show gf (UO A.st (s/16) (size/16)) p=A.f p;rw[g,zA hp];rfl
  ·rw[C,zA hp]
end Go.Ar
namespace Go.Ar
open Go.Bu (Zf QM runS Zu Wbq allF Vk V9 give take Kh Ke Bounded full can YP VS ZL QT ZQ Kf QR Qb)
def Cl (A:AR)(k:Nat)(c:Cls)(ss:List SpA):Prop:=A.tb[k]?=some c/\A.cen[k]?=some ss
def TkA (A:AR)(k:Nat)(x:Int):Prop:=∃c ss,Cl A k c ss/\Tk c ss x
def InT (A:AR)(k:Nat)(x:Int):Prop:=∃t,A.tra[k]?=some t/\x∈t.bs.flatten
structure GA (A:AR):Prop where
 pg:PG A
 tb:A.tb.length<=40
 lc:A.cen.length=A.tb.length
 lt:A.tra.length=A.tb.length
 cen:∀k c ss,Cl A k c ss->CenOk c ss
 one:∀k c ss,Cl A k c ss->∀s∈ss,s.st/16=(s.st+c.pages-1)/16
 ow:∀k c ss,Cl A k c ss->∀p,A.ow p=k+1↔Cov c ss p
 ow41:∀p,A.ow p=41↔inR A.runs p
 owb:∀p,A.ow p=41\/A.ow p<=A.tb.length
 rpos:∀r∈A.runs,1<=r.2
 rdis:A.runs.Pairwise λa b=>a.1+a.2<=b.1\/b.1+b.2<=a.1
 trn:∀(k:Nat) (t:TrA),A.tra[k]?=some t->t.bs.flatten.Nodup
 trt:∀(k:Nat) c ss (t:TrA),Cl A k c ss->A.tra[k]?=some t->∀x∈t.bs.flatten,Tk c ss x
 trb:∀(k:Nat) (c:Cls) (t:TrA),A.tb[k]?=some c->A.tra[k]?=some t->∀xs∈t.bs,xs.length=c.batch
structure Kp (A B:AR):Prop where
 n:B.n=A.n
 tb:B.tb=A.tb
 room:B.room=A.room
 z:∀p,B.f p=0↔A.f p=0
 t:∀p,B.f p=3->A.f p=3
theorem Kp.refl (A:AR):Kp A A:=⟨rfl,rfl,rfl,λ_=>Iff.rfl,λ_=>id⟩
theorem Kp.trans {A B C:AR}(h:Kp A B)(k:Kp B C):Kp A C:=⟨k.n.trans h.n,k.tb.trans h.tb,k.room.trans h.room,λp=>(k.z p).trans (h.z p),λp a=>h.t p (k.t p a)⟩
theorem Kp.pages {A B:AR}(e1:B.n=A.n)(e2:B.tb=A.tb)(e3:B.room=A.room)(e4:B.st=A.st):Kp A B:=⟨e1,e2,e3,λp=>by unfold AR.f;rw[e4],λp=>by unfold AR.f;rw[e4];exact id⟩
variable {A:AR}{k:Nat}{c:Cls}{ss:List SpA}
theorem Cl.lt (h:Cl A k c ss):k<A.tb.length:=(gSi.1 h.1).1
theorem Cl.eq {c':Cls}{ss':List SpA}(h:Cl A k c ss)(h':Cl A k c' ss'):c=c'/\ss=ss':=⟨Option.some.inj (h.1.symm.trans h'.1),Option.some.inj (h.2.symm.trans h'.2)⟩
theorem GA.cl (h:GA A){k:Nat}(hk:k<A.tb.length):∃c ss t,Cl A k c ss/\A.tra[k]?=some t:=by
 have a:=h.lc;have b:=h.lt;exact⟨A.tb[k],A.cen[k],A.tra[k],⟨by simp,by simp⟩,by simp⟩
theorem GA.used (h:GA A)(hk:Cl A k c ss){s:SpA}(hs:s∈ss){p:Nat}(h1:s.st<=p)(h2:p<s.st+c.pages):A.f p=1/\A.ow p=k+1:=by
 have:=(h.ow k c ss hk p).2 ⟨s,hs,h1,h2⟩;exact⟨(h.pg.us p).2 O,this⟩
theorem GA.usedR (h:GA A){r:Nat×Nat}(hr:r∈A.runs){p:Nat}(h1:r.1<=p)(h2:p<r.1+r.2):A.f p=1/\A.ow p=41:=by
 have:=(h.ow41 p).2 ⟨r,hr,h1,h2⟩;exact⟨(h.pg.us p).2 O,this⟩
theorem GA.runs_uniq (h:GA A){r s:Nat×Nat}(hr:r∈A.runs)(hs:s∈A.runs){x:Nat}(h1:r.1<=x)(h2:x<r.1+r.2)(h3:s.1<=x)(h4:x<s.1+s.2):r=s:=by
 obtain⟨i,d⟩:=zN hr;obtain⟨j,e⟩:=zN hs;obtain⟨b,rfl⟩:=gSi.1 d;obtain⟨a,rfl⟩:=gSi.1 e;rcases zCA i j with hl|hl|hl
 ·have:=zAE.1 h.rdis i j b a hl;omega
 ·subst hl;rfl
 ·have:=zAE.1 h.rdis j i a b hl;omega
theorem GA.fit (h:GA A){r:Nat×Nat}(hr:r∈A.runs):r.1+r.2<=A.n:=by
 have:=h.rpos r hr;have:=h.pg.lt (p:=r.1+r.2-1) (by rw[(h.usedR hr (p:=r.1+r.2-1) O O).1];omega);omega
theorem GA.runsOk (h:GA A):RunsOk A:=by
 have w:=h.pg.n2;refine⟨λr b s m x g d p i=>h.runs_uniq b m g d p i,λx j a=>?_,λx j u a=>?_,λr b=>?_⟩
 ·obtain⟨r,b,g,d⟩:=(h.ow41 x).1 a;unfold Wdc;rw[zGO];exact⟨r,b,by simp[g,d]⟩
 ·rcases h.owb x with e|e
  ·exact(a e).elim
  ·exact e
 ·have:=h.fit b;omega
theorem Ug (hk:Cl A k c ss){ss':List SpA}{j:Nat}{d:Cls}{tt:List SpA}(h:Cl {A with cen:=A.cen.set k ss'} j d tt):(j=k/\d=c/\tt=ss')\/(j≠k/\Cl A j d tt):=by
 obtain⟨b,a⟩:=h;by_cases hjk:j=k
 ·subst hjk;have e:=(gSi.1 hk.2).1;simp only[zM e]at a;exact .inl ⟨rfl,Option.some.inj (b.symm.trans hk.1),(Option.some.inj a).symm⟩
 ·simp only[zh (Ne.symm hjk)]at a;exact .inr ⟨hjk,b,a⟩
theorem U4 (hk:Cl A k c ss)(ss':List SpA):Cl {A with cen:=A.cen.set k ss'} k c ss':=⟨hk.1,zM (gSi.1 hk.2).1⟩
theorem Wij {ss':List SpA}{j:Nat}{d:Cls}{tt:List SpA}(hjk:j≠k)(h:Cl A j d tt):Cl {A with cen:=A.cen.set k ss'} j d tt:=⟨h.1,(zh (Ne.symm hjk)).trans h.2⟩
theorem GA.setCen (h:GA A)(hk:Cl A k c ss){ss':List SpA}(hC:CenOk c ss')(hst:ss'.map (·.st)=ss.map (·.st))(ht:∀t,A.tra[k]?=some t->∀x∈t.bs.flatten,Tk c ss' x):GA {A with cen:=A.cen.set k ss'}:=by
 refine⟨h.pg.same rfl rfl rfl rfl,h.tb,by simp[h.lc],h.lt,λj d b a=>?_,λj d b a s i=>?_,λj d b a p=>?_,h.ow41,h.owb,h.rpos,h.rdis,h.trn,λj d b t a g=>?_,h.trb⟩
 ·rcases Ug hk a with⟨rfl,rfl,rfl⟩|⟨hne,a⟩
  ·exact hC
  ·exact h.cen j d b a
 ·rcases Ug hk a with⟨rfl,rfl,rfl⟩|⟨hne,a⟩
  ·have:s.st∈ss.map (·.st):=by rw[←hst];exact zD.2 ⟨s,i,rfl⟩
   obtain⟨t,ht,e⟩:=zD.1 this;rw[←e];exact h.one _ _ _ hk t ht
  ·exact h.one j d b a s i
 ·rcases Ug hk a with⟨rfl,rfl,rfl⟩|⟨hne,a⟩
  ·rw[WoU hst];exact h.ow _ _ _ hk p
  ·exact h.ow j d b a p
 ·rcases Ug hk a with⟨rfl,rfl,rfl⟩|⟨hne,a⟩
  ·exact ht t g
  ·exact h.trt j d b t a g
theorem Wcb (hk:Cl A k c ss){ss':List SpA}{j:Nat}{x:Int}:TkA {A with cen:=A.cen.set k ss'} j x↔(j=k/\Tk c ss' x)\/(j≠k/\TkA A j x):=by
 constructor
 ·rintro⟨d,tt,hj,hx⟩;rcases Ug hk hj with⟨rfl,rfl,rfl⟩|⟨hne,hj⟩
  ·exact .inl ⟨rfl,hx⟩
  ·exact .inr ⟨hne,d,tt,hj,hx⟩
 ·rintro(⟨rfl,hx⟩|⟨hne,d,tt,hj,hx⟩)
  ·exact⟨c,ss',U4 hk ss',hx⟩
  ·exact⟨d,tt,Wij hne hj,hx⟩
theorem KQ (hk:Cl A k c ss){x:Int}:TkA A k x↔Tk c ss x:=by
 constructor
 ·rintro⟨d,tt,hj,hx⟩;obtain⟨rfl,rfl⟩:=hk.eq hj;exact hx
 ·intro hx;exact⟨c,ss,hk,hx⟩
def swp (A:AR)(k:Nat)(c:Cls)(ss:List SpA):AR:=VO {A with cen:=A.cen.set k (sweep ss)} ((Z6 ss).map λs=>(s,c.pages))
theorem WaA {p:Nat}:inR ((Z6 ss).map λs=>(s,c.pages)) p↔∃x∈Z6 ss,x<=p/\p<x+c.pages:=by
 unfold inR;simp only[zD];constructor
 ·rintro⟨_,⟨x,hx,rfl⟩,h⟩;exact⟨x,hx,h⟩
 ·rintro⟨x,hx,h⟩;exact⟨_,⟨x,hx,rfl⟩,h⟩
theorem GA.swept_used (h:GA A)(hk:Cl A k c ss){x:Nat}(hx:x∈Z6 ss){p:Nat}(h1:x<=p)(h2:p<x+c.pages):A.f p=1/\A.ow p=k+1:=by
 obtain⟨s,a,_,rfl⟩:=Wa9.1 hx;exact h.used hk a h1 h2
theorem GA.swpB (h:GA A)(hk:Cl A k c ss):Backd {A with cen:=A.cen.set k (sweep ss)} (swp A k c ss) ((Z6 ss).map λs=>(s,c.pages)):=by
 have g:=h.cen k c ss hk;refine WfM _ (h.pg.same rfl rfl rfl rfl) (λr d=>?_) (λr d p j i=>?_) ?_
 ·obtain⟨x,_,rfl⟩:=zD.1 d;exact g.pg
 ·obtain⟨x,m,rfl⟩:=zD.1 d;exact(h.swept_used hk m j i).1
 ·rw[zCN];exact(Wih g).imp λ{a b} e=>.inl e
theorem GA.swp (h:GA A)(hk:Cl A k c ss):GA (Go.Ar.swp A k c ss):=by
 have b:=h.swpB hk;have w:=h.cen k c ss hk;have z:=hk.lt;have B:=h.tb;have cl:∀{j d m},Cl (Go.Ar.swp A k c ss) j d m->(j=k/\d=c/\m=sweep ss)\/(j≠k/\Cl A j d m):=λ{j d m} a=>Ug hk ⟨by rw[←b.tb];exact a.1,by rw[←b.cen];exact a.2⟩;have own:∀p,inR ((Z6 ss).map λs=>(s,c.pages)) p->A.ow p=k+1:=λp g=>by
  obtain⟨x,u,F,E⟩:=WaA.1 g;exact(h.swept_used hk u F E).2
 have tra:(Go.Ar.swp A k c ss).tra=A.tra:=b.tra;have tb:(Go.Ar.swp A k c ss).tb=A.tb:=b.tb;have runs:(Go.Ar.swp A k c ss).runs=A.runs:=b.runs;refine⟨b.pg,by rw[tb];exact h.tb,by rw[b.cen,tb];simp[h.lc],by rw[tra,tb];exact h.lt,λj d m a=>?_,λj d m a s y=>?_,λj d m a p=>?_,λp=>?_,λp=>?_,by rw[runs];exact h.rpos,by rw[runs];exact h.rdis,by rw[tra];exact h.trn,λj d m t a r=>?_,by rw[tra,tb];exact h.trb⟩
 ·rcases cl a with⟨rfl,rfl,rfl⟩|⟨hne,a⟩
  ·exact w.sweep
  ·exact h.cen j d m a
 ·rcases cl a with⟨rfl,rfl,rfl⟩|⟨hne,a⟩
  ·exact h.one _ _ _ hk s (zH.1 y).1
  ·exact h.one j d m a s y
 ·by_cases g:inR ((Z6 ss).map λs=>(s,c.pages)) p
  ·rw[(b.i p g).2];have C:=own p g;rcases cl a with⟨rfl,rfl,rfl⟩|⟨hne,a⟩
   ·rw[Wdi w];constructor
    ·intro e;omega
    ·rintro⟨_,hn⟩;exact(hn (WaA.1 g)).elim
   ·rw[←h.ow j d m a p,C];omega
  ·rw[(b.o p g).2];rcases cl a with⟨rfl,rfl,rfl⟩|⟨hne,a⟩
   ·rw[Wdi w];show A.ow p=_↔_;rw[h.ow _ _ _ hk p];exact⟨λu=>⟨u,λD=>g (WaA.2 D)⟩,λu=>u.1⟩
   ·exact h.ow j d m a p
 ·rw[runs];by_cases g:inR ((Z6 ss).map λs=>(s,c.pages)) p
  ·rw[(b.i p g).2,←h.ow41,own p g];omega
  ·rw[(b.o p g).2];exact h.ow41 p
 ·rw[tb];by_cases g:inR ((Z6 ss).map λs=>(s,c.pages)) p
  ·rw[(b.i p g).2];omega
  ·rw[(b.o p g).2];exact h.owb p
 ·rw[tra]at r;rcases cl a with⟨rfl,rfl,rfl⟩|⟨hne,a⟩
  ·intro x u;exact(WfR w).2 (h.trt _ _ _ t hk r x u)
  ·exact h.trt j d m t a r
theorem GA.swpK (h:GA A)(hk:Cl A k c ss):Kp A (Go.Ar.swp A k c ss):=by
 have b:=h.swpB hk;refine⟨b.n,b.tb,b.room,b.z,λp a=>?_⟩;by_cases hi:inR ((Z6 ss).map λs=>(s,c.pages)) p
 ·rw[(b.i p hi).1]at a;omega
 ·rw[(b.o p hi).1]at a;exact a
theorem GA.swpT (h:GA A)(hk:Cl A k c ss){j:Nat}{x:Int}:TkA (Go.Ar.swp A k c ss) j x↔TkA A j x:=by
 have b:=h.swpB hk;have a:=h.cen k c ss hk;have e:TkA (Go.Ar.swp A k c ss) j x↔TkA {A with cen:=A.cen.set k (sweep ss)} j x:=by unfold TkA Cl;rw[b.tb,b.cen]
 rw[e,Wcb hk,WfR a];constructor
 ·rintro(⟨rfl,hx⟩|⟨_,hx⟩)
  ·exact(KQ hk).2 hx
  ·exact hx
 ·intro hx;by_cases hjk:j=k
  ·subst hjk;exact .inl ⟨rfl,(KQ hk).1 hx⟩
  ·exact .inr ⟨hjk,hx⟩
theorem HF {k:Int}:A.ck k=true↔∃j:Nat,k=j/\j<A.tb.length:=by
 unfold AR.ck;simp only[zF,zS];constructor
 ·intro h;exact⟨k.toNat,O,O⟩
 ·rintro⟨j,rfl,h⟩;omega
structure Ob (A B:AR):Prop where
 ga:GA B
 kp:Kp A B
 runs:B.runs=A.runs
theorem WbJ (h:GA A)(k m:Int):Ob A (YO A k m)/\(YO A k m).tra=A.tra/\(Ys A k m).Nodup/\(Ys A k m≠[]->∃j:Nat,k=j/\j<A.tb.length)/\(∀x∈Ys A k m,¬TkA A k.toNat (x:Int)) ∧
 ∀j y,TkA (YO A k m) j y↔TkA A j y\/(j=k.toNat/\∃x∈Ys A k m,y=((x:Nat):Int)):=by
 by_cases h0:QF A k m=0
 ·have g:A.ck k=true:=by
   unfold QF at h0;split at h0
   ·assumption
   ·cases h0
  obtain⟨j,rfl,r⟩:=HF.1 g;obtain⟨c,ss,t,b,D⟩:=h.cl r;have s:VB A (j:Int) m=Q7 c m.toNat ss:=by unfold VB;rw[iTn,b.1,b.2]
  have d:YO A (j:Int) m = {A with cen:=A.cen.set j (Q7 c m.toNat ss).2}:=by unfold YO;rw[zB h0,s,iTn]
  have p:Ys A (j:Int) m=(Q7 c m.toNat ss).1:=by unfold Ys;rw[zB h0,s]
  rw[d,p];obtain⟨s1,B,E,z,C,u⟩:=GC m.toNat (h.cen j c ss b);refine⟨⟨h.setCen b s1 B λw e x a=>(u x).2 (.inr (h.trt j c ss w b e x a)),Kp.pages rfl rfl rfl rfl,rfl⟩,rfl,z,λ_=>⟨j,rfl,r⟩,λx a=>?_,λi y=>?_⟩
  ·rw[iTn,KQ b];exact C x a
  ·rw[Wcb b,u,iTn];by_cases hij:i=j
   ·subst hij;rw[KQ b];constructor
    ·rintro(⟨_,a|a⟩|⟨a,_⟩)
     ·exact .inr ⟨rfl,a⟩
     ·exact .inl a
     ·exact(a rfl).elim
    ·rintro(a|⟨_,a⟩)
     ·exact .inl ⟨rfl,.inr a⟩
     ·exact .inl ⟨rfl,.inl a⟩
   ·constructor
    ·rintro(⟨a,_⟩|⟨_,a⟩)
     ·exact(hij a).elim
     ·exact .inl a
    ·rintro(a|⟨a,_⟩)
     ·exact .inr ⟨hij,a⟩
     ·exact(hij a).elim
 ·have d:YO A k m=A:=by unfold YO;rw[zA h0]
  have p:Ys A k m=[]:=by unfold Ys;rw[zA h0]
  rw[d,p];exact⟨⟨h,Kp.refl A,rfl⟩,rfl,zCQ,by simp,by simp,by simp⟩
theorem Whj {xs:List Int}(h:AllT c ss xs):putE c ss xs=0:=by
 unfold putE;have a:xs.any (λx=>(isTk c ss x).isNone)=false:=by
  rw[zAY];intro x hx;rw[h.1 x hx];simp
 have b:xs.any (λx=>isTk c ss x==some false)=false:=by
  rw[zAY];intro x hx;rw[h.1 x hx];simp
 rw[a,b,zU h.2];rfl
theorem H7 (h:GA A)(hk:Cl A k c ss)(xs:List Int):QW A (k:Int) xs=putE c ss xs:=by
 unfold QW;rw[HF.2 ⟨k,rfl,hk.lt⟩,zB rfl,iTn,hk.1,hk.2]
theorem WaN (h:GA A){k:Int}{xs:List Int}(h0:QW A k xs=0):∃(j:Nat) (c:Cls) (ss:List SpA),k=j/\Cl A j c ss/\AllT c ss xs:=by
 have a:A.ck k=true:=by
  unfold QW at h0;split at h0
  ·assumption
  ·cases h0
 obtain⟨j,rfl,d⟩:=HF.1 a;obtain⟨c,ss,t,b,e⟩:=h.cl d;rw[H7 h b]at h0;exact⟨j,c,ss,rfl,b,WiS h0⟩
theorem Wcw (h:GA A){k:Int}{xs:List Int}(hd:QW A k xs=0->∀x∈xs,¬InT A k.toNat x):Ob A (Zg A k xs)/\(Zg A k xs).tra=A.tra ∧
 (QW A k xs=0->∀j y,TkA (Zg A k xs) j y↔TkA A j y/\¬(j=k.toNat/\y∈xs))/\(QW A k xs≠0->Zg A k xs=A):=by
 by_cases h0:QW A k xs=0
 ·obtain⟨j,c,g,rfl,e,z⟩:=WaN h h0;obtain⟨C,w,s⟩:=Wda xs (h.cen j c g e) z;have p:=h.setCen e C w λt u x a=>(s x).2 ⟨h.trt j c g t e u x a,λB=>hd h0 x B ⟨t,by rw[iTn];exact u,a⟩⟩;have d:=U4 e (xs.foldl (put1 c) g);have r:Zg A (j:Int) xs=swp {A with cen:=A.cen.set j (xs.foldl (put1 c) g)} j c (xs.foldl (put1 c) g):=by
   unfold Zg swp;rw[zB h0,iTn,e.1,e.2];simp only[zBP]
  have b:=p.swpB d;rw[r];refine⟨⟨p.swp d,(Kp.pages rfl rfl rfl rfl:Kp A {A with cen:=A.cen.set j (xs.foldl (put1 c) g)}).trans (p.swpK d),b.runs⟩,b.tra,λ_ i y=>?_,λD=>(D h0).elim⟩;rw[p.swpT d,Wcb e,s,iTn];by_cases hij:i=j
  ·subst hij;rw[KQ e];constructor
   ·rintro(⟨_,a,hy⟩|⟨a,_⟩)
    ·exact⟨a,λm=>hy m.2⟩
    ·exact(a rfl).elim
   ·rintro⟨a,hy⟩;exact .inl ⟨rfl,a,λm=>hy ⟨rfl,m⟩⟩
  ·constructor
   ·rintro(⟨a,_⟩|⟨_,a⟩)
    ·exact(hij a).elim
    ·exact⟨a,λm=>hij m.1⟩
   ·rintro⟨a,_⟩;exact .inr ⟨hij,a⟩
 ·have r:Zg A k xs=A:=by unfold Zg;rw[zA h0]
  rw[r];exact⟨⟨h,Kp.refl A,rfl⟩,rfl,λa=>(h0 a).elim,λ_=>rfl⟩
theorem GA.setTra (h:GA A){k:Nat}{t':TrA}(h1:t'.bs.flatten.Nodup)(h2:∀x∈t'.bs.flatten,TkA A k x)(h3:∀c,A.tb[k]?=some c->∀xs∈t'.bs,xs.length=c.batch):GA {A with tra:=A.tra.set k t'}:=by
 have get:∀{j t},(A.tra.set k t')[j]?=some t->(j=k/\t=t')\/(j≠k/\A.tra[j]?=some t):=by
  intro j t a;by_cases hjk:j=k
  ·subst hjk;have g:j<A.tra.length:=by have:=(gSi.1 a).1;simpa using this
   rw[zM g]at a;exact .inl ⟨rfl,(Option.some.inj a).symm⟩
  ·rw[zh (Ne.symm hjk)]at a;exact .inr ⟨hjk,a⟩
 refine⟨h.pg.same rfl rfl rfl rfl,h.tb,h.lc,by simp[h.lt],h.cen,h.one,h.ow,h.ow41,h.owb,h.rpos,h.rdis,λj t a=>?_,λj c e t b a x d=>?_,λj c t b a=>?_⟩
 ·rcases get a with⟨rfl,rfl⟩|⟨_,a⟩
  ·exact h1
  ·exact h.trn j t a
 ·rcases get a with⟨rfl,rfl⟩|⟨_,a⟩
  ·exact(KQ b).1 (h2 x d)
  ·exact h.trt j c e t b a x d
 ·rcases get a with⟨rfl,rfl⟩|⟨_,a⟩
  ·exact h3 c b
  ·exact h.trb j c t b a
theorem WcG {t':TrA}{j:Nat}{x:Int}(hk:k<A.tra.length):InT {A with tra:=A.tra.set k t'} j x↔(j=k/\x∈t'.bs.flatten)\/(j≠k/\InT A j x):=by
 by_cases hjk:j=k
 ·subst hjk;have a:(A.tra.set j t')[j]?=some t':=zM hk;constructor
  ·rintro⟨t,e,hx⟩;have e:(A.tra.set j t')[j]?=some t:=e;rw[a]at e;cases e;exact .inl ⟨rfl,hx⟩
  ·rintro(⟨_,hx⟩|⟨hx,_⟩)
   ·exact⟨_,a,hx⟩
   ·exact(hx rfl).elim
 ·have a:(A.tra.set k t')[j]?=A.tra[j]? := zh (Ne.symm hjk);constructor
  ·rintro⟨t,e,hx⟩;have e:(A.tra.set k t')[j]?=some t:=e;rw[a]at e;exact .inr ⟨hjk,t,e,hx⟩
  ·rintro(⟨hx,_⟩|⟨_,t,e,hx⟩)
   ·exact(hjk hx).elim
   ·exact⟨t,a.trans e,hx⟩
theorem GE {t:TrA}(ht:A.tra[k]?=some t){x:Int}:InT A k x↔x∈t.bs.flatten:=by
 constructor
 ·rintro⟨t',e,hx⟩;rw[ht]at e;cases e;exact hx
 ·intro hx;exact⟨t,ht,hx⟩
theorem WdK (h:GA A)(k:Int):Ob A (ZR A k)/\(∀j y,TkA (ZR A k) j y↔TkA A j y)/\(∀x∈YK A k,InT A k.toNat x)/\(YK A k).Nodup/\(YK A k≠[]->∃j:Nat,k=j/\j<A.tb.length) ∧
 ∀j y,InT (ZR A k) j y↔InT A j y/\¬(j=k.toNat/\y∈YK A k):=by
 by_cases h0:Z7 A k=0
 ·have p:A.ck k=true:=by
   unfold Z7 at h0;split at h0
   ·assumption
   ·cases h0
  obtain⟨j,rfl,z⟩:=HF.1 p;obtain⟨c,J,t,E,m⟩:=h.cl z;have hne:t.bs≠[]:=by
   intro e;unfold Z7 at h0;rw[p,zB rfl,iTn,m]at h0;simp[e]at h0
  have B:ZR A (j:Int) = {A with tra:=A.tra.set j t.rem}:=by unfold ZR;rw[zB h0,iTn,K0 m]
  have w:YK A (j:Int)=t.bs.getLast?.getD []:=by unfold YK;rw[zB h0,iTn,m]
  have D:t.bs=t.bs.dropLast++[t.bs.getLast hne]:=(List.dropLast_concat_getLast hne).symm;have F:YK A (j:Int)=t.bs.getLast hne:=by rw[w,List.getLast?_eq_some_getLast hne];rfl
  have d:t.bs.flatten=t.bs.dropLast.flatten++t.bs.getLast hne:=by
   conv=>lhs;rw[D]
   simp
  have r:=h.trn j t m;rw[d]at r;have b:=zBK.1 r;have g:t.rem.bs=t.bs.dropLast:=rfl;rw[B,F];refine⟨⟨h.setTra (by rw[g];exact b.1) (λx a=>(KQ E).2 (h.trt j c J t E m x (by rw[d];exact zBF _ a))) λH u G C=>h.trb j H t u m G ((List.dropLast_sublist _).subset C),Kp.pages rfl rfl rfl rfl,rfl⟩,λ_ _=>Iff.rfl,λx a=>?_,b.2.1,λ_=>⟨j,rfl,z⟩,λi y=>?_⟩
  ·rw[iTn,GE m,d];exact zBV _ a
  ·rw[WcG (by rw[h.lt];exact z),g,iTn];by_cases hij:i=j
   ·subst hij;rw[GE m,d,zR];constructor
    ·rintro(⟨_,a⟩|⟨a,_⟩)
     ·exact⟨.inl a,λs=>b.2.2 y a y s.2 rfl⟩
     ·exact(a rfl).elim
    ·rintro⟨a|a,s⟩
     ·exact .inl ⟨rfl,a⟩
     ·exact(s ⟨rfl,a⟩).elim
   ·constructor
    ·rintro(⟨a,_⟩|⟨_,a⟩)
     ·exact(hij a).elim
     ·exact⟨a,λs=>hij s.1⟩
    ·rintro⟨a,_⟩;exact .inr ⟨hij,a⟩
 ·have B:ZR A k=A:=by unfold ZR;rw[zA h0]
  have w:YK A k=[]:=by unfold YK;rw[zA h0]
  rw[B,w];exact⟨⟨h,Kp.refl A,rfl⟩,λ_ _=>Iff.rfl,by simp,zCQ,by simp,by simp⟩
theorem Wmg (h:GA A)(k:Int){xs:List Int}(hn:xs.Nodup)(hd:∀x∈xs,¬InT A k.toNat x):Ob A (Q9 A k xs)/\(∀j y,TkA (Q9 A k xs) j y↔TkA A j y) ∧
 (Vi A k xs=true->(∃j:Nat,k=j/\j<A.tb.length)/\(∀x∈xs,TkA A k.toNat x)/\∀j y,InT (Q9 A k xs) j y↔InT A j y\/(j=k.toNat/\y∈xs))/\(Vi A k xs=false->Q9 A k xs=A):=by
 by_cases h0:Vi A k xs=true
 ·have B:HC A k xs=0:=by
   unfold Vi at h0;simp only[zF,zS]at h0;exact h0.1
  have z:A.ck k=true:=by
   unfold HC at B;split at B
   ·assumption
   ·cases B
  obtain⟨j,rfl,E⟩:=HF.1 z;obtain⟨c,H,t,u,s⟩:=h.cl E;have m:=B;unfold HC at m;rw[z,zB rfl,iTn,u.1,u.2]at m;simp only at m;have p:xs.length=c.batch:=by
   apply Classical.byContradiction;intro d;rw[zA d]at m;cases m
  rw[zB p]at m;have w:∀x∈xs,TkA A j x:=by
   intro x d;split at m
   ·rename_i C;rw[zAB]at C;rw[KQ u];simpa[Tk]using C x d
   ·cases m
  have D:Q9 A (j:Int) xs = {A with tra:=A.tra.set j {t with bs:=t.bs++[xs]}}:=by unfold Q9;rw[zB h0,iTn,K0 s]
  have r:(t.bs++[xs]).flatten=t.bs.flatten++xs:=by simp
  rw[D];refine⟨⟨h.setTra ?_ ?_ ?_,Kp.pages rfl rfl rfl rfl,rfl⟩,λ_ _=>Iff.rfl,λ_=>⟨⟨j,rfl,E⟩,by rw[iTn];exact w,λi y=>?_⟩,λG=>by rw[G]at h0;cases h0⟩
  ·show(t.bs++[xs]).flatten.Nodup;rw[r,zBK];exact⟨h.trn j t s,hn,λa C b F e=>hd b F (by subst e;rw[iTn,GE s];exact C)⟩
  ·intro x d;have d:x∈(t.bs++[xs]).flatten:=d;rw[r,zR]at d;rcases d with d|d
   ·exact(KQ u).2 (h.trt j c H t u s x d)
   ·exact w x d
  ·intro c' hc' ys g;have g:ys∈t.bs++[xs]:=g;rcases zR.1 g with g|g
   ·exact h.trb j c' t hc' s ys g
   ·simp only[zW]at g;rw[u.1]at hc';cases hc';rw[g];exact p
  ·rw[WcG (by rw[h.lt];exact E),iTn];show(i=j/\y∈(t.bs++[xs]).flatten)\/_↔_;rw[r,zR];by_cases hij:i=j
   ·subst hij;rw[GE s];constructor
    ·rintro(⟨_,d|d⟩|⟨d,_⟩)
     ·exact .inl d
     ·exact .inr ⟨rfl,d⟩
     ·exact(d rfl).elim
    ·rintro(d|⟨_,d⟩)
     ·exact .inl ⟨rfl,.inl d⟩
     ·exact .inl ⟨rfl,.inr d⟩
   ·constructor
    ·rintro(⟨d,_⟩|⟨_,d⟩)
     ·exact(hij d).elim
     ·exact .inl d
    ·rintro(d|⟨d,_⟩)
     ·exact .inr ⟨hij,d⟩
     ·exact(hij d).elim
 ·have D:Q9 A k xs=A:=by unfold Q9;rw[zA h0]
  rw[D];exact⟨⟨h,Kp.refl A,rfl⟩,λ_ _=>Iff.rfl,λd=>(h0 d).elim,λ_=>rfl⟩
end Go.Ar
namespace Go.Ar
open Go.Bu (Zf QM runS Zu Wbq allF Vk V9 give take Kh Ke Bounded full can YP VS ZL QT ZQ Kf QR Qb V6 UU take_in)
variable {A:AR}{sp:Sp}{k:Nat}{c:Cls}{ss:List SpA}
structure Ow (A:AR) (sp:Sp):Prop where
 l:sp.st.length=A.n
 own:∀p,A.f p≠0->gf sp.st p≠0
 cl:∀p,A.f p=3->gf sp.st p=1
 le:∀p,gf sp.st p<=2
structure St (A B:AR) (sp sp':Sp):Prop where
 ga:GA B
 ow:Ow B sp'
 n:B.n=A.n
 tb:B.tb=A.tb
 room:B.room=A.room
 same:∀p,A.f p=0->B.f p=0->gf sp'.st p=gf sp.st p
 gone:∀p,A.f p≠0->B.f p=0->gf sp'.st p=0
 new:∀p,A.f p=0->B.f p≠0->gf sp.st p=0/\16<=p
theorem St.refl (h:GA A)(hw:Ow A sp):St A A sp sp:=⟨h,hw,rfl,rfl,rfl,λ_ _ _=>rfl,λp b a=>(b a).elim,λp b a=>(a b).elim⟩
theorem Ow.len {B C:AR}{sp sp':Sp}(h:Ow B sp)(k:Ow C sp')(e:C.n=B.n):sp'.st.length=sp.st.length:=by rw[h.l,k.l,e]
theorem St.trans {B C:AR}{sp' sp'':Sp}(h:St A B sp sp')(k:St B C sp' sp''):St A C sp sp'':=by
 refine⟨k.ga,k.ow,k.n.trans h.n,k.tb.trans h.tb,k.room.trans h.room,λp b a=>?_,λp b a=>?_,λp b a=>?_⟩
 ·by_cases hB:B.f p=0
  ·rw[k.same p hB a,h.same p b hB]
  ·rw[k.gone p hB a,(h.new p b hB).1]
 ·by_cases hB:B.f p=0
  ·rw[k.same p hB a,h.gone p b hB]
  ·exact k.gone p hB a
 ·by_cases hB:B.f p=0
  ·have:=k.new p hB a;rw[h.same p b hB]at this;exact this
  ·exact h.new p b hB
theorem Ow.kp {B:AR}(hw:Ow A sp)(h:Kp A B):Ow B sp:=⟨hw.l.trans h.n.symm,λp a=>hw.own p λe=>a ((h.z p).2 e),λp a=>hw.cl p (h.t p a),hw.le⟩
theorem St.kp {B:AR}(hg:GA B)(hw:Ow A sp)(h:Kp A B):St A B sp sp:=
 ⟨hg,hw.kp h,h.n,h.tb,h.room,λ_ _ _=>rfl,λp b a=>(b ((h.z p).1 a)).elim,λp b a=>(a ((h.z p).2 b)).elim⟩
theorem Ob.st {B:AR}(o:Ob A B)(hw:Ow A sp):St A B sp sp:=St.kp o.ga hw o.kp
theorem GA.grown (h:GA A){B:AR}{sp':Sp}{s size:Nat}(g:Grown A B sp sp' s size):GA B:=by
 have e:∀{j d tt},Cl B j d tt↔Cl A j d tt:=λ{j d tt}=>by unfold Cl;rw[g.tb,g.cen]
 exact⟨g.pg,by rw[g.tb];exact h.tb,by rw[g.cen,g.tb];exact h.lc,by rw[g.tra,g.tb];exact h.lt,λj d tt a=>h.cen j d tt (e.1 a),λj d tt a=>h.one j d tt (e.1 a),λj d tt a p=>by rw[g.ow];exact h.ow j d tt (e.1 a) p,
  λp=>by rw[g.ow,g.runs];exact h.ow41 p,λp=>by rw[g.ow,g.tb];exact h.owb p,by rw[g.runs];exact h.rpos,by rw[g.runs];exact h.rdis,by rw[g.tra];exact h.trn,λj d tt t a b=>h.trt j d tt t (e.1 a) (by rw[←g.tra];exact b),by rw[g.tb,g.tra];exact h.trb⟩
theorem Grown.st (h:GA A)(hw:Ow A sp){B:AR}{sp':Sp}{s size:Nat}(g:Grown A B sp sp' s size):St A B sp sp':=by
 have d:∀p,B.f p≠A.f p->s<=p/\p<s+size:=λp b=>by
  apply Classical.byContradiction;intro hn;exact b (g.o p hn).1
 refine⟨h.grown g,⟨g.l.trans (hw.l.trans g.n.symm),λp b=>?_,λp b=>?_,λp=>?_⟩,g.n,g.tb,g.room,λp j e=>?_,λp j e=>?_,λp j e=>?_⟩
 ·by_cases a:s<=p/\p<s+size
  ·rw[(g.i p a.1 a.2).2];omega
  ·rw[(g.o p a).2];rw[(g.o p a).1]at b;exact hw.own p b
 ·by_cases a:s<=p/\p<s+size
  ·rw[(g.i p a.1 a.2).2]
  ·rw[(g.o p a).2];rw[(g.o p a).1]at b;exact hw.cl p b
 ·by_cases a:s<=p/\p<s+size
  ·rw[(g.i p a.1 a.2).2];omega
  ·rw[(g.o p a).2];exact hw.le p
 ·refine(g.o p λa=>?_).2;rw[(g.i p a.1 a.2).1]at e;omega
 ·have:=d p O;rw[(g.i p this.1 this.2).1]at e;omega
 ·have:=d p O;exact⟨g.un p this.1 this.2,by have:=g.s1;omega⟩
theorem Wej {n:Nat}{S:Nat->Bool}(hb:Bounded S n)(hn:n<=1024){j q m a:Nat}(hf:full S j q=true)(hm:m<=2^j)(ha:a<=2^j):Zu n S m a≠none:=by
 intro h0;have r:S (q*2^j)=true:=YP.1 hf _ (zFV _ (zAG j));obtain⟨i,e⟩:=VS hb r;have g:j<=i:=by
  apply Classical.byContradiction;intro hlt;exact QT e hf rfl (zFV _ (zAG j)) O
 have s:=ZQ hb (ZL.1 e).1;have d:i<11:=by
  apply Classical.byContradiction;intro hge;have:2^11<=2^i:=zBQ O O;omega
 have p:2^j<=2^i:=zBQ O g;have:=UU h0 i d O O;have b:=(QR hb (k:=i)).2 ⟨_,rfl,e⟩;rw[this]at b;simp at b
theorem WaK (m:Nat):Q4 m=16\/Q4 m=32\/Q4 m=64:=by
 unfold Q4;split
 ·exact .inl rfl
 ·split
  ·exact .inr (.inl rfl)
  ·exact .inr (.inr rfl)
theorem Wir {m:Nat}(h:m<=64):m<=Q4 m:=by
 unfold Q4;split
 ·omega
 ·split<;>omega
theorem WbG (h:GA A)(hw:Ow A sp){m a no:Nat}(h1:1<=m)(h2:m<=64)(ha:1<=a/\a<=16) :
 (getA A sp m a no=(none,A,sp)/\Zu A.n A.S m a=none/\growStart sp (Q4 (max m a))=none) ∨
 ∃x A1 sp1,getA A sp m a no=(some x,useA A1 x m no,sp1)/\Zu A1.n A1.S m a=some x/\(A1=A/\sp1=sp\/Zu A.n A.S m a=none/\∃s,growStart sp (Q4 (max m a))=some s/\Grown A A1 sp sp1 s (Q4 (max m a))):=by
 cases ht:Zu A.n A.S m a with
 | some x=>exact .inr ⟨x,A,sp,by unfold getA;rw[ht],ht,.inl ⟨rfl,rfl⟩⟩
 | none=>
  cases hg:UQ A sp (Q4 (max m a))with
  | none=>
   refine .inl ⟨by unfold getA;rw[ht,hg],rfl,?_⟩;unfold UQ at hg;split at hg
   ·assumption
   ·cases hg
  | some r=>
   obtain⟨A1,sp1⟩:=r;obtain⟨s,w,g⟩:=Wj0 h.pg hw.l (λp b=>Classical.byContradiction λC=>hw.own p C b) (WaK _) hg;have d:Zu A1.n A1.S m a≠none:=by
    have B:=Wir (m:=max m a) O;obtain⟨_,_,⟨i,y⟩,_⟩:=US (by have:=WaK (max m a);omega) w;have key:∃j,Q4 (max m a)=2^j:=by
     rcases WaK (max m a)with e|e|e
     ·exact⟨4,e⟩
     ·exact⟨5,e⟩
     ·exact⟨6,e⟩
    obtain⟨j,z⟩:=key;refine Wej g.pg.bnd g.pg.n2 (j:=j) (q:=i) (YP.2 λp b=>?_) O O;rw[g.pg.fr];rw[Qb,←z,←y]at b;rw[(g.i p b.1 b.2).1];omega
   obtain⟨x,u⟩:=Option.ne_none_iff_exists'.1 d;exact .inr ⟨x,A1,sp1,by unfold getA;rw[ht,hg];simp only;rw[u],u,.inr ⟨rfl,s,w,g⟩⟩
theorem Wc1 (h:PG A){m a x:Nat}(hx:Zu A.n A.S m a=some x):∀p,x<=p->p<x+m->A.S p=true:=λp b d=>(take_in h.bnd hx).2 p b d
theorem WlD (h:PG A){m a x:Nat}(h1:1<=m)(h4:m<=4)(hx:Zu A.n A.S m a=some x):x/16=(x+m-1)/16:=by
 obtain⟨j,_,b,_,d,_⟩:=V6 hx;obtain⟨q,rfl,g⟩:=(QR h.bnd).1 (List.mem_of_head? d)
 match j,b with
 | 0,b=>
  have:m=1:=by omega
  subst this;rfl
 | 1,b=>
  have:m<=2:=by omega
  simp only[Nat.pow_one]at *;omega
 | j+2,b=>
  have e:2^(j+2)=4*2^j:=by rw[Nat.pow_add];omega
  rw[e,←zEL,Nat.mul_comm q 4,zEL];generalize q*2^j=z;omega
theorem WhJ (h:PG A){a m no:Nat}(h1:1<=m)(hn:no≠0)(hS:∀p,a<=p->p<a+m->A.S p=true):Kp A (useA A a m no):=by
 obtain⟨o,e,g,d⟩:=We2 h h1 hn hS;refine⟨rfl,rfl,rfl,d,λp b=>?_⟩;by_cases hin:a<=p/\p<a+m
 ·rw[(e p hin.1 hin.2).1]at b;omega
 ·rw[o.f p hin]at b;exact b
theorem GA.addSpan (h:GA A)(hk:Cl A k c ss){x:Nat}(hS:∀p,x<=p->p<x+c.pages->A.S p=true)(h1:x/16=(x+c.pages-1)/16) :
 GA {useA A x c.pages (k+1)with cen:=(useA A x c.pages (k+1)).cen.set k (addS c ss x)}/\(∀s∈ss,s.st+c.pages<=x\/x+c.pages<=s.st):=by
 have m:=h.cen k c ss hk;have r:=m.pg;have z:=hk.lt;have B:=h.tb;obtain⟨o,u,pg,F⟩:=We2 h.pg r (no:=k+1) O hS;have i:∀p,x<=p->p<x+c.pages->A.ow p=0:=λp E C=>by
  have D:=(h.pg.fr p).1 (hS p E C);apply Classical.byContradiction;intro hne;have:=(h.pg.us p).2 hne;omega
 have hd:∀s∈ss,s.st+c.pages<=x\/x+c.pages<=s.st:=λs b=>by
  apply Classical.byContradiction;intro hn;have D:=i (max x s.st) O O;have:=(h.used hk b (p:=max x s.st) O O).2;omega
 refine⟨?_,hd⟩;have e:Cl (useA A x c.pages (k+1)) k c ss:=hk;refine⟨pg.same rfl rfl rfl rfl,h.tb,by show(A.cen.set k _).length=_;simp[h.lc];rfl,h.lt,λj d g a=>?_,λj d g a s b=>?_,λj d g a p=>?_,λp=>?_,λp=>?_,h.rpos,h.rdis,h.trn,λj d g t a w=>?_,h.trb⟩
 ·rcases Ug e a with⟨rfl,rfl,rfl⟩|⟨hne,a⟩
  ·exact WiK m hd
  ·exact h.cen j d g a
 ·rcases Ug e a with⟨rfl,rfl,rfl⟩|⟨hne,a⟩
  ·rcases VD.1 b with rfl|b
   ·exact h1
   ·exact h.one _ _ _ hk s b
  ·exact h.one j d g a s b
 ·show(useA A x c.pages (k+1)).ow p=j+1↔_;by_cases hp:x<=p/\p<x+c.pages
  ·rw[(u p hp.1 hp.2).2];rcases Ug e a with⟨rfl,rfl,rfl⟩|⟨hne,a⟩
   ·exact⟨λ_=>⟨_,VD.2 (.inl rfl),hp.1,hp.2⟩,λ_=>rfl⟩
   ·rw[←h.ow j d g a p,i p hp.1 hp.2];omega
  ·rw[o.ow p hp];rcases Ug e a with⟨rfl,rfl,rfl⟩|⟨hne,a⟩
   ·rw[h.ow _ _ _ hk p];constructor
    ·rintro⟨s,b,h3⟩;exact⟨s,VD.2 (.inr b),h3⟩
    ·rintro⟨s,b,h3⟩;rcases VD.1 b with rfl|b
     ·exact(hp h3).elim
     ·exact⟨s,b,h3⟩
   ·exact h.ow j d g a p
 ·show(useA A x c.pages (k+1)).ow p=41↔inR A.runs p;by_cases hp:x<=p/\p<x+c.pages
  ·rw[(u p hp.1 hp.2).2,←h.ow41,i p hp.1 hp.2];omega
  ·rw[o.ow p hp];exact h.ow41 p
 ·show(useA A x c.pages (k+1)).ow p=41\/(useA A x c.pages (k+1)).ow p<=A.tb.length;by_cases hp:x<=p/\p<x+c.pages
  ·rw[(u p hp.1 hp.2).2];omega
  ·rw[o.ow p hp];exact h.owb p
 ·rcases Ug e a with⟨rfl,rfl,rfl⟩|⟨hne,a⟩
  ·intro y hy;exact(Wiy m hd).2 (h.trt _ _ _ t hk w y hy)
  ·exact h.trt j d g t a w
theorem GA.addRun (h:GA A){x m:Nat}(hm:1<=m)(hS:∀p,x<=p->p<x+m->A.S p=true):GA {useA A x m 41 with runs:=A.runs++[(x,m)]}:=by
 have z:=h.tb;obtain⟨o,e,pg,B⟩:=We2 h.pg hm (no:=41) O hS;have g:∀p,x<=p->p<x+m->A.ow p=0:=λp y u=>by
  have w:=(h.pg.fr p).1 (hS p y u);apply Classical.byContradiction;intro hne;have:=(h.pg.us p).2 hne;omega
 refine⟨pg.same rfl rfl rfl rfl,h.tb,h.lc,h.lt,h.cen,h.one,λj d tt b p=>?_,λp=>?_,λp=>?_,λr a=>?_,?_,h.trn,h.trt,h.trb⟩
 ·have b:Cl A j d tt:=b;have:=b.lt;show(useA A x m 41).ow p=j+1↔_;by_cases hp:x<=p/\p<x+m
  ·rw[(e p hp.1 hp.2).2,←h.ow j d tt b p,g p hp.1 hp.2];omega
  ·rw[o.ow p hp];exact h.ow j d tt b p
 ·show(useA A x m 41).ow p=41↔inR (A.runs++[(x,m)]) p;by_cases hp:x<=p/\p<x+m
  ·rw[(e p hp.1 hp.2).2];exact⟨λ_=>⟨(x,m),by simp,hp⟩,λ_=>rfl⟩
  ·rw[o.ow p hp,h.ow41];constructor
   ·rintro⟨r,a,h3⟩;exact⟨r,by simp[a],h3⟩
   ·rintro⟨r,a,h3⟩;rcases zR.1 a with a|a
    ·exact⟨r,a,h3⟩
    ·simp only[zW]at a;subst a;exact(hp h3).elim
 ·show(useA A x m 41).ow p=41\/(useA A x m 41).ow p<=A.tb.length;by_cases hp:x<=p/\p<x+m
  ·rw[(e p hp.1 hp.2).2];omega
  ·rw[o.ow p hp];exact h.owb p
 ·rcases zR.1 a with a|a
  ·exact h.rpos r a
  ·simp only[zW]at a;subst a;exact hm
 ·refine zBT.2 ⟨h.rdis,by simp,λr a s i=>?_⟩;simp only[zW]at i;subst i;apply Classical.byContradiction;intro hn;simp only at hn;have:=h.rpos r a;have w:=g (max x r.1) O O;have:=(h.usedR a (p:=max x r.1) O O).2;omega
theorem WiY {l:List (Nat×Nat)}{x m:Nat}(h:∀r∈l,r.1≠x):takeAS.mset2 l x m=l++[(x,m)]:=by
 unfold takeAS.mset2;rw[zA];simp only[zy,zX,not_exists,not_and];exact h
theorem Wa1 (h:GA A)(hw:Ow A sp)(k:Int) :
 ((growS A sp k=(A,sp))/\KO A sp k≠0) ∨
 ∃(j:Nat) (c:Cls) (ss:List SpA) (x:Nat) (A1:AR) (sp1:Sp),k=j/\Cl A j c ss/\Cl A1 j c ss/\KO A sp k=0/\growS A sp k=({useA A1 x c.pages (j+1)with cen:=(useA A1 x c.pages (j+1)).cen.set j (addS c ss x)},sp1) ∧
  St A A1 sp sp1/\A1.runs=A.runs/\A1.tra=A.tra/\A1.cen=A.cen/\Zu A1.n A1.S c.pages 1=some x/\(∀s∈ss,s.st+c.pages<=x\/x+c.pages<=s.st)/\St A (growS A sp k).1 sp (growS A sp k).2:=by
 by_cases hck:A.ck k=true
 ·obtain⟨j,rfl,C⟩:=HF.1 hck;obtain⟨c,ss,t,b,H⟩:=h.cl C;have G:=h.cen j c ss b;have w:=G.ok;unfold Cls.ok at w;have F:=b.lt;rcases WbG h hw (m:=c.pages) (a:=1) (no:=j+1) O O O with⟨hg,_⟩|⟨x,A1,sp1,hg,htk,hor⟩
  ·left;have y:KO A sp (j:Int)=6:=by unfold KO;rw[hck,zB rfl,iTn,b.1,b.2];simp only;rw[hg]
   have D:growS A sp (j:Int)=(A,sp):=by unfold growS;rw[hck,zB rfl,iTn,b.1,b.2];simp only;rw[hg]
   rw[D,y];exact⟨rfl,by simp⟩
  ·right;have y:KO A sp (j:Int)=GW c ss x:=by unfold KO;rw[hck,zB rfl,iTn,b.1,b.2];simp only;rw[hg]
   have u:GA A1:=by
    rcases hor with⟨rfl,rfl⟩|⟨_,s,_,g⟩
    ·exact h
    ·exact h.grown g
   have d:St A A1 sp sp1:=by
    rcases hor with⟨rfl,rfl⟩|⟨_,s,_,g⟩
    ·exact St.refl h hw
    ·exact g.st h hw
   have e:A1.runs=A.runs/\A1.tra=A.tra/\A1.cen=A.cen:=by
    rcases hor with⟨rfl,rfl⟩|⟨_,s,_,g⟩
    ·exact⟨rfl,rfl,rfl⟩
    ·exact⟨g.runs,g.tra,g.cen⟩
   have i:Cl A1 j c ss:=⟨by rw[d.tb];exact b.1,by rw[e.2.2];exact b.2⟩;have z:=Wc1 u.pg htk;obtain⟨E,hd⟩:=u.addSpan i z (WlD u.pg O O htk);have B:=Wj1 hd;have r:growS A sp (j:Int)=({useA A1 x c.pages (j+1)with cen:=(useA A1 x c.pages (j+1)).cen.set j (addS c ss x)},sp1):=by
    unfold growS;rw[hck,zB rfl,iTn,b.1,b.2];simp only;rw[hg];simp only;rw[zB B]
   refine⟨j,c,ss,x,A1,sp1,rfl,b,i,by rw[y];exact B,r,d,e.1,e.2.1,e.2.2,htk,hd,?_⟩;rw[r];have kp:=WhJ u.pg (no:=j+1) O O z;exact d.trans (St.kp E d.ow (kp.trans (Kp.pages rfl rfl rfl rfl)))
 ·left;have p:A.ck k=false:=by simpa using hck
  unfold growS KO;rw[p];exact⟨rfl,by simp⟩
theorem WjU (h:GA A)(hw:Ow A sp)(k:Int):St A (growS A sp k).1 sp (growS A sp k).2/\(growS A sp k).1.runs=A.runs/\(growS A sp k).1.tra=A.tra/\(∀j y,TkA (growS A sp k).1 j y↔TkA A j y)/\(KO A sp k≠0->growS A sp k=(A,sp)):=by
 rcases Wa1 h hw k with⟨e,_⟩|⟨j,c,ss,x,A1,sp1,rfl,hk,hk1,hE,e,hst,r1,r2,r3,_,hd,hS⟩
 ·rw[e];exact⟨St.refl h hw,rfl,rfl,λ_ _=>Iff.rfl,λ_=>rfl⟩
 ·refine⟨hS,by rw[e];exact r1,by rw[e];exact r2,λi y=>?_,λd=>(d hE).elim⟩;rw[e];have b:Cl (useA A1 x c.pages (j+1)) j c ss:=hk1;rw[Wcb b,Wiy (h.cen j c ss hk) hd];have g:TkA (useA A1 x c.pages (j+1)) i y↔TkA A i y:=by
   have:(useA A1 x c.pages (j+1)).tb=A.tb/\(useA A1 x c.pages (j+1)).cen=A.cen:=⟨hst.tb,r3⟩;unfold TkA Cl;rw[this.1,this.2]
  rw[g];by_cases hij:i=j
  ·subst hij;rw[KQ hk];exact⟨λa=>by rcases a with⟨_,a⟩|⟨a,_⟩;exact a;exact(a rfl).elim,λa=>.inl ⟨rfl,a⟩⟩
  ·exact⟨λa=>by rcases a with⟨a,_⟩|⟨_,a⟩;exact(hij a).elim;exact a,λa=>.inr ⟨hij,a⟩⟩
theorem Weh {m a:Int}(h:Kc m a=true):∃x y:Nat,m=x/\a=y/\1<=x/\x<=64/\(y=1\/y=2\/y=4\/y=8\/y=16):=by
 unfold Kc at h;simp only[zF,zS,zBM,zX]at h;exact⟨m.toNat,a.toNat,O,O,O,O,O⟩
theorem WdA (h:GA A)(hw:Ow A sp)(m a:Int) :
 (takeAS A sp m a=(A,sp)/\Qz A sp m a≠0/\(Kc m a=true->Qz A sp m a=6/\Zu A.n A.S m.toNat a.toNat=none/\growStart sp (Q4 (max m.toNat a.toNat))=none)) ∨
 ∃(x:Nat) (A1:AR) (sp1:Sp),Kc m a=true/\Qz A sp m a=0/\Z5 A sp m a=x/\takeAS A sp m a=({useA A1 x m.toNat 41 with runs:=A.runs++[(x,m.toNat)]},sp1) ∧
  Zu A1.n A1.S m.toNat a.toNat=some x/\(A1=A/\sp1=sp\/Zu A.n A.S m.toNat a.toNat=none/\∃s,growStart sp (Q4 (max m.toNat a.toNat))=some s/\Grown A A1 sp sp1 s (Q4 (max m.toNat a.toNat))) ∧
  St A (takeAS A sp m a).1 sp (takeAS A sp m a).2/\(takeAS A sp m a).1.tra=A.tra/\(∀j y,TkA (takeAS A sp m a).1 j y↔TkA A j y):=by
 by_cases hp:Kc m a=true
 ·obtain⟨b,u,rfl,rfl,M,L,V⟩:=Weh hp;have G:Qz A sp (b:Int) (u:Int)=if(getA A sp b u 41).1.isSome then 0 else 6:=by unfold Qz;rw[zB hp,iTn,iTn]
  have J:Z5 A sp (b:Int) (u:Int)=(getA A sp b u 41).1.getD 0:=by unfold Z5;rw[zB hp,iTn,iTn]
  rcases WbG h hw (m:=b) (a:=u) (no:=41) M L O with⟨hg,hn1,hn2⟩|⟨x,A1,sp1,hg,htk,hor⟩
  ·left;have H:takeAS A sp (b:Int) (u:Int)=(A,sp):=by unfold takeAS;rw[zB hp,iTn,iTn,hg]
   rw[H,G,hg,iTn,iTn];exact⟨rfl,by simp,λ_=>⟨rfl,hn1,hn2⟩⟩
  ·right;have z:GA A1:=by
    rcases hor with⟨rfl,rfl⟩|⟨_,s,_,g⟩
    ·exact h
    ·exact h.grown g
   have w:St A A1 sp sp1:=by
    rcases hor with⟨rfl,rfl⟩|⟨_,s,_,g⟩
    ·exact St.refl h hw
    ·exact g.st h hw
   have d:A1.runs=A.runs/\A1.tra=A.tra/\A1.cen=A.cen:=by
    rcases hor with⟨rfl,rfl⟩|⟨_,s,_,g⟩
    ·exact⟨rfl,rfl,rfl⟩
    ·exact⟨g.runs,g.tra,g.cen⟩
   have D:=Wc1 z.pg htk;have B:∀r∈A.runs,r.1≠x:=λr K e=>by
    have C:r∈A1.runs:=by rw[d.1];exact K
    have:=z.rpos r C;have R:=(z.usedR C (p:=x) O O).1;have U:=(z.pg.fr x).1 (D x O O);omega
   have i:takeAS A sp (b:Int) (u:Int)=({useA A1 x b 41 with runs:=A.runs++[(x,b)]},sp1):=by
    unfold takeAS;rw[zB hp,iTn,iTn,hg];show({useA A1 x b 41 with runs:=takeAS.mset2 A1.runs x b},sp1)=_;rw[d.1,WiY B]
   have F:=z.addRun O D;rw[d.1]at F;have kp:=WhJ z.pg (no:=41) O O D;refine⟨x,A1,sp1,hp,by rw[G,hg];rfl,by rw[J,hg];rfl,by rw[iTn];exact i,by rw[iTn,iTn];exact htk,by rw[iTn,iTn];exact hor,?_,by rw[i];exact d.2.1,λj y=>?_⟩
   ·rw[i];exact w.trans (St.kp F w.ow (kp.trans (Kp.pages rfl rfl rfl rfl)))
   ·rw[i];have Q:({useA A1 x b 41 with runs:=A.runs++[(x,b)]}:AR).tb=A.tb:=w.tb;have N:({useA A1 x b 41 with runs:=A.runs++[(x,b)]}:AR).cen=A.cen:=d.2.2;unfold TkA Cl;rw[Q,N]
 ·left;have E:Kc m a=false:=by simpa using hp
  unfold takeAS Qz;rw[E];exact⟨rfl,by simp,λP=>by cases P⟩
theorem Wg6 {x:Int}{r:Nat×Nat}(h:Wbi A x=some r):r∈A.runs/\x=(r.1:Int):=by
 unfold Wbi at h;exact⟨zDF h,by have:=zDE h;simpa using Eq.symm (by simpa using this)⟩
theorem WiG (h:GA A)(x:Int):(Kp A (QH A x)/\GA (QH A x))/\(QH A x).tra=A.tra/\(∀j y,TkA (QH A x) j y↔TkA A j y)/\(KR A x≠0->QH A x=A) ∧
 (KR A x=0->∃r∈A.runs,x=(r.1:Int)/\(QH A x).runs=A.runs.filter λq=>!(q==r)):=by
 cases hr:Wbi A x with
 | none=>
  have e:QH A x=A:=by unfold QH;rw[hr]
  have C:KR A x=8:=by unfold KR;rw[hr];rfl
  rw[e,C];exact⟨⟨Kp.refl A,h⟩,rfl,λ_ _=>Iff.rfl,λ_=>rfl,λi=>by cases i⟩
 | some r=>
  obtain⟨b,i⟩:=Wg6 hr;have u:=h.rpos r b;have s:A.runs.filter (λq=>!((q.1:Int)==x))=A.runs.filter λq=>!(q==r):=by
   apply zFG;intro q g;have:((q.1:Int)==x)=(q==r):=by
    rw[zBD];simp only[zX];constructor
    ·intro e;have H:=h.rpos q g;exact h.runs_uniq g b (x:=q.1) O O O O
    ·rintro rfl;exact i.symm
   rw[this]
  have e:QH A x=VY {A with runs:=A.runs.filter λq=>!(q==r)} r:=by unfold QH;rw[hr];simp only;rw[s]
  have C:KR A x=0:=by unfold KR;rw[hr];rfl
  obtain⟨a,m⟩:=r;obtain⟨o,B,pg,J⟩:=WfS (A:={A with runs:=A.runs.filter λq=>!(q==(a,m))}) (h.pg.same rfl rfl rfl rfl) u (λp E D=>(h.usedR b E D).1);have own:∀p,a<=p->p<a+m->A.ow p=41:=λp E D=>(h.usedR b E D).2;have G:=h.tb;rw[e,C];refine⟨⟨⟨rfl,rfl,rfl,J,λp F=>?_⟩,?_⟩,rfl,λ_ _=>Iff.rfl,λi=>(i rfl).elim,λ_=>⟨_,b,i,rfl⟩⟩
  ·by_cases hin:a<=p/\p<a+m
   ·rw[(B p hin.1 hin.2).1]at F;omega
   ·rw[o.f p hin]at F;exact F
  ·refine⟨pg,h.tb,h.lc,h.lt,h.cen,h.one,λj d tt w p=>?_,λp=>?_,λp=>?_,λq g=>h.rpos q (zH.1 g).1,h.rdis.filter _,h.trn,h.trt,h.trb⟩
   ·have w:Cl A j d tt:=w;have:=w.lt;by_cases hin:a<=p/\p<a+m
    ·rw[(B p hin.1 hin.2).2,←h.ow j d tt w p,own p hin.1 hin.2];omega
    ·rw[o.ow p hin];exact h.ow j d tt w p
   ·show _↔inR (A.runs.filter λq=>!(q==(a,m))) p;by_cases hin:a<=p/\p<a+m
    ·rw[(B p hin.1 hin.2).2];constructor
     ·intro i;omega
     ·rintro⟨q,g,q1,q2⟩;have z:=zH.1 g;have:=h.runs_uniq z.1 b q1 q2 hin.1 hin.2;subst this;simp at z
    ·rw[o.ow p hin];show A.ow p=41↔_;rw[h.ow41];constructor
     ·rintro⟨q,g,q1⟩;refine⟨q,zH.2 ⟨g,?_⟩,q1⟩;have:q≠(a,m):=by rintro rfl;exact hin q1
      simpa using this
     ·rintro⟨q,g,q1⟩;exact⟨q,(zH.1 g).1,q1⟩
   ·by_cases hin:a<=p/\p<a+m
    ·rw[(B p hin.1 hin.2).2];omega
    ·rw[o.ow p hin];exact h.owb p
theorem Whb (hk:Cl A k c ss):QL A k=swp A k c ss:=by unfold QL swp;rw[hk.1,hk.2]
theorem Wdk (h:GA A):∀m,m<=A.tb.length->Ob A ((List.range m).foldl QL A)/\((List.range m).foldl QL A).tra=A.tra/\∀j y,TkA ((List.range m).foldl QL A) j y↔TkA A j y
 | 0,_=>⟨⟨h,Kp.refl A,rfl⟩,rfl,λ_ _=>Iff.rfl⟩
 | m+1,hm=>by
  obtain⟨o,e,t⟩:=Wdk h m O;rw[zAC,zAT,zAI,List.foldl_nil];generalize (List.range m).foldl QL A=B at o e t;obtain⟨c,d,_,a,_⟩:=o.ga.cl (k:=m) (by rw[o.kp.tb];omega);rw[Whb a];have b:=o.ga.swpB a;exact⟨⟨o.ga.swp a,o.kp.trans (o.ga.swpK a),b.runs.trans o.runs⟩,b.tra.trans e,λj y=>(o.ga.swpT a).trans (t j y)⟩
theorem Uv (h:GA A):Ob A (YI A)/\(YI A).tra=A.tra/\∀j y,TkA (YI A) j y↔TkA A j y:=Wdk h _ (zC _)
theorem Wfa (k:Nat):∀(outs:List (List Int)) {A:AR},GA A->outs.flatten.Nodup->(∀x∈outs.flatten,TkA A k x/\¬InT A k x) →
 Ob A (outs.foldl (λA' xs=>Zg A' (k:Int) xs) A)/\(outs.foldl (λA' xs=>Zg A' (k:Int) xs) A).tra=A.tra/\∀j y,TkA (outs.foldl (λA' xs=>Zg A' (k:Int) xs) A) j y↔TkA A j y/\¬(j=k/\y∈outs.flatten)
 | [],A,h,_,_=>⟨⟨h,Kp.refl A,rfl⟩,rfl,by simp⟩
 | xs::outs,A,h,hn,ht=>by
  rw[zDU]at hn ht;have hn':=zBK.1 hn;have m:∀x∈xs,TkA A k x/\¬InT A k x:=λx i=>ht x (zBF _ i);rw[zAI];cases xs with
  | nil=>
   have s:Zg A (k:Int) []=A\/QW A (k:Int) []=0:=by
    by_cases w:QW A (k:Int) []=0
    ·exact .inr w
    ·exact .inl (by unfold Zg;rw[zA w])
   obtain⟨o,e,t,_⟩:=Wcw h (k:=(k:Int)) (xs:=[]) (λ_=>by simp);have u:∀j y,TkA (Zg A (k:Int) []) j y↔TkA A j y:=λj y=>by
    rcases s with s|s
    ·rw[s]
    ·rw[t s];simp
   have p:∀j y,InT (Zg A (k:Int) []) j y↔InT A j y:=λj y=>by unfold InT;rw[e]
   obtain⟨o2,B,z⟩:=Wfa k outs o.ga hn'.2.1 λx i=>by rw[u,p];exact ht x (zBV _ i)
   exact⟨⟨o2.ga,o.kp.trans o2.kp,o2.runs.trans o.runs⟩,B.trans e,λj y=>by rw[z,u];simp⟩
  | cons x0 xs=>
   obtain⟨c,D,C,_⟩:=(m x0 aA).1;have w:QW A (k:Int) (x0::xs)=0:=by
    rw[H7 h C];exact Whj ⟨λx i=>(KQ C).1 (m x i).1,hn'.1⟩
   obtain⟨o,e,t,_⟩:=Wcw h (k:=(k:Int)) (xs:=x0::xs) (λ_ x i=>by rw[iTn];exact(m x i).2);have u:=t w;have p:∀j y,InT (Zg A (k:Int) (x0::xs)) j y↔InT A j y:=λj y=>by unfold InT;rw[e]
   obtain⟨o2,B,z⟩:=Wfa k outs o.ga hn'.2.1 λx i=>by
    rw[u,p];have:=ht x (zBV _ i);exact⟨⟨this.1,λg=>hn'.2.2 x g.2 x i rfl⟩,this.2⟩
   refine⟨⟨o2.ga,o.kp.trans o2.kp,o2.runs.trans o.runs⟩,B.trans e,λj y=>?_⟩;rw[z,u,iTn,zDU,zR];constructor
   ·rintro⟨⟨a,b⟩,d⟩;refine⟨a,λ⟨r,g⟩=>?_⟩;rcases g with g|g
    ·exact b ⟨r,g⟩
    ·exact d ⟨r,g⟩
   ·rintro⟨a,b⟩;exact⟨⟨a,λ⟨r,g⟩=>b ⟨r,.inl g⟩⟩,λ⟨r,g⟩=>b ⟨r,.inr g⟩⟩
structure Tck (A B:AR):Prop where
 ob:Ob A B
 sub:∀j y,InT B j y->InT A j y
 tk:∀j y,TkA B j y↔TkA A j y/\(InT A j y->InT B j y)
theorem Tck.trans {B C:AR}(h:Tck A B)(k:Tck B C):Tck A C:=
 ⟨⟨k.ob.ga,h.ob.kp.trans k.ob.kp,k.ob.runs.trans h.ob.runs⟩,λj y g=>h.sub j y (k.sub j y g),λj y=>by
  rw[k.tk,h.tk];exact⟨λ⟨⟨a,b⟩,d⟩=>⟨a,λe=>d (b e)⟩,λ⟨a,b⟩=>⟨⟨a,λe=>k.sub j y (b e)⟩,λe=>b (h.sub j y e)⟩⟩⟩
theorem WiE (h:GA A)(hk:k<A.tb.length):Tck A (Kq A k):=by
 obtain⟨c,J,t,E,m⟩:=h.cl hk;have p:k<A.tra.length:=by rw[h.lt];exact hk
 have e:Kq A k=t.out.foldl (λA' w=>Zg A' (k:Int) w) {A with tra:=A.tra.set k t.tick}:=by unfold Kq;rw[m]
 have C:t.bs=t.out++t.tick.bs:=(zBE ((t.low+1)/2) t.bs).symm;have i:t.bs.flatten=t.out.flatten++t.tick.bs.flatten:=by conv=>lhs;rw[C];rw[zGC]
 have r:=h.trn k t m;rw[i]at r;have g:=zBK.1 r;have s:∀x∈t.bs.flatten,TkA A k x:=λx d=>(KQ E).2 (h.trt k c J t E m x d);have H:GA {A with tra:=A.tra.set k t.tick}:=h.setTra g.2.1 (λx d=>s x (by rw[i];exact zBV _ d)) λG z w B=>h.trb k G t z m w (t.tick_sub w B);obtain⟨o,D,F⟩:=Wfa k t.out H g.1 λx d=>by
  refine⟨s x (by rw[i];exact zBF _ d),?_⟩;rw[WcG p];rintro(⟨_,hy⟩|⟨hy,_⟩)
  ·exact g.2.2 x d x hy rfl
  ·exact hy rfl
 rw[←e]at o D F;have u:∀j y,InT (Kq A k) j y↔(j=k/\y∈t.tick.bs.flatten)\/(j≠k/\InT A j y):=λj y=>by
  rw[←WcG p];unfold InT;rw[D]
 refine⟨⟨o.ga,(Kp.pages rfl rfl rfl rfl:Kp A {A with tra:=A.tra.set k t.tick}).trans o.kp,o.runs⟩,λj y d=>?_,λj y=>?_⟩
 ·rcases(u j y).1 d with⟨rfl,hy⟩|⟨_,hy⟩
  ·rw[GE m,i];exact zBV _ hy
  ·exact hy
 ·rw[F,u];show TkA A j y/\_↔_;by_cases hjk:j=k
  ·subst hjk;rw[GE m,i,zR];constructor
   ·rintro⟨a,b⟩;refine⟨a,λd=>?_⟩;rcases d with d|d
    ·exact(b ⟨rfl,d⟩).elim
    ·exact .inl ⟨rfl,d⟩
   ·rintro⟨a,b⟩;refine⟨a,λ⟨_,d⟩=>?_⟩;rcases b (.inl d)with⟨_,hy⟩|⟨hy,_⟩
    ·exact g.2.2 y d y hy rfl
    ·exact hy rfl
  ·exact⟨λ⟨a,_⟩=>⟨a,λd=>.inr ⟨hjk,d⟩⟩,λ⟨a,_⟩=>⟨a,λ⟨d,_⟩=>hjk d⟩⟩
theorem Wfz (h:GA A):∀m,m<=A.tb.length->Tck A ((List.range m).foldl Kq A)
 | 0,_=>⟨⟨h,Kp.refl A,rfl⟩,λ_ _=>id,λ_ _=>⟨λa=>⟨a,id⟩,λa=>a.1⟩⟩
 | m+1,hm=>by
  have t:=Wfz h m O;rw[zAC,zAT,zAI,List.foldl_nil];exact t.trans (WiE t.ob.ga (by rw[t.ob.kp.tb];omega))
theorem WkE (h:GA A):Tck A (UX A):=Wfz h _ (by rw[h.lt];exact zC _)
end Go.Ar
namespace Go.Ar
open Go.Bu (Zf QM runS Zu Wbq allF Vk V9 give take Kh Ke Bounded)
variable {A:AR}{sp:Sp}{k:Nat}{c:Cls}{ss:List SpA}
theorem Wcc {st:List Nat}{a m v:Nat}(hl:a+m<=st.length):v∈(st.drop a).take m↔∃p,a<=p/\p<a+m/\gf st p=v:=by
 constructor
 ·intro hm;obtain⟨i,b⟩:=zN hm;rw[zY]at b;split at b
  ·rename_i hlt;rw[zn]at b;refine⟨a+i,O,O,?_⟩;unfold gf;rw[zL,b];rfl
  ·cases b
 ·rintro⟨p,h1,h2,h3⟩;have d:p<st.length:=by omega
  unfold gf at h3;rw[zL,gGe d]at h3;refine zE (i:=p-a) ?_;rw[zY,zB O,zn,show a+(p-a)=p by omega,gGe d];exact congrArg some h3
theorem Hq {st:List Nat}{a b v:Nat}(hab:a<=b)(hb:b<=st.length):cntR st a b v=0↔∀p,a<=p->p<b->gf st p≠v:=by
 unfold cntR;rw[zEY,Wcc O];constructor
 ·intro h p d g e;exact h ⟨p,d,O,e⟩
 ·rintro h ⟨p,d,g,e⟩;exact h p d O e
theorem WdU {s m v:Nat}(h1:1<=m)(h2:s+m<=sp.st.length)(h:∀p,s<=p->p<s+m->gf sp.st p≠0):leaveS sp (s:Int) (m:Int) v=sp.set s m v:=by
 unfold leaveS leaveE;rw[zB (Vb.2 ⟨h1,h2⟩),iTn,iTn,(Wiz h2).2 h];rfl
theorem WlY {s m v:Nat}(h2:s+m<=sp.st.length)(p:Nat):gf (sp.set s m v).st p=if s<=p/\p<s+m then v else gf sp.st p:=HA h2
theorem Wl0 {s m v x:Nat}(h:¬(s<=x/32/\x/32<s+m)):(sp.set s m v).wd x=sp.wd x:=by
 show(if s*32<=x/\x<(s+m)*32 then 0 else sp.wd x)=_
 rw[zA O]
structure Trm (A B:AR) (sp sp':Sp) (l:List Nat):Prop where
 st:St A B sp sp'
 f:∀p,B.f p=if p/16∈l then 0 else A.f p
 ow:B.ow=A.ow
 tra:B.tra=A.tra
 cen:B.cen=A.cen
 runs:B.runs=A.runs
 wd:∀x,x/32/16∉l->sp'.wd x=sp.wd x
 gf:∀p,p/16∉l->gf sp'.st p=gf sp.st p
 pk:sp'.pk=sp.pk
theorem Wkq (h:GA A)(hw:Ow A sp){g:Nat}(hg:16*g+16<=A.n)(hi:∀p,p/16=g->2<=A.f p):Trm A (Vd (A,sp) g).1 sp (Vd (A,sp) g).2 [g]:=by
 have w:∀p,16*g<=p/\p<16*g+16↔p/16=g:=λp=>by omega
 have F:(Vd (A,sp) g).1.st=setR A.st (16*g) (16*g+16) 0:=by
  show remT A.st (g:Int)=_;have C:WgR A.st g=true:=by
   unfold WgR;have r:=hi (16*g) O;have i:=(Hq (st:=A.st) (a:=16*g) (b:=16*g+16) (v:=1) O (by rw[h.pg.len];exact hg)).2 λp E D e=>by
    have:=hi p O;unfold AR.f at this;omega
   unfold AR.f gf at r;have B:A.st.getD (16*g) 0≠0:=by omega
   rw[i,bne_iff_ne.2 B];rfl
  unfold remT remE;rw[UI (by rw[h.pg.len];exact hg),zB rfl,iTn,C];rfl
 have H:(Vd (A,sp) g).1.S=take A.S (g*16) (g*16+16):=Wm0 (n:=A.n) (S:=A.S) (a:=g*16) (m:=16) O O λp E D=>by rw[h.pg.fr];exact hi p O
 have y:(Vd (A,sp) g).2=sp.set (g*16) 16 0:=WdU (sp:=sp) (s:=g*16) (m:=16) (v:=0) O (by rw[hw.l];omega) λp E D=>hw.own p (by have:=hi p O;omega);have z:g*16+16<=sp.st.length:=by rw[hw.l];omega
 have j:∀p,(Vd (A,sp) g).1.f p=if p/16=g then 0 else A.f p:=λp=>by
  unfold AR.f;rw[F,HA (by rw[h.pg.len];exact hg)];by_cases hp:p/16=g
  ·rw[zB hp,zB ((w p).2 hp)]
  ·rw[zA hp,zA (λd=>hp ((w p).1 d))]
 have u:∀p,gf (Vd (A,sp) g).2.st p=if p/16=g then 0 else gf sp.st p:=λp=>by
  rw[y,WlY z];by_cases hp:p/16=g
  ·rw[zB hp,zB O]
  ·rw[zA hp,zA O]
 have pg:PG (Vd (A,sp) g).1:=by
  refine⟨by rw[F,Qj];exact h.pg.len,h.pg.n1,h.pg.n2,h.pg.n16,λp=>?_,λp=>?_,λp=>?_,λp=>?_⟩
  ·rw[j];have:=h.pg.le p;split<;>omega
  ·rw[j];show _↔A.ow p≠0;have:=h.pg.us p;by_cases hp:p/16=g
   ·rw[zB hp];have:=hi p hp;constructor
    ·intro d;omega
    ·intro d;have:=(h.pg.us p).2 d;omega
   ·rw[zA hp];exact this
  ·rw[j,H,Ke];have:=h.pg.fr p;by_cases hp:p/16=g
   ·rw[zB hp];constructor
    ·rintro⟨_,d⟩;exact(d O).elim
    ·intro d;omega
   ·rw[zA hp];constructor
    ·rintro⟨d,_⟩;exact this.1 d
    ·intro d;exact⟨this.2 d,O⟩
  ·rw[j,j];have e:p/16*16/16=p/16:=by omega
   rw[e];split
   ·exact Iff.rfl
   ·exact h.pg.hp p
 have J:GA (Vd (A,sp) g).1:=⟨pg,h.tb,h.lc,h.lt,h.cen,h.one,h.ow,h.ow41,h.owb,h.rpos,h.rdis,h.trn,h.trt,h.trb⟩;refine⟨⟨J,⟨by rw[y];show(setR _ _ _ _).length=A.n;rw[Qj];exact hw.l,λp hp=>?_,λp hp=>?_,λp=>?_⟩,rfl,rfl,rfl,λp r i=>?_,λp r i=>?_,λp r i=>?_⟩,λp=>?_,rfl,rfl,rfl,rfl,λx d=>?_,λp hp=>?_,?_⟩
 ·rw[j]at hp;rw[u];split at hp
  ·exact(hp rfl).elim
  ·rename_i hn;rw[zA hn];exact hw.own p hp
 ·rw[j]at hp;rw[u];split at hp
  ·cases hp
  ·rename_i hn;rw[zA hn];exact hw.cl p hp
 ·rw[u];have:=hw.le p;split<;>omega
 ·rw[u];by_cases hp:p/16=g
  ·have:=hi p hp;omega
  ·rw[zA hp]
 ·rw[j]at i;rw[u];split at i
  ·rename_i hp;rw[zB hp]
  ·exact(r i).elim
 ·rw[j]at i;split at i
  ·exact(i rfl).elim
  ·exact(i r).elim
 ·rw[j];simp
 ·rw[y];exact Wl0 λG=>d aE
 ·rw[u,zA (by simpa using hp)]
 ·rw[y];rfl
theorem Wf3:∀(l:List Nat) {A:AR} {sp:Sp},GA A->Ow A sp->l.Nodup->(∀g∈l,16*g+16<=A.n/\∀p,p/16=g->2<=A.f p)->Trm A (l.foldl Vd (A,sp)).1 sp (l.foldl Vd (A,sp)).2 l
 | [],A,sp,h,hw,_,_=>⟨St.refl h hw,λp=>by simp,rfl,rfl,rfl,rfl,λ_ _=>rfl,λ_ _=>rfl,rfl⟩
 | g::l,A,sp,h,hw,hn,hi=>by
  have hn':=zo.1 hn;have t:=Wkq h hw (hi g aA).1 (hi g aA).2;have k:=Wf3 l (A:=(Vd (A,sp) g).1) (sp:=(Vd (A,sp) g).2) t.st.ga t.st.ow hn'.2 λe a=>by
   refine⟨by rw[t.st.n];exact(hi e (by simp[a])).1,λp b=>?_⟩;rw[t.f,zA (by simp;rintro rfl;exact hn'.1 (b▸a))];exact(hi e (by simp[a])).2 p b
  rw[zAI];refine⟨t.st.trans k.st,λp=>?_,k.ow.trans t.ow,k.tra.trans t.tra,k.cen.trans t.cen,k.runs.trans t.runs,λx d=>?_,λp b=>?_,k.pk.trans t.pk⟩
  ·rw[k.f,t.f];by_cases h1:p/16∈l
   ·rw[zB h1,zB (by simp[h1])]
   ·rw[zA h1];by_cases h2:p/16=g
    ·rw[zB (by simp[h2]),zB (by simp[h2])]
    ·rw[zA (by simp[h2]),zA (by simp[h1,h2])]
  ·simp only[zQ,not_or]at d;exact(k.wd x d.2).trans (t.wd x (by simpa using d.1))
  ·simp only[zQ,not_or]at b;exact(k.gf p b.2).trans (t.gf p (by simpa using b.1))
theorem WcZ (h:GA A){g:Nat}:g∈Kg A.st 0↔16*g+16<=A.n/\∀p,p/16=g->2<=A.f p:=by
 have u:=h.pg.n16;unfold Kg;rw[zH,zV,h.pg.len];have m:∀(d:16*g+16<=A.n),(KM A.st g==0)=true↔∀p,p/16=g->A.f p≠1:=λd=>by
  have i:=Hq (st:=A.st) (a:=16*g) (b:=16*g+16) (v:=1) O (by rw[h.pg.len];exact d);have e:(KM A.st g==0)=true↔cntR A.st (16*g) (16*g+16) 1=0:=by
   unfold KM;split
   ·rename_i hx;simp[hx]
   ·rename_i hx;constructor
    ·intro hy;split at hy<;>simp at hy
    ·intro hy;exact(hx hy).elim
  rw[e,i];constructor
  ·intro hx p j;exact hx p O O
  ·intro hx p p1 p2;exact hx p O
 simp only[zF,bne_iff_ne,ne_eq];constructor
 ·rintro⟨h1,i,h3⟩;have d:16*g+16<=A.n:=by omega
  refine⟨d,λp j=>?_⟩;have s:=(m d).1 h3 p j;have r:A.f p≠0:=λe=>i ((h.pg.hp2 (q:=16*g) O).1 e);omega
 ·rintro⟨d,i⟩;refine⟨O,λe=>?_,(m d).2 λp j e=>?_⟩
  ·have e:A.f (16*g)=0:=e;have:=i (16*g) O;omega
  ·have:=i p j;omega
theorem We7 (st:List Nat)(k:Nat):(Kg st k).Nodup:=List.nodup_range.filter _
theorem WkJ (h:GA A)(hw:Ow A sp):Trm A (trimS A sp).1 sp (trimS A sp).2 (Kg A.st 0):=Wf3 _ h hw (We7 _ _) λg a=>(WcZ h).1 a
structure Rlz (A B:AR) (sp sp':Sp) (rs:List (Nat×Nat)):Prop where
 st:St A B sp sp'
 i:∀p,inR rs p->A.f p=2/\B.f p=3/\gf sp'.st p=1
 o:∀p,¬inR rs p->B.f p=A.f p/\gf sp'.st p=gf sp.st p
 ow:B.ow=A.ow
 tra:B.tra=A.tra
 cen:B.cen=A.cen
 runs:B.runs=A.runs
 wd:∀x,¬inR rs (x/32)->sp'.wd x=sp.wd x
 pk:sp'.pk=sp.pk
theorem WnS (h:GA A)(hw:Ow A sp){a m:Nat}(h1:1<=m)(hi:∀p,a<=p->p<a+m->A.f p=2):Rlz A (rel1 (A,sp) (a,m)).1 sp (rel1 (A,sp) (a,m)).2 [(a,m)]:=by
 have y:a+m<=A.n:=by have:=h.pg.lt (p:=a+m-1) (by rw[hi _ O O];omega);omega
 have g:∀p,inR [(a,m)] p↔a<=p/\p<a+m:=λp=>by simp[inR]
 have B:(rel1 (A,sp) (a,m)).1.st=setR A.st a (a+m) 3:=WcW h1 (by rw[h.pg.len];exact y) λp z w=>by
  have:=hi p z w;unfold AR.f at this;rw[this];simp
 have j:a+m<=sp.st.length:=by rw[hw.l];exact y
 have u:(rel1 (A,sp) (a,m)).2=sp.set a m 1:=WdU h1 j λp z w=>hw.own p (by rw[hi p z w];omega);have d:∀p,(rel1 (A,sp) (a,m)).1.f p=if a<=p/\p<a+m then 3 else A.f p:=λp=>by unfold AR.f;rw[B,HA (by rw[h.pg.len];exact y)]
 have i:∀p,gf (rel1 (A,sp) (a,m)).2.st p=if a<=p/\p<a+m then 1 else gf sp.st p:=λp=>by rw[u,WlY j]
 have r:∀p,(rel1 (A,sp) (a,m)).1.f p=0↔A.f p=0:=λp=>by
  rw[d];split
  ·rename_i b;rw[hi p b.1 b.2];omega
  ·exact Iff.rfl
 have pg:PG (rel1 (A,sp) (a,m)).1:=by
  refine⟨by rw[B,Qj];exact h.pg.len,h.pg.n1,h.pg.n2,h.pg.n16,λp=>?_,λp=>?_,λp=>?_,Wnk h.pg r⟩
  ·rw[d];have:=h.pg.le p;split<;>omega
  ·rw[d];show _↔A.ow p≠0;rw[←h.pg.us p];split
   ·rename_i b;rw[hi p b.1 b.2];omega
   ·exact Iff.rfl
  ·rw[d];show A.S p=true↔_;rw[h.pg.fr p];split
   ·rename_i b;rw[hi p b.1 b.2];omega
   ·exact Iff.rfl
 have D:GA (rel1 (A,sp) (a,m)).1:=⟨pg,h.tb,h.lc,h.lt,h.cen,h.one,h.ow,h.ow41,h.owb,h.rpos,h.rdis,h.trn,h.trt,h.trb⟩;refine⟨⟨D,⟨by rw[u];show(setR _ _ _ _).length=A.n;rw[Qj];exact hw.l,λp b=>?_,λp b=>?_,λp=>?_⟩,rfl,rfl,rfl,λp h1 s=>?_,λp h1 s=>(h1 ((r p).1 s)).elim,λp h1 s=>(s ((r p).2 h1)).elim⟩,λp b=>?_,λp b=>?_,rfl,rfl,rfl,rfl,λx C=>?_,?_⟩
 ·rw[i];split
  ·omega
  ·rename_i hn;exact hw.own p λe=>b ((r p).2 e)
 ·rw[d]at b;rw[i];split at b
  ·rename_i hn;rw[zB hn]
  ·rename_i hn;rw[zA hn];exact hw.cl p b
 ·rw[i];have:=hw.le p;split<;>omega
 ·rw[i,zA λb=>by have:=hi p b.1 b.2;omega]
 ·rw[g]at b;rw[d,i,zB b,zB b];exact⟨hi p b.1 b.2,rfl,rfl⟩
 ·rw[g]at b;rw[d,i,zA b,zA b];exact⟨rfl,rfl⟩
 ·rw[g]at C;rw[u];exact Wl0 C
 ·rw[u];rfl
theorem Wjk:∀(rs:List (Nat×Nat)) {A:AR} {sp:Sp},GA A->Ow A sp->(∀r∈rs,1<=r.2/\∀p,r.1<=p->p<r.1+r.2->A.f p=2)->rs.Pairwise (λa b=>a.1+a.2<=b.1\/b.1+b.2<=a.1) →
 Rlz A (rs.foldl rel1 (A,sp)).1 sp (rs.foldl rel1 (A,sp)).2 rs
 | [],A,sp,h,hw,_,_=>⟨St.refl h hw,λp ⟨r,hr,_⟩=>by simp at hr,λp _=>⟨rfl,rfl⟩,rfl,rfl,rfl,rfl,λ_ _=>rfl,rfl⟩
 | (a,m)::rs,A,sp,h,hw,hi,hd=>by
  have hd':=zAS.1 hd;have j:=hi (a,m) (zAN ..);have t:=WnS h hw j.1 j.2;have e:∀p,inR [(a,m)] p↔a<=p/\p<a+m:=λp=>by simp[inR]
  have d:∀p,inR ((a,m)::rs) p↔(a<=p/\p<a+m)\/inR rs p:=λp=>by simp[inR]
  have k:=Wjk rs (A:=(rel1 (A,sp) (a,m)).1) (sp:=(rel1 (A,sp) (a,m)).2) t.st.ga t.st.ow (λr hr=>by
   have:=hi r (zAJ _ hr);refine⟨this.1,λp C B=>?_⟩;have u:=hd'.1 r hr;simp only at u;rw[(t.o p (by rw[e];omega)).1];exact this.2 p C B) hd'.2
  rw[zAI];refine⟨t.st.trans k.st,λp w=>?_,λp w=>?_,k.ow.trans t.ow,k.tra.trans t.tra,k.cen.trans t.cen,k.runs.trans t.runs,λx u=>?_,k.pk.trans t.pk⟩
  ·by_cases s:inR rs p
   ·have:=k.i p s;refine⟨?_,this.2⟩;by_cases g:a<=p/\p<a+m
    ·exact j.2 p g.1 g.2
    ·rw[←(t.o p (by rw[e];exact g)).1];exact this.1
   ·have g:a<=p/\p<a+m:=((d p).1 w).resolve_right s;have y:=t.i p ((e p).2 g);have z:=k.o p s;exact⟨y.1,z.1.trans y.2.1,z.2.trans y.2.2⟩
  ·rw[d]at w;have s:¬inR rs p:=λh=>w (.inr h);have g:¬inR [(a,m)] p:=λh=>w (.inl ((e p).1 h));exact⟨(k.o p s).1.trans (t.o p g).1,(k.o p s).2.trans (t.o p g).2⟩
  ·rw[d]at u;exact(k.wd x λh=>u (.inr h)).trans (t.wd x λh=>u (.inl ((e _).1 h)))
theorem WiQ {st:List Nat}{p m:Nat}(hl:p+m<=st.length):runL st p m<=m/\(∀x,p<=x->x<p+runL st p m->gf st x=2)/\(runL st p m<m->gf st (p+runL st p m)≠2):=by
 have key:∀(l:List Nat),(l.takeWhile (· == 2)).length<=l.length/\(∀i,i<(l.takeWhile (· == 2)).length->l[i]?=some 2)/\((l.takeWhile (· == 2)).length<l.length->l[(l.takeWhile (· == 2)).length]?≠some 2):=by
  intro l
  induction l with
  | nil=>simp
  | cons x l ih=>
   rw[zEV];by_cases hx:x=2
   ·subst hx;simp only[beq_self_eq_true,zT,zP];refine⟨O,λi g=>?_,λa=>?_⟩
    ·cases i with
     | zero=>rfl
     | succ i=>simpa using ih.2.1 i O
    ·simpa using ih.2.2 O
   ·have:(x==2)=false:=by simpa using hx
    simp[this,hx]
 have k:=key ((st.drop p).take m);have b:((st.drop p).take m).length=m:=by simp;omega
 have get:∀i,i<m->((st.drop p).take m)[i]?=some (gf st (p+i)):=λi g=>by
  rw[zY,zB g,zn];unfold gf;rw[zL,gGe O];rfl
 rw[b]at k;refine⟨k.1,λx s r=>?_,λa=>?_⟩
 ·have d:=k.2.1 (x-p) (by unfold runL at r;omega);have j:runL st p m<=m:=k.1;rw[get _ O,show p+(x-p)=x by omega]at d;exact Option.some.inj d
 ·have d:=k.2.2 a;have e:(((st.drop p).take m).takeWhile (· == 2)).length=runL st p m:=rfl;rw[e,get _ a]at d;exact λe=>d (congrArg some e)
theorem Vz {st:List Nat}{e:Nat}(he:e<=st.length):∀(f p:Nat),(∀r∈QX st e f p,1<=r.2/\p<=r.1/\r.1+r.2<=e/\∀x,r.1<=x->x<r.1+r.2->gf st x=2)/\(QX st e f p).Pairwise (λa b=>a.1+a.2<=b.1) ∧
 (e-p<f->∀x,p<=x->x<e->gf st x=2->inR (QX st e f p) x)/\((QX st e f p).map (·.2)).sum<=e-p
 | 0,p=>⟨by simp[QX],by simp[QX],λh=>O,by simp[QX]⟩
 | f+1,p=>by
  rw[QX];split
  ·rename_i hp;exact⟨by simp,by simp,λ_ x h1 h2=>O,by simp⟩
  ·rename_i hp;have hr:=WiQ (st:=st) (p:=p) (m:=e-p) O;split
   ·rename_i h0;obtain⟨i,j,s,w⟩:=Vz he f (p+1);refine⟨λr d=>?_,j,λu x h1 h2 g=>?_,O⟩
    ·have:=i r d;exact⟨this.1,O,this.2.2⟩
    ·by_cases hx:x=p
     ·subst hx;rw[h0]at hr;exact(hr.2.2 O (by simpa using g)).elim
     ·exact s O x O h2 g
   ·rename_i h0;obtain⟨i,j,s,w⟩:=Vz he f (p+runL st p (e-p)+1);refine⟨λr d=>?_,zAS.2 ⟨λr d=>?_,j⟩,λu x h1 h2 g=>?_,?_⟩
    ·rcases zQ.1 d with rfl|d
     ·exact⟨by simp only;omega,zC _,by simp only;omega,hr.2.1⟩
     ·have:=i r d;exact⟨this.1,O,this.2.2⟩
    ·have:=i r d;simp only;omega
    ·by_cases hx:x<p+runL st p (e-p)
     ·exact⟨_,zAN ..,h1,hx⟩
     ·by_cases hx2:x=p+runL st p (e-p)
      ·subst hx2;exact(hr.2.2 O g).elim
      ·obtain⟨r,d,y⟩:=s O x O h2 g;exact⟨r,zAJ _ d,y⟩
    ·simp only[zJ,zp];omega
theorem Whe (st:List Nat)(l:List Nat)(h:Nat):(insH st l h).Perm (h::l):=by
 unfold insH;refine List.perm_middle.trans ?_;rw[zGQ]
theorem WdI (st:List Nat):(ordT st).Perm ((List.range (st.length/16)).filter λh=>0<cntR st (16*h) (16*h+16) 2):=by
 unfold ordT;have key:∀(l m:List Nat),(l.foldl (insH st) m).Perm (l++m):=by
  intro l
  induction l with
  | nil=>intro m;exact List.Perm.refl _
  | cons x l ih=>
   intro m;rw[zAI,zAM];refine(ih _).trans ?_;refine((Whe st m x).append_left l).trans ?_;exact List.perm_middle
 simpa using key _ []
theorem WcS (want:Int):∀(x:Nat) (l:List (Nat×Nat)),(cutW want x l).Sublist l
 | x,[]=>by simp[cutW]
 | x,r::l=>by
  rw[cutW];split
  ·exact List.nil_sublist _
  ·exact(WcS want (x+r.2) l).cons_cons r
theorem WdG {want:Int}:∀(x:Nat) (l:List (Nat×Nat)),(∀r∈l,1<=r.2)->((x+(l.map (·.2)).sum:Nat):Int)<=want->cutW want x l=l
 | x,[],_,_=>by simp[cutW]
 | x,r::l,hp,hs=>by
  have:=hp r aA;simp only[zJ,zp]at hs;rw[cutW,zA O,WdG (x+r.2) l (λq a=>hp q (by simp[a])) O]
theorem WkU {st:List Nat}(h16:st.length%16=0):(∀r∈(ordT st).flatMap (KP st),1<=r.2/\∀x,r.1<=x->x<r.1+r.2->gf st x=2)/\((ordT st).flatMap (KP st)).Pairwise (λa b=>a.1+a.2<=b.1\/b.1+b.2<=a.1) ∧
 (∀x,gf st x=2->inR ((ordT st).flatMap (KP st)) x)/\(((ordT st).flatMap (KP st)).map (·.2)).sum<=st.length:=by
 have s:=WdI st;have d:∀h∈ordT st,16*h+16<=st.length:=λh z=>by
  have:=(zH.1 (s.subset z)).1;rw[zV]at this;omega
 have w:(ordT st).Nodup:=s.nodup_iff.2 (List.nodup_range.filter _);have B:(ordT st).length<=st.length/16:=by
  rw[s.length_eq];exact zI (zBA _ _) aA
 refine⟨λr j=>?_,?_,λx D=>?_,?_⟩
 ·obtain⟨h,z,j⟩:=zCP.1 j;have:=(Vz (d h z) 17 (16*h)).1 r j;exact⟨this.1,this.2.2.2⟩
 ·have key:∀l:List Nat,l.Nodup->(∀h∈l,16*h+16<=st.length)->(l.flatMap (KP st)).Pairwise (λa b=>a.1+a.2<=b.1\/b.1+b.2<=a.1):=by
   intro l
   induction l with
   | nil=>intro _ _;simp
   | cons h l ih=>
    intro p hl;have p:=zo.1 p;rw[zBB];refine zBT.2 ⟨(Vz (hl h aA) 17 (16*h)).2.1.imp λ{a b} u=>.inl u,ih p.2 λg i=>hl g (by simp[i]),λa G b y=>?_⟩;obtain⟨g,i,y⟩:=zCP.1 y;have m:=(Vz (hl h aA) 17 (16*h)).1 a G;have H:=(Vz (hl g (by simp[i])) 17 (16*g)).1 b y;have F:h≠g:=λe=>p.1 (e▸i);omega
  exact key _ w d
 ·have E:x<st.length:=WoL O;have A:x/16∈ordT st:=s.symm.subset (zH.2 ⟨zV.2 O,by
   have:cntR st (16*(x/16)) (16*(x/16)+16) 2≠0:=λC=>by
    rw[Hq O O]at C;exact C x O O D
   simp;omega⟩)
  obtain⟨r,j,m⟩:=(Vz (d _ A) 17 (16*(x/16))).2.2.1 O x O O D;exact⟨r,zCP.2 ⟨_,A,j⟩,m⟩
 ·have key:∀l:List Nat,(∀h∈l,16*h+16<=st.length)->((l.flatMap (KP st)).map (·.2)).sum<=16*l.length:=by
   intro l
   induction l with
   | nil=>intro _;simp
   | cons h l ih=>
    intro hl;have m:=(Vz (hl h aA) 17 (16*h)).2.2.2;have H:=ih λg i=>hl g (by simp[i]);rw[zBB,zAD,zDK,zP];have m:((KP st h).map (·.2)).sum<=16*h+16-16*h:=m;omega
  have:=key _ d;omega
theorem Wha (h:GA A)(hw:Ow A sp){want:Int}(h0:0<=want):Rlz (YI A) (relS A sp want).1 sp (relS A sp want).2 (V3 A want)/\(1024<=want->∀p,(relS A sp want).1.f p≠2):=by
 obtain⟨o,_,_⟩:=Uv h;have d:(YI A).st.length%16=0:=by rw[o.ga.pg.len];exact o.ga.pg.n16
 obtain⟨s,u,w,x⟩:=WkU d;have a:=WcS want 0 ((ordT (YI A).st).flatMap (KP (YI A).st));have e:relS A sp want=(V3 A want).foldl rel1 (YI A,sp):=by unfold relS;rw[zA O]
 rw[e];have t:=Wjk (V3 A want) o.ga (hw.kp o.kp) (λr g=>s r (a.subset g)) (u.sublist a);refine⟨t,λm p j=>?_⟩;have y:=o.ga.pg.n2;have b:V3 A want=(ordT (YI A).st).flatMap (KP (YI A).st):=WdG 0 _ (λr g=>(s r g).1) (by
  rw[o.ga.pg.len]at x;omega)
 by_cases hi:inR (V3 A want) p
 ·rw[(t.i p hi).2.1]at j;omega
 ·rw[(t.o p hi).1]at j;exact hi (by rw[b];exact w p j)
theorem WmB (h:GA A)(hw:Ow A sp)(want:Int):St A (relS A sp want).1 sp (relS A sp want).2/\(relS A sp want).1.runs=A.runs/\(relS A sp want).1.tra=A.tra/\∀j y,TkA (relS A sp want).1 j y↔TkA A j y:=by
 by_cases h0:0<=want
 ·obtain⟨t,_⟩:=Wha h hw h0;obtain⟨o,e,k⟩:=Uv h;refine⟨(o.st hw).trans t.st,t.runs.trans o.runs,t.tra.trans e,λj y=>?_⟩;rw[←k];unfold TkA Cl;rw[t.cen,t.st.tb]
 ·have e:relS A sp want=(A,sp):=by unfold relS;rw[zB O]
  rw[e];exact⟨St.refl h hw,rfl,rfl,λ_ _=>Iff.rfl⟩
end Go.Ar
namespace Go.Ar
structure Pc where
 k:Nat
 cls:Int
 addr:Nat
 size:Nat
 moved:Bool
 deriving DecidableEq
structure Wd where
 tb:List Cls
 sp:Sp
 ars:List AR
 held:List Pc
structure Act where
 kd:Int
 ar:Int
 cl:Int
 a:Int
 b:Int
 l:List Int
abbrev Key:=Nat×Int×Nat
def Pc.key (p:Pc):Key:=(p.k,p.cls,p.addr)
def isAt (k:Nat)(cls x:Int)(p:Pc):Bool:=p.k==k&&(p.cls==cls&&((p.addr:Int)==x && !p.moved))
def atW (held:List Pc)(k:Nat)(cls x:Int):Option Nat:=held.findIdx? (isAt k cls x)
def ownW (held:List Pc)(k:Nat)(cls:Int)(l:List Int):Bool:=l.all (λx=>(atW held k cls x).isSome)&&decide l.Nodup
def drop1 (k:Nat)(cls:Int)(held:List Pc)(x:Int):List Pc:=match atW held k cls x with
 | some i=>held.take i++held.drop (i+1)
 | none=>held
def WhX (held:List Pc)(k:Nat)(cls:Int)(l:List Int):List Pc:=l.foldl (drop1 k cls) held
def isOf (k:Nat)(cls:Int)(l:List Int)(p:Pc):Bool:=p.k==k&&(p.cls==cls&&l.contains (p.addr:Int))
def Gu (held:List Pc)(k:Nat)(cls:Int)(l:List Int)(m:Bool):List Pc:=held.map λp=>if isOf k cls l p then{p with moved:=m}else p
def Wgm (us:List AR)(held:List Pc):List Pc:=held.filter λp=>!p.moved||(match us[p.k]? with
 | some A=>WjK A (p.addr:Int)
 | none=>false)
def szOf (tb:List Cls)(k:Int):Nat:=((tb[k.toNat]?).map (·.size)).getD 0
def Wd.put (W:Wd)(k:Nat)(A:AR)(sp:Sp)(held:List Pc):Wd:={W with sp:=sp,ars:=W.ars.set k A,held:=held}
def Hd (A:AR)(p:Pc):Prop:=(p.cls = -1/\p.moved=false/\∃r∈A.runs,p.addr=r.1*256/\p.size=r.2*256) ∨
 ∃(j:Nat) (c:Cls),p.cls=j/\A.tb[j]?=some c/\p.size=c.size/\TkA A j (p.addr:Int)/\(p.moved=true↔InT A j (p.addr:Int))
structure WI (W:Wd):Prop where
 ga:∀(k:Nat) (A:AR),W.ars[k]?=some A->GA A
 ow:∀(k:Nat) (A:AR),W.ars[k]?=some A->Ow A W.sp
 tb:∀(k:Nat) (A:AR),W.ars[k]?=some A->A.tb=W.tb
 low:∀(k:Nat) (A:AR),W.ars[k]?=some A->∀p,p<16->A.f p=0
 own:∀p,gf W.sp.st p≠0->∃(k:Nat) (A:AR),W.ars[k]?=some A/\A.f p≠0
 one:∀p (k l:Nat) (A B:AR),W.ars[k]?=some A->W.ars[l]?=some B->A.f p≠0->B.f p≠0->k=l
 hk:(W.held.map Pc.key).Nodup
 hf:∀p∈W.held,∃A,W.ars[p.k]?=some A/\Hd A p
 ht:∀(k:Nat) (A:AR),W.ars[k]?=some A->∀(j:Nat) (y:Int),TkA A j y->∃p∈W.held,p.k=k/\p.cls=j/\(p.addr:Int)=y
 hr:∀(k:Nat) (A:AR),W.ars[k]?=some A->∀r∈A.runs,∃p∈W.held,p.k=k/\p.cls = -1/\p.addr=r.1*256
variable {W:Wd}{k:Nat}{A:AR}
theorem Vf {α:Type}{l:List α}{k j:Nat}{x y:α}(h:(l.set k x)[j]?=some y):(j=k/\y=x/\k<l.length)\/(j≠k/\l[j]?=some y):=by
 by_cases hjk:j=k
 ·subst hjk;have a:j<l.length:=by have:=(gSi.1 h).1;simpa using this
  rw[zM a]at h;exact .inl ⟨rfl,(Option.some.inj h).symm,a⟩
 ·rw[zh (Ne.symm hjk)]at h;exact .inr ⟨hjk,h⟩
theorem WI.unique (h:WI W){p q:Pc}(hp:p∈W.held)(hq:q∈W.held)(e:p.key=q.key):p=q:=by
 obtain⟨i,d⟩:=zN hp;obtain⟨j,g⟩:=zN hq;obtain⟨b,rfl⟩:=gSi.1 d;obtain⟨a,rfl⟩:=gSi.1 g;have:=zAE.1 h.hk;rcases zCA i j with hl|hl|hl
 ·exact(this i j (by simpa using b) (by simpa using a) hl (by simpa using e)).elim
 ·subst hl;rfl
 ·exact(this j i (by simpa using a) (by simpa using b) hl (by simpa using e.symm)).elim
theorem WI.step (h:WI W)(hk:W.ars[k]?=some A){B:AR}{sp':Sp}{held':List Pc}(s:St A B W.sp sp')(h1:(held'.map Pc.key).Nodup)(h2:∀p∈held',p.k=k->Hd B p)(h3:∀p,p.k≠k->(p∈held'↔p∈W.held))
 (h4:∀(j:Nat) (y:Int),TkA B j y->∃p∈held',p.k=k/\p.cls=j/\(p.addr:Int)=y) (h5:∀r∈B.runs,∃p∈held',p.k=k/\p.cls = -1/\p.addr=r.1*256):WI (W.put k B sp' held'):=by
 have E:=(gSi.1 hk).1;have m:(W.ars.set k B)[k]?=some B:=zM E;have L:∀{j:Nat} {C:AR},j≠k->W.ars[j]?=some C->(W.ars.set k B)[j]?=some C:=λa e=>(zh (Ne.symm a)).trans e;have g:∀{j:Nat} {C:AR},j≠k->W.ars[j]?=some C->∀p,C.f p≠0->A.f p=0/\B.f p=0/\gf sp'.st p=gf W.sp.st p:=by
  intro j C a e p b;have u:A.f p=0:=Classical.byContradiction λz=>a (h.one p j k C A e hk b z);have w:B.f p=0:=Classical.byContradiction λz=>by
   have:=(s.new p u z).1;exact(h.ow j C e).own p b this
  exact⟨u,w,s.same p u w⟩
 refine⟨λj C a=>?_,λj C a=>?_,λj C a=>?_,λj C a p b=>?_,λp b=>?_,λp j l C D a J e G=>?_,h1,λp b=>?_,λj C a i y K=>?_,λj C a r hr=>?_⟩
 ·rcases Vf a with⟨rfl,rfl,_⟩|⟨_,a⟩
  ·exact s.ga
  ·exact h.ga j C a
 ·rcases Vf a with⟨rfl,rfl,_⟩|⟨d,a⟩
  ·exact s.ow
  ·have o:=h.ow j C a;have N:=h.ow k A hk;refine⟨?_,λp b=>?_,λp b=>?_,s.ow.le⟩
   ·show sp'.st.length=C.n;rw[s.ow.l,s.n,←N.l,o.l]
   ·show gf sp'.st p≠0;rw[(g d a p b).2.2];exact o.own p b
   ·show gf sp'.st p=1;rw[(g d a p O).2.2];exact o.cl p b
 ·rcases Vf a with⟨rfl,rfl,_⟩|⟨_,a⟩
  ·exact s.tb.trans (h.tb _ A hk)
  ·exact h.tb j C a
 ·rcases Vf a with⟨rfl,rfl,_⟩|⟨_,a⟩
  ·apply Classical.byContradiction;intro z;have:=s.new p (h.low _ A hk p b) z;omega
  ·exact h.low j C a p b
 ·have b:gf sp'.st p≠0:=b;by_cases w:B.f p=0
  ·by_cases u:A.f p=0
   ·rw[s.same p u w]at b;obtain⟨j,C,a,e⟩:=h.own p b;have d:j≠k:=by
     rintro rfl;rw[hk]at a;cases a;exact e u
    exact⟨j,C,L d a,e⟩
   ·exact(b (s.gone p u w)).elim
  ·exact⟨k,B,m,w⟩
 ·rcases Vf a with⟨rfl,rfl,_⟩|⟨d,hj'⟩
  ·rcases Vf J with⟨rfl,rfl,_⟩|⟨hne2,hl'⟩
   ·rfl
   ·exact(e (g hne2 hl' p G).2.1).elim
  ·rcases Vf J with⟨rfl,rfl,_⟩|⟨hne2,hl'⟩
   ·exact(G (g d hj' p e).2.1).elim
   ·exact h.one p j l C D hj' hl' e G
 ·by_cases hpk:p.k=k
  ·exact⟨B,by rw[hpk];exact m,h2 p b hpk⟩
  ·obtain⟨C,e,M⟩:=h.hf p ((h3 p hpk).1 b);exact⟨C,L hpk e,M⟩
 ·rcases Vf a with⟨rfl,rfl,_⟩|⟨d,a⟩
  ·exact h4 i y K
  ·obtain⟨p,b,x,F,H⟩:=h.ht j C a i y K;exact⟨p,(h3 p (by rw[x];exact d)).2 b,x,F,H⟩
 ·rcases Vf a with⟨rfl,rfl,_⟩|⟨d,a⟩
  ·exact h5 r hr
  ·obtain⟨p,b,x,F,H⟩:=h.hr j C a r hr;exact⟨p,(h3 p (by rw[x];exact d)).2 b,x,F,H⟩
theorem Hd.to {B:AR}{p:Pc}(h:Hd A p)(e1:B.tb=A.tb)(e2:B.runs=A.runs)(e3:∀j y,TkA A j y->TkA B j y)(e4:∀j y,InT B j y↔InT A j y):Hd B p:=by
 rcases h with⟨h1,h2,r,hr,h3⟩|⟨j,c,h1,h2,h3,h4,h5⟩
 ·exact .inl ⟨h1,h2,r,by rw[e2];exact hr,h3⟩
 ·exact .inr ⟨j,c,h1,by rw[e1];exact h2,h3,e3 _ _ h4,by rw[e4];exact h5⟩
theorem WI.hd (h:WI W)(hk:W.ars[k]?=some A){p:Pc}(hp:p∈W.held)(e:p.k=k):Hd A p:=by
 obtain⟨C,a,b⟩:=h.hf p hp;rw[e,hk]at a;cases a;exact b
theorem WI.stepSame (h:WI W)(hk:W.ars[k]?=some A){B:AR}{sp':Sp}(s:St A B W.sp sp')(e2:B.runs=A.runs)(e3:∀j y,TkA B j y↔TkA A j y)(e4:B.tra=A.tra):WI (W.put k B sp' W.held):=
 h.step hk s h.hk (λp b e=>(h.hd hk b e).to s.tb e2 (λj y=>(e3 j y).2) λj y=>by unfold InT;rw[e4]) (λ_ _=>Iff.rfl) (λj y a=>h.ht k A hk j y ((e3 j y).1 a)) λr hr=>h.hr k A hk r (by rw[←e2];exact hr)
theorem WI.cls (h:WI W){p:Pc}(hp:p∈W.held){j:Nat}(e:p.cls=j)(hk:W.ars[p.k]?=some A):∃c,A.tb[j]?=some c/\p.size=c.size/\TkA A j (p.addr:Int)/\(p.moved=true↔InT A j (p.addr:Int)):=by
 rcases h.hd hk hp rfl with⟨h1,_⟩|⟨i,c,h1,h2,h3,h4,h5⟩
 ·omega
 ·obtain rfl:i=j:=by omega
  exact⟨c,h2,h3,h4,h5⟩
theorem WI.run (h:WI W){p:Pc}(hp:p∈W.held)(e:p.cls = -1)(hk:W.ars[p.k]?=some A):p.moved=false/\∃r∈A.runs,p.addr=r.1*256/\p.size=r.2*256:=by
 rcases h.hd hk hp rfl with⟨_,h2⟩|⟨i,c,h1,_⟩
 ·exact h2
 ·omega
theorem KC {k:Nat}{cls x:Int}{p:Pc}:isAt k cls x p=true↔p.k=k/\p.cls=cls/\(p.addr:Int)=x/\p.moved=false:=by
 simp[isAt]
theorem Z4 {k:Nat}{cls:Int}{l:List Int}{p:Pc}:isOf k cls l p=true↔p.k=k/\p.cls=cls/\(p.addr:Int)∈l:=by
 simp[isOf]
theorem Wly {held:List Pc}{k:Nat}{cls x:Int}{i:Nat}(h:atW held k cls x=some i):∃p,held[i]?=some p/\isAt k cls x p=true:=by
 obtain⟨b,a,_⟩:=zBH.1 h;exact⟨held[i],gGe b,a⟩
theorem WoC {held:List Pc}{k:Nat}{cls x:Int}{p:Pc}(hp:p∈held)(h:isAt k cls x p=true):(atW held k cls x).isSome=true:=by
 unfold atW;rw[List.findIdx?_isSome,zy];exact⟨p,hp,h⟩
theorem KD {held:List Pc}{k:Nat}{cls:Int}{l:List Int}:ownW held k cls l=true↔(∀x∈l,∃p∈held,isAt k cls x p=true)/\l.Nodup:=by
 unfold ownW;rw[zF,zAB,zS];refine and_congr_left λ_=>forall_congr' λx=>imp_congr_right λa=>?_;unfold atW;rw[List.findIdx?_isSome,zy]
theorem Wc9 {held:List Pc}(hn:(held.map Pc.key).Nodup){i:Nat}{p:Pc}(hi:held[i]?=some p):held.take i++held.drop (i+1)=held.filter λq=>!(q.key==p.key):=by
 induction held generalizing i with
 | nil=>simp at hi
 | cons q l ih=>
  rw[zJ,zo]at hn;cases i with
  | zero=>
   simp only[zEX,Option.some.injEq]at hi;subst hi;have:l.filter (λr=>!(r.key==q.key))=l:=by
    rw[zBL];intro r hr;have:r.key≠q.key:=λe=>hn.1 (zD.2 ⟨r,hr,e⟩);simpa using this
   simp[this]
  | succ i=>
   have hi:l[i]?=some p:=by simpa using hi
   have a:q.key≠p.key:=λe=>hn.1 (zD.2 ⟨p,zE hi,e.symm⟩);rw[zCY,zFP,zAM,ih hn.2 hi,zCK];have:(!(q.key==p.key))=true:=by simpa using a
   rw[this];rfl
theorem V0 {held:List Pc}(hn:(held.map Pc.key).Nodup)(f:Pc->Bool):((held.filter f).map Pc.key).Nodup:=hn.sublist (List.filter_sublist.map _)
theorem WfA {k:Nat}{cls:Int}:∀(l:List Int) {held:List Pc},(held.map Pc.key).Nodup->(∀x∈l,∃p∈held,isAt k cls x p=true)->l.Nodup->WhX held k cls l=held.filter λp=>!isOf k cls l p
 | [],held,_,_,_=>by
  have:∀p,isOf k cls [] p=false:=λp=>by simp[isOf]
  exact(zBL.2 λp _=>by rw[this];rfl).symm
 | x::l,held,hn,ho,hl=>by
  obtain⟨p,C,B⟩:=ho x aA;obtain⟨i,m⟩:=zCB.1 (WoC C B);obtain⟨q,A,j⟩:=Wly m;have d:=zo.1 hl;have D:drop1 k cls held x=held.filter λr=>!(r.key==q.key):=by unfold drop1;rw[m];exact Wc9 hn A
  obtain⟨F,E,G,H⟩:=KC.1 j;have u:=WfA l (held:=held.filter λr=>!(r.key==q.key)) (V0 hn _) (λy s=>by
   obtain⟨r,w,g⟩:=ho y (by simp[s]);refine⟨r,zH.2 ⟨w,?_⟩,g⟩;have:r.key≠q.key:=λe=>by
    have J:r.addr=q.addr:=congrArg (λz:Key=>z.2.2) e;have:=(KC.1 g).2.2.1;have:y=x:=by omega
    subst this;exact d.1 s
   simpa using this) d.2
  unfold WhX at u ⊢;rw[zAI,D,u,zGD];apply zFG;intro r w;have e:(r.key==q.key)=(r.k==k&&(r.cls==cls&&(r.addr:Int)==x)):=by
   rw[zBD];simp only[Pc.key,zX,zF,Prod.mk.injEq];constructor
   ·rintro⟨a,b,c⟩;exact⟨O,O,O⟩
   ·rintro⟨a,b,c⟩;exact⟨O,O,O⟩
  rw[e];unfold isOf;rw[List.contains_cons];cases r.k==k<;>cases r.cls==cls<;>cases((r.addr:Int)==x)<;>cases l.contains (r.addr:Int)<;>rfl
theorem QJ {held:List Pc}{k:Nat}{cls:Int}{l:List Int}{m:Bool}{p:Pc}:p∈Gu held k cls l m↔∃q∈held,p=if isOf k cls l q then{q with moved:=m}else q:=by
 unfold Gu;rw[zD];constructor
 ·rintro⟨q,hq,rfl⟩;exact⟨q,hq,rfl⟩
 ·rintro⟨q,hq,rfl⟩;exact⟨q,hq,rfl⟩
theorem WgS {held:List Pc}{k:Nat}{cls:Int}{l:List Int}{m:Bool}:(Gu held k cls l m).map Pc.key=held.map Pc.key:=by
 unfold Gu;rw[zt];apply zAH;intro p _;simp only[Function.comp];split<;>rfl
theorem Wac (hk:W.ars[k]?=some A)(h:WI W):WI (W.put k A W.sp W.held):=h.stepSame hk (St.refl (h.ga k A hk) (h.ow k A hk)) rfl (λ_ _=>Iff.rfl) rfl
theorem Whn (h:GA A){j:Nat}{c:Cls}{ss:List SpA}(hc:Cl A j c ss){l:Nat}{s:SpA}{i:Nat}(hs:ss[l]?=some s)(hi:i<c.n){x:Nat}(h1:at_ c s i<=x)(h2:x<at_ c s i+c.size):Hb A (x:Int)=some ((j:Int),at_ c s i):=by
 have b:=h.cen j c ss hc;have d:=HU b.pos hi h1 h2;have a:=h.used hc (zE hs) d.1 d.2;have e:=h.pg.lt (p:=x/256) (by rw[a.1];omega);have r:=h.pg.n2;have g:=hc.lt;have m:=h.tb;unfold Hb;rw[zA O,iTn];simp only;rw[zB (show x/256<1024 by omega),a.2,zA O,zA O,zGT,hc.1,hc.2];simp only;rw[(Wdg b).2 ⟨l,s,i,hs,hi,rfl,O,O⟩];rfl
theorem WdE (h:GA A){r:Nat×Nat}(hr:r∈A.runs){x:Nat}(h1:r.1*256<=x)(h2:x<(r.1+r.2)*256):Hb A (x:Int)=some (-1,r.1*256):=by
 have a:=h.usedR hr (p:=x/256) O O;have b:=h.pg.lt (p:=x/256) (by rw[a.1];omega);have d:=h.pg.n2;unfold Hb;rw[zA O,iTn];simp only;rw[zB (show x/256<1024 by omega),a.2,zA O,zB rfl,WcR h.runsOk hr O O];rfl
theorem Wgp (h:GA A){x:Int}{k:Int}{a:Nat}(hf:Hb A x=some (k,a)):(k = -1/\∃r∈A.runs,a=r.1*256/\((r.1*256:Nat):Int)<=x/\x<(((r.1+r.2)*256:Nat):Int)) ∨
 ∃(j:Nat) (c:Cls) (ss:List SpA) (l:Nat) (s:SpA) (i:Nat),k=j/\Cl A j c ss/\ss[l]?=some s/\i<c.n/\a=at_ c s i/\((at_ c s i:Nat):Int)<=x/\x<((at_ c s i+c.size:Nat):Int):=by
 unfold Hb at hf;split at hf
 ·cases hf
 ·rename_i hx;obtain⟨y,rfl⟩:=zk (show 0<=x by omega);rw[iTn]at hf;simp only at hf;by_cases hlt:y/256<1024
  ·rw[zB hlt]at hf;split at hf
   ·cases hf
   ·split at hf
    ·rename_i h0 h41;obtain⟨r,d,b⟩:=zCJ.1 hf;have g:=zDF d;have z:=zDE d;simp at z;cases b;exact .inl ⟨rfl,r,g,rfl,O,O⟩
    ·rename_i h0 h41;split at hf
     ·rename_i c ss h1 h2;obtain⟨C,B,b⟩:=zCJ.1 hf;cases b;have e:Cl A (A.ow (y/256)-1) c ss:=⟨h1,h2⟩;obtain⟨l,s,i,w,m,rfl,p,u⟩:=(Wdg (h.cen _ _ _ e)).1 B;exact .inr ⟨_,c,ss,l,s,i,rfl,e,w,m,rfl,p,u⟩
     ·cases hf
  ·rw[zA hlt,zB rfl]at hf;cases hf
theorem TkA.find (h:GA A){j:Nat}{x:Int}(hx:TkA A j x):∃y:Nat,x=y/\Hb A x=some ((j:Int),y):=by
 obtain⟨c,g,b,e⟩:=hx;have a:=h.cen j c g b;obtain⟨l,s,i,m,d,rfl,p⟩:=(Uc a).1 e;exact⟨_,rfl,Whn h b m d (zC _) (by have:=a.pos;omega)⟩
theorem Waz (h:GA A){x:Int}:WjK A x=true↔(∃j,TkA A j x)\/∃r∈A.runs,x=((r.1*256:Nat):Int):=by
 constructor
 ·intro hx;unfold WjK at hx;split at hx
  ·rename_i k a e;split at hx
   ·rename_i he;rcases Wgp h e with⟨rfl,r,hr,rfl,_⟩|⟨j,c,d,l,s,i,rfl,b,hs,hi,rfl,_⟩
    ·exact .inr ⟨r,hr,he.symm⟩
    ·rw[zA O,iTn,b.1,b.2]at hx;exact .inl ⟨j,c,d,b,by simpa[Tk]using hx⟩
   ·cases hx
  ·cases hx
 ·rintro(⟨j,hj⟩|⟨r,hr,rfl⟩)
  ·obtain⟨y,rfl,e⟩:=hj.find h;obtain⟨c,d,b,g⟩:=hj;unfold WjK;rw[e];simp only;rw[zB True.intro,zA O,iTn,b.1,b.2];unfold Tk at g;show(isTk c d (y:Int)==some true)=true;rw[g];rfl
  ·unfold WjK;have:=h.rpos r hr;rw[WdE h hr (zC _) O];simp
theorem WI.own1 (h:WI W)(hk:W.ars[k]?=some A){cl:Int}{l:List Int}(ho:ownW W.held k cl l=true){j:Nat}(e:cl=j):∀x∈l,¬InT A j x:=by
 intro x hx hin;obtain⟨p,r,a⟩:=(KD.1 ho).1 x hx;obtain⟨i,g,m,b⟩:=KC.1 a;obtain⟨c,_,_,_,d⟩:=h.cls r (j:=j) (by rw[g,e]) (by rw[i];exact hk);rw[m]at d;rw[d.2 hin]at b;cases b
theorem WI.grow (h:WI W)(hk:W.ars[k]?=some A)(x:Int):WI (W.put k (growS A W.sp x).1 (growS A W.sp x).2 W.held):=by
 obtain⟨s,b,d,a,_⟩:=WjU (h.ga k A hk) (h.ow k A hk) x;exact h.stepSame hk s b a d
theorem WI.from (h:WI W)(hk:W.ars[k]?=some A)(cl m:Int):WI (W.put k (YO A cl m) W.sp (W.held++(Ys A cl m).map λy=>⟨k,cl,y,szOf W.tb cl,false⟩)):=by
 obtain⟨o,F,K,Q,D,B⟩:=WbJ (h.ga k A hk) cl m;have tb:(YO A cl m).tb=A.tb:=o.kp.tb;have i:∀y∈Ys A cl m,∃j:Nat,cl=j/\j<A.tb.length:=λy g=>Q (λe=>by rw[e]at g;simp at g);have w:∀y∈Ys A cl m,∀p∈W.held,¬(p.k=k/\p.cls=cl/\p.addr=y):=by
  rintro y g p d ⟨H,N,J⟩;obtain⟨j,rfl,_⟩:=i y g;obtain⟨c,_,_,ht,_⟩:=h.cls d N (by rw[H];exact hk);rw[J]at ht;exact D y g (by rw[iTn];exact ht)
 refine h.step hk (o.st (h.ow k A hk)) ?_ (λp d e=>?_) (λp z=>?_) (λj y g=>?_) λr hr=>?_
 ·rw[zAD,zBK];refine⟨h.hk,?_,λa L b M e=>?_⟩
  ·rw[zt];exact List.Pairwise.map (R:=(· ≠ ·)) _ (λa b C e=>C (by simpa[Pc.key]using e)) K
  ·subst e;obtain⟨p,d,rfl⟩:=zD.1 L;obtain⟨q,G,e⟩:=zD.1 M;obtain⟨y,g,rfl⟩:=zD.1 G;simp only[Pc.key,Prod.mk.injEq]at e;exact w y g p d ⟨e.1.symm,e.2.1.symm,e.2.2.symm⟩
 ·rcases zR.1 d with d|d
  ·exact(h.hd hk d e).to tb o.runs (λj y s=>(B j y).2 (.inl s)) λj y=>by unfold InT;rw[F]
  ·obtain⟨y,g,rfl⟩:=zD.1 d;obtain⟨j,rfl,s⟩:=i y g;refine .inr ⟨j,A.tb[j],rfl,by rw[tb];exact gGe s,?_,(B j y).2 (.inr ⟨(iTn j).symm,y,g,rfl⟩),?_⟩
   ·show szOf W.tb (j:Int)=_;unfold szOf;rw[iTn,←h.tb k A hk,gGe s];rfl
   ·constructor
    ·intro hx;cases hx
    ·rintro⟨t,ht,hx⟩;rw[F]at ht;obtain⟨c,P,S,E,u⟩:=(h.ga k A hk).cl s;rw[ht]at u;cases u;exact(D y g (by rw[iTn];exact(KQ E).2 ((h.ga k A hk).trt j c P t E ht _ hx))).elim
 ·rw[zR];constructor
  ·rintro(d|d)
   ·exact d
   ·obtain⟨y,_,rfl⟩:=zD.1 d;exact(z rfl).elim
  ·exact .inl
 ·rcases(B j y).1 g with g|⟨rfl,x,hx,rfl⟩
  ·obtain⟨p,d,q⟩:=h.ht k A hk j y g;exact⟨p,zBF _ d,q⟩
  ·obtain⟨j,rfl,_⟩:=i x hx;exact⟨_,zBV _ (zD.2 ⟨x,hx,rfl⟩),rfl,by simp,rfl⟩
 ·rw[o.runs]at hr;obtain⟨p,d,q⟩:=h.hr k A hk r hr;exact⟨p,zBF _ d,q⟩
theorem WI.drp (h:WI W){cl:Int}{l:List Int}(ho:ownW W.held k cl l=true):WhX W.held k cl l=W.held.filter λp=>!isOf k cl l p:=
 WfA l h.hk (KD.1 ho).1 (KD.1 ho).2
theorem WI.toC (h:WI W)(hk:W.ars[k]?=some A){cl:Int}{l:List Int}(ho:ownW W.held k cl l=true):WI (W.put k (Zg A cl l) W.sp (if QW A cl l=0 then WhX W.held k cl l else W.held)):=by
 have ga:=h.ga k A hk;obtain⟨o,L,s,M⟩:=Wcw ga (k:=cl) (xs:=l) λg x m=>by
  obtain⟨j,c,K,rfl,_⟩:=WaN ga g;rw[iTn];exact h.own1 hk ho rfl x m
 by_cases g:QW A cl l=0
 ·rw[zB g,h.drp ho];obtain⟨j,c,K,rfl,P,N⟩:=WaN ga g;have s:=s g;rw[iTn]at s;refine h.step hk (o.st (h.ow k A hk)) (V0 h.hk _) (λp w e=>?_) (λp B=>?_) (λi y J=>?_) λr hr=>?_
  ·have u:=zH.1 w;have F:isOf k (j:Int) l p=false:=by simpa using u.2
   rcases h.hd hk u.1 e with⟨h1,h2,r,hr,h3⟩|⟨i,d,h1,h2,h3,h4,h5⟩
   ·exact .inl ⟨h1,h2,r,by rw[o.runs];exact hr,h3⟩
   ·refine .inr ⟨i,d,h1,by rw[o.kp.tb];exact h2,h3,(s i _).2 ⟨h4,λ⟨a,b⟩=>?_⟩,by unfold InT at h5 ⊢;rw[L];exact h5⟩;have:isOf k (j:Int) l p=true:=Z4.2 ⟨e,by rw[h1,a],b⟩;rw[F]at this;cases this
  ·rw[zH];have:isOf k (j:Int) l p=false:=by
    apply zAU.2;intro m;exact B (Z4.1 m).1
   rw[this];simp
  ·obtain⟨E,C⟩:=(s i y).1 J;obtain⟨p,w,D,G,z⟩:=h.ht k A hk i y E;refine⟨p,zH.2 ⟨w,?_⟩,D,G,z⟩;have:isOf k (j:Int) l p=false:=by
    apply zAU.2;intro m;obtain⟨_,Q,H⟩:=Z4.1 m;exact C ⟨O,by rw[←z];exact H⟩
   rw[this];rfl
  ·rw[o.runs]at hr;obtain⟨p,w,D,G,z⟩:=h.hr k A hk r hr;refine⟨p,zH.2 ⟨w,?_⟩,D,G,z⟩;have:isOf k (j:Int) l p=false:=by
    apply zAU.2;intro m;have:=(Z4.1 m).2.1;omega
   rw[this];rfl
 ·rw[zA g,M g];exact Wac hk h
theorem WI.move (h:WI W)(hk:W.ars[k]?=some A){B:AR}{j:Nat}{l:List Int}{m:Bool}(o:Ob A B)(e1:∀i y,TkA B i y↔TkA A i y)(e2:∀i y,InT B i y↔if i=j/\y∈l then m=true else InT A i y):WI (W.put k B W.sp (Gu W.held k (j:Int) l m)):=by
 refine h.step hk (o.st (h.ow k A hk)) (by rw[WgS];exact h.hk) (λp b e=>?_) (λp a=>?_) (λi y g=>?_) λr hr=>?_
 ·obtain⟨q,u,rfl⟩:=QJ.1 b;have d:q.k=k:=by
   split at e<;>exact e
  rcases h.hd hk u d with⟨h1,h2,r,hr,h3⟩|⟨i,c,h1,h2,h3,h4,h5⟩
  ·have:isOf k (j:Int) l q=false:=by
    apply zAU.2;intro hx;have:=(Z4.1 hx).2.1;omega
   rw[this];exact .inl ⟨h1,h2,r,by rw[o.runs];exact hr,h3⟩
  ·by_cases hx:isOf k (j:Int) l q=true
   ·rw[zB hx];obtain⟨_,D,C⟩:=Z4.1 hx;have w:i=j:=by omega
    refine .inr ⟨i,c,h1,by rw[o.kp.tb];exact h2,h3,(e1 _ _).2 h4,?_⟩;show m=true↔InT B i (q.addr:Int);rw[e2,zB ⟨w,C⟩]
   ·rw[zA hx];refine .inr ⟨i,c,h1,by rw[o.kp.tb];exact h2,h3,(e1 _ _).2 h4,?_⟩;rw[e2,zA λg=>hx (Z4.2 ⟨d,by rw[h1,g.1],g.2⟩)];exact h5
 ·rw[QJ];constructor
  ·rintro⟨q,u,rfl⟩;have:isOf k (j:Int) l q=false:=by
    apply zAU.2;intro hx;rw[zB hx]at a;exact a (Z4.1 hx).1
   rw[this];exact u
  ·intro b;refine⟨p,b,?_⟩;have:isOf k (j:Int) l p=false:=by
    apply zAU.2;intro hx;exact a (Z4.1 hx).1
   rw[this];rfl
 ·obtain⟨p,b,s,x,z⟩:=h.ht k A hk i y ((e1 i y).1 g);refine⟨_,QJ.2 ⟨p,b,rfl⟩,?_,?_,?_⟩
  ·split<;>exact s
  ·split<;>exact x
  ·split<;>exact z
 ·rw[o.runs]at hr;obtain⟨p,b,s,x,z⟩:=h.hr k A hk r hr;refine⟨_,QJ.2 ⟨p,b,rfl⟩,?_,?_,?_⟩
  ·split<;>exact s
  ·split<;>exact x
  ·split<;>exact z
theorem Wjs {held:List Pc}{k:Nat}{cls:Int}{m:Bool}:Gu held k cls [] m=held:=by
 unfold Gu;have:∀p,isOf k cls [] p=false:=λp=>by simp[isOf]
 simp[this]
theorem WI.fromT (h:WI W)(hk:W.ars[k]?=some A)(cl:Int):WI (W.put k (ZR A cl) W.sp (Gu W.held k cl (YK A cl) false)):=by
 obtain⟨o,b,u,w,d,a⟩:=WdK (h.ga k A hk) cl;by_cases hv:YK A cl=[]
 ·rw[hv,Wjs];have g:∀j y,InT (ZR A cl) j y↔InT A j y:=λj y=>by rw[a,hv];simp
  refine h.step hk (o.st (h.ow k A hk)) h.hk (λp s e=>(h.hd hk s e).to o.kp.tb o.runs (λj y=>(b j y).2) g) (λ_ _=>Iff.rfl) (λj y m=>h.ht k A hk j y ((b j y).1 m)) λr hr=>h.hr k A hk r (by rw[←o.runs];exact hr)
 ·obtain⟨j,rfl,_⟩:=d hv;rw[iTn]at a;exact h.move hk o b λi y=>by
   rw[a];split
   ·rename_i hx;simp[hx]
   ·rename_i hx;simp[hx]
theorem WI.toT (h:WI W)(hk:W.ars[k]?=some A){cl:Int}{l:List Int}(ho:ownW W.held k cl l=true):WI (W.put k (Q9 A cl l) W.sp (if Vi A cl l then Gu W.held k cl l true else W.held)):=by
 by_cases a:Vi A cl l=true
 ·have b:∃j:Nat,cl=j:=by
   have g:HC A cl l=0:=by
    unfold Vi at a;simp only[zF,zS]at a;exact a.1
   have b:A.ck cl=true:=by
    unfold HC at g;split at g
    ·assumption
    ·cases g
   obtain⟨j,m,_⟩:=HF.1 b;exact⟨j,m⟩
  obtain⟨j,rfl⟩:=b;obtain⟨o,p,d,_⟩:=Wmg (h.ga k A hk) (j:Int) (xs:=l) (KD.1 ho).2 (by rw[iTn];exact h.own1 hk ho rfl);obtain⟨_,_,d⟩:=d a;rw[iTn]at d;rw[a,zB rfl];exact h.move hk o p λi y=>by
   rw[d];split
   ·rename_i hx;simp[hx]
   ·rename_i hx;simp[hx]
 ·have a:Vi A cl l=false:=by simpa using a
  have e:Q9 A cl l=A:=by unfold Q9;rw[a];rfl
  rw[a,e];exact Wac hk h
theorem WI.takeP (h:WI W)(hk:W.ars[k]?=some A)(m a:Int):WI (W.put k (takeAS A W.sp m a).1 (takeAS A W.sp m a).2 (if Qz A W.sp m a=0 then W.held++[⟨k, -1,Z5 A W.sp m a*256,m.toNat*256,false⟩]else W.held)):=by
 rcases WdA (h.ga k A hk) (h.ow k A hk) m a with⟨e,hE,_⟩|⟨x,A1,sp1,g,hE,hV,e,htk,hor,s,et,ek⟩
 ·rw[zA hE,e];exact Wac hk h
 ·rw[zB hE,hV];have w:(takeAS A W.sp m a).1.runs=A.runs++[(x,m.toNat)]:=by rw[e]
  have u:∀r∈A.runs,r.1≠x:=by
   have hd:=s.ga.rdis;rw[w]at hd;intro r hr D;have z:=(zBT.1 hd).2.2 r hr (x,m.toNat) aA;have B:=(h.ga k A hk).rpos r hr;have i:=s.ga.rpos (x,m.toNat) (by rw[w];simp);simp only at z i;omega
  refine h.step hk s ?_ (λp g e=>?_) (λp C=>?_) (λj y F=>?_) λr hr=>?_
  ·rw[zAD,zBK];refine⟨h.hk,by simp,λb E d hd D=>?_⟩;subst D;obtain⟨p,g,rfl⟩:=zD.1 E;simp only[zJ,zCC,zW,Pc.key,Prod.mk.injEq]at hd;obtain⟨_,r,hr,i,_⟩:=h.run g hd.2.1 (A:=A) (by rw[hd.1];exact hk);exact u r hr O
  ·rcases zR.1 g with g|g
   ·rcases h.hd hk g e with⟨z,B,r,hr,i⟩|⟨j,c,z,B,i,h4,h5⟩
    ·exact .inl ⟨z,B,r,by rw[w];exact zBF _ hr,i⟩
    ·exact .inr ⟨j,c,z,by rw[s.tb];exact B,i,(ek _ _).2 h4,by unfold InT at h5 ⊢;rw[et];exact h5⟩
   ·simp only[zW]at g;subst g;exact .inl ⟨rfl,rfl,(x,m.toNat),by rw[w];simp,rfl,rfl⟩
  ·rw[zR];constructor
   ·rintro(g|g)
    ·exact g
    ·simp only[zW]at g;subst g;exact(C rfl).elim
   ·exact .inl
  ·obtain⟨p,g,q⟩:=h.ht k A hk j y ((ek j y).1 F);exact⟨p,zBF _ g,q⟩
  ·rw[w]at hr;rcases zR.1 hr with hr|hr
   ·obtain⟨p,g,q⟩:=h.hr k A hk r hr;exact⟨p,zBF _ g,q⟩
   ·simp only[zW]at hr;subst hr;exact⟨_,zBV _ (zW.2 rfl),rfl,rfl,rfl⟩
theorem WI.giveOwn (h:WI W)(hk:W.ars[k]?=some A){r:Nat×Nat}(hr:r∈A.runs):ownW W.held k (-1) [(r.1:Int)*256]=true:=by
 refine KD.2 ⟨λx d=>?_,by simp⟩;simp only[zW]at d;subst d;obtain⟨p,e,b,a,g⟩:=h.hr k A hk r hr;exact⟨p,e,KC.2 ⟨b,a,O,(h.run e a (by rw[b];exact hk)).1⟩⟩
theorem WI.giveP (h:WI W)(hk:W.ars[k]?=some A)(x:Int):WI (W.put k (QH A x) W.sp (if KR A x=0 then WhX W.held k (-1) [x*256]else W.held)):=by
 have ga:=h.ga k A hk;obtain⟨⟨kp,g⟩,K,J,N,M⟩:=WiG ga x;by_cases h0:KR A x=0
 ·rw[zB h0];obtain⟨r,hr,rfl,G⟩:=M h0;rw[h.drp (h.giveOwn hk hr)];have d:∀p:Pc,isOf k (-1) [(r.1:Int)*256] p=true↔p.k=k/\p.cls = -1/\p.addr=r.1*256:=λp=>by
   rw[Z4];simp only[zW];constructor
   ·rintro⟨a,b,c⟩;exact⟨a,b,O⟩
   ·rintro⟨a,b,c⟩;exact⟨a,b,O⟩
  refine h.step hk (St.kp g (h.ow k A hk) kp) (V0 h.hk _) (λp w e=>?_) (λp B=>?_) (λi y L=>?_) λq m=>?_
  ·have u:=zH.1 w;have s:¬isOf k (-1) [(r.1:Int)*256] p=true:=by simpa using u.2
   rw[d]at s;rcases h.hd hk u.1 e with⟨h1,h2,q,m,z⟩|⟨j,c,h1,h2,z,H,D⟩
   ·refine .inl ⟨h1,h2,q,?_,z⟩;rw[G,zH];refine⟨m,?_⟩;have:q≠r:=by rintro rfl;exact s ⟨e,h1,z.1⟩
    simpa using this
   ·exact .inr ⟨j,c,h1,by rw[kp.tb];exact h2,z,(J _ _).2 H,by unfold InT at D ⊢;rw[K];exact D⟩
  ·rw[zH];have:isOf k (-1) [(r.1:Int)*256] p=false:=by
    apply zAU.2;intro hx;exact B (Z4.1 hx).1
   rw[this];simp
  ·obtain⟨p,w,C,E,F⟩:=h.ht k A hk i y ((J i y).1 L);refine⟨p,zH.2 ⟨w,?_⟩,C,E,F⟩;have:isOf k (-1) [(r.1:Int)*256] p=false:=by
    apply zAU.2;intro hx;have:=((d p).1 hx).2.1;omega
   rw[this];rfl
  ·rw[G,zH]at m;obtain⟨p,w,C,E,F⟩:=h.hr k A hk q m.1;refine⟨p,zH.2 ⟨w,?_⟩,C,E,F⟩;have:isOf k (-1) [(r.1:Int)*256] p=false:=by
    apply zAU.2;intro hx;have z:=((d p).1 hx).2.2;have H:=ga.rpos q m.1;have D:=ga.rpos r hr;have:q=r:=ga.runs_uniq m.1 hr (x:=q.1) O O O O;subst this;simp at m
   rw[this];rfl
 ·rw[zA h0,N h0];exact Wac hk h
theorem WI.tick (h:WI W)(hk:W.ars[k]?=some A):WI (W.put k (UX A) W.sp (Wgm (W.ars.set k (UX A)) W.held)):=by
 have ga:=h.ga k A hk;have t:=WkE ga;have u:=(gSi.1 hk).1;have d:(W.ars.set k (UX A))[k]?=some (UX A):=zM u;have keep:∀p∈W.held,p∈Wgm (W.ars.set k (UX A)) W.held↔(p.k=k->∀j:Nat,p.cls=j->TkA (UX A) j (p.addr:Int)):=by
  intro p a;unfold Wgm;rw[zH];simp only[a,zDO,zBM,zAX];by_cases hpk:p.k=k
  ·rw[hpk,d];simp only[true_implies];rcases h.hd hk a hpk with⟨h1,h2,r,hr,h3⟩|⟨j,c,h1,h2,h3,h4,h5⟩
   ·exact⟨λ_ j z=>O,λ_=>.inl h2⟩
   ·constructor
    ·intro hx i F;obtain rfl:i=j:=by omega
     rcases hx with hx|hx
     ·refine(t.tk i _).2 ⟨h4,λD=>?_⟩;rw[h5.2 D]at hx;cases hx
     ·rcases(Waz t.ob.ga).1 hx with⟨j',hj'⟩|⟨r,hr,e⟩
      ·obtain⟨y,e,hf⟩:=((t.tk j' _).1 hj').1.find ga;obtain⟨L,J,b⟩:=h4.find ga;rw[hf]at b;have:j'=i:=by
        have:=congrArg Prod.fst (Option.some.inj b);simp only at this;omega
       rw[←this];exact hj'
      ·rw[t.ob.runs]at hr;have:=ga.rpos r hr;have K:=WdE ga hr (x:=r.1*256) (zC _) O;obtain⟨L,J,b⟩:=h4.find ga;rw[e,K]at b;have:=congrArg Prod.fst (Option.some.inj b);simp only at this;omega
    ·intro hx;by_cases hm:p.moved=true
     ·exact .inr ((Waz t.ob.ga).2 (.inl ⟨j,hx j h1⟩))
     ·exact .inl (by simpa using hm)
  ·constructor
   ·intro _ hx;exact(hpk hx).elim
   ·intro _;obtain⟨C,E,H⟩:=h.hf p a;rw[zh (Ne.symm hpk),E];rcases H with⟨h1,h2,_⟩|⟨j,c,_,_,_,h4,_⟩
    ·exact .inl h2
    ·exact .inr ((Waz (h.ga _ C E)).2 (.inl ⟨j,h4⟩))
 have sub:∀p,p∈Wgm (W.ars.set k (UX A)) W.held->p∈W.held:=λp a=>(zH.1 a).1;refine h.step hk (t.ob.st (h.ow k A hk)) (V0 h.hk _) (λp a e=>?_) (λp s=>⟨sub p,λa=>(keep p a).2 λe=>(s e).elim⟩) (λj y G=>?_) λr hr=>?_
 ·have w:=(keep p (sub p a)).1 a e;rcases h.hd hk (sub p a) e with⟨h1,h2,r,hr,h3⟩|⟨j,c,h1,h2,h3,h4,h5⟩
  ·exact .inl ⟨h1,h2,r,by rw[t.ob.runs];exact hr,h3⟩
  ·have z:=w j h1;refine .inr ⟨j,c,h1,by rw[t.ob.kp.tb];exact h2,h3,z,?_⟩;rw[h5];exact⟨((t.tk j _).1 z).2,t.sub j _⟩
 ·obtain⟨p,a,m,B,g⟩:=h.ht k A hk j y ((t.tk j y).1 G).1;refine⟨p,(keep p a).2 λ_ i F=>?_,m,B,g⟩;obtain rfl:i=j:=by omega
  rw[g];exact G
 ·rw[t.ob.runs]at hr;obtain⟨p,a,m,B,g⟩:=h.hr k A hk r hr;exact⟨p,(keep p a).2 λ_ i F=>O,m,B,g⟩
theorem WI.page (h:WI W){p:Pc}(hp:p∈W.held)(hk:W.ars[p.k]?=some A){x:Nat}(h1:p.addr<=x)(h2:x<p.addr+p.size):A.f (x/256)=1:=by
 have ga:=h.ga _ A hk;rcases h.hd hk hp rfl with⟨_,_,r,hr,e1,e2⟩|⟨j,c,_,hc,e1,ht,_⟩
 ·exact(ga.usedR hr O O).1
 ·obtain⟨d,u,a,b⟩:=ht;have:d=c:=Option.some.inj (a.1.symm.trans hc);subst this;have g:=ga.cen j d u a;obtain⟨l,s,i,w,m,e,_⟩:=(Uc g).1 b;have y:p.addr=at_ d s i:=Int.ofNat.inj e;have:=HU g.pos m (s:=s) (x:=x) O O;exact(ga.used a (zE w) this.1 this.2).1
theorem TkA.lt (h:GA A){j:Nat}{x:Int}(hx:TkA A j x):∃y:Nat,x=y/\y<262144:=by
 obtain⟨c,m,b,g⟩:=hx;have a:=h.cen j c m b;obtain⟨l,s,i,r,e,rfl,w⟩:=(Uc a).1 g;have d:=HU a.pos (s:=s) (x:=at_ c s i) e (zC _) (by have:=a.pos;omega);have u:=(h.used b (zE r) d.1 d.2).1;have:=h.pg.lt (p:=at_ c s i/256) O;have:=h.pg.n2;exact⟨_,rfl,O⟩
theorem GA.traI (h:GA A):TraI A:=by
 intro t ht xs hxs x hx;obtain⟨k,d⟩:=zN ht;have a:k<A.tb.length:=by rw[←h.lt];exact(gSi.1 d).1
 obtain⟨c,e,g,b,_⟩:=h.cl a;obtain⟨y,rfl,i⟩:=TkA.lt h ((KQ b).2 (h.trt k c e t b d x (List.mem_flatten.2 ⟨xs,hxs,hx⟩)));unfold I63;omega
theorem WI.addr_lt (h:WI W){p:Pc}(hp:p∈W.held):p.addr<262144/\p.addr+p.size<=270000:=by
 obtain⟨A,g,m⟩:=h.hf p hp;have ga:=h.ga _ A g;have x:=ga.pg.n2;rcases m with⟨_,_,r,hr,h1,h2⟩|⟨j,c,_,hc,h2,h3,_⟩
 ·have w:=ga.fit hr;have u:=ga.rpos r hr;omega
 ·obtain⟨y,e,s⟩:=h3.lt ga;obtain⟨d,i,a,_⟩:=h3;have:d=c:=Option.some.inj (a.1.symm.trans hc);subst this;have b:=(ga.cen j _ i a).ok;unfold Cls.ok at b;omega
theorem Wcn:∀(N:Nat) (l:List Nat),l.Nodup->(∀x∈l,x<N)->l.length<=N
 | 0,l,_,h=>by
  cases l with
  | nil=>simp
  | cons x l=>have:=h x aA;omega
 | N+1,l,hn,h=>by
  have g:=Wcn N (l.filter (· != N)) (hn.sublist zCS) λx b=>by
   have b:=zH.1 b;have:=h x b.1;have:x≠N:=by simpa using b.2
   omega
  have d:=List.length_eq_countP_add_countP (l:=l) (p:=(· != N));have i:l.countP (λa=>¬(a != N)=true)<=1:=by
   have e:l.countP (λa=>¬(a != N)=true)=l.count N:=by
    unfold List.count;apply zFW;intro x _;simp
   rw[e];exact zGX.1 hn N
  rw[zES]at d;omega
theorem WI.apart (h:WI W){p q:Pc}(hp:p∈W.held)(hq:q∈W.held){x:Nat}(p1:p.addr<=x)(p2:x<p.addr+p.size)(q1:q.addr<=x)(q2:x<q.addr+q.size):p=q:=by
 obtain⟨A,m,J⟩:=h.hf p hp;obtain⟨B,y,D⟩:=h.hf q hq;have N:=h.page hp m p1 p2;have M:=h.page hq y q1 q2;have z:p.k=q.k:=h.one (x/256) p.k q.k A B m y O O;rw[←z,m]at y;cases y;have ga:=h.ga _ A m;have L:=ga.tb;have own:∀{r:Pc},Hd A r->r.addr<=x->x<r.addr+r.size->(r.cls = -1/\A.ow (x/256)=41/\∃u∈A.runs,r.addr=u.1*256/\u.1<=x/256/\x/256<u.1+u.2) ∨
  ∃(j:Nat) (c:Cls) (b:List SpA) (l:Nat) (s:SpA) (i:Nat),r.cls=j/\A.ow (x/256)=j+1/\Cl A j c b/\b[l]?=some s/\i<c.n/\r.addr=at_ c s i/\r.size=c.size:=by
  intro r hr r1 r2;rcases hr with⟨c1,_,u,hu,c2,c3⟩|⟨j,c,c1,c2,c3,c4,_⟩
  ·exact .inl ⟨c1,(ga.usedR hu O O).2,u,hu,c2,O,O⟩
  ·obtain⟨d,b,a,H⟩:=c4;have:d=c:=Option.some.inj (a.1.symm.trans c2);subst this;have F:=ga.cen j d b a;obtain⟨l,s,i,E,C,e,_⟩:=(Uc F).1 H;have K:r.addr=at_ d s i:=Int.ofNat.inj e;have g:=HU F.pos (s:=s) (x:=x) C O O;exact .inr ⟨j,d,b,l,s,i,c1,(ga.used a (zE E) g.1 g.2).2,a,E,C,K,c3⟩
 refine h.unique hp hq ?_;rcases own J p1 p2 with⟨a1,a2,u,hu,a3,a4,a5⟩|⟨j,c,b,l,s,i,a1,a2,a3,a4,a5,a6,a7⟩
 ·rcases own D q1 q2 with⟨b1,b2,w,hw,b3,b4,b5⟩|⟨j',d,ss',l',s',i',b1,b2,b3,b4,b5,b6,b7⟩
  ·have:=ga.runs_uniq hu hw a4 a5 b4 b5;subst this;unfold Pc.key;rw[z,a1,b1,a3,b3]
  ·have:=b3.lt;omega
 ·rcases own D q1 q2 with⟨b1,b2,w,hw,b3,b4,b5⟩|⟨j',d,ss',l',s',i',b1,b2,b3,b4,b5,b6,b7⟩
  ·have:=a3.lt;omega
  ·have G:j=j':=by omega
   subst G;obtain⟨rfl,rfl⟩:=a3.eq b3;have:=Uk (ga.cen j c b a3) a4 b4 a5 b5 (x:=x) O O O O;unfold Pc.key;rw[z,a1,b1,a6,b6,this.2.1,this.2.2]
theorem WI.size_pos (h:WI W){p:Pc}(hp:p∈W.held):8<=p.size/\p.size%8=0:=by
 obtain⟨A,d,i⟩:=h.hf p hp;have ga:=h.ga _ A d;rcases i with⟨_,_,r,hr,h1,h2⟩|⟨j,c,_,hc,h2,h3,_⟩
 ·have m:=ga.rpos r hr;omega
 ·obtain⟨g,e,a,_⟩:=h3;have:g=c:=Option.some.inj (a.1.symm.trans hc);subst this;have b:=(ga.cen j _ e a).ok;unfold Cls.ok at b;omega
theorem WI.len (h:WI W):W.held.length<=262144:=by
 have u:(W.held.map (·.addr)).Nodup:=by
  have r:=zAE.1 h.hk;refine zAE.2 λi j g m d e=>?_;have a:i<W.held.length:=by simpa using g
  have b:j<W.held.length:=by simpa using m
  refine r i j (by simpa using a) (by simpa using b) d ?_;simp only[zCT]at e ⊢;have s1:=(h.size_pos (zc a)).1;have y:=(h.size_pos (zc b)).1;rw[h.apart (zc a) (zc b) (x:=W.held[i].addr) (zC _) O O O]
 have:=Wcn 262144 _ u λx s=>by
  obtain⟨p,w,rfl⟩:=zD.1 s;exact(h.addr_lt w).1
 simpa using this
end Go.Ar
namespace Go.Ar
open Go.Vc (mget mset mdel)
def cnV (live:List (Int×Bk))(k x:Int):Nat:=live.countP λe=>e.2.2.2.1==k&&e.1==x
def cnL (ls:List Li)(k x:Int):Nat:=if 0<=k then(ls.getD k.toNat liN).os.count x else 0
def cnB (bs:List Bt)(k x:Int):Nat:=(bs.map λb=>if(b.1:Int)=k then b.2.count x else 0).sum
def cnP (p:Option Ph)(k x:Int):Nat:=match p with
 | some (.give s _)=>if k = -1/\x=s*256 then 1 else 0
 | _=>0
def cnT (g:Th)(k x:Int):Nat:=cnL g.ls k x+cnB g.hands k x+cnP g.ph k x
def cnH (H:Hw)(k x:Int):Nat:=cnV H.live k x+(H.ths.map λg=>cnT g k x).sum
def Um (held:List Pc)(k x:Int):Prop:=∃p∈held,p.moved=false/\p.cls=k/\(p.addr:Int)=x
open Classical in
noncomputable def cnW (held:List Pc)(k x:Int):Nat:=if Um held k x then 1 else 0
theorem WlT (held:List Pc)(k x:Int):cnW held k x<=1:=by unfold cnW;split<;>omega
theorem Wez {held:List Pc}{k x:Int}(h:1<=cnW held k x):Um held k x:=by
 unfold cnW at h;split at h
 ·assumption
 ·omega
theorem KN {held:List Pc}{k x:Int}(h:Um held k x):cnW held k x=1:=by unfold cnW;rw[zB h]
theorem QS {held:List Pc}{k x:Int}(h:¬Um held k x):cnW held k x=0:=by unfold cnW;rw[zA h]
theorem WkW {held held':List Pc}(h:∀k x,Um held' k x↔Um held k x)(k x:Int):cnW held' k x=cnW held k x:=by
 by_cases hu:Um held k x
 ·rw[KN hu,KN ((h k x).2 hu)]
 ·rw[QS hu,QS λa=>hu ((h k x).1 a)]
theorem WlN {l:List Int}(hn:l.Nodup)(x:Int):l.count x=if x∈l then 1 else 0:=by
 split
 ·rename_i h;have a:=zGX.1 hn x;have b:=zGY.2 h;omega
 ·rename_i h;exact zEY.2 h
theorem We3 {held held':List Pc}{cl:Int}{l:List Int}(hn:l.Nodup)(h0:∀x∈l,¬Um held cl x)(h:∀k x,Um held' k x↔Um held k x\/(k=cl/\x∈l))(k x:Int):cnW held' k x=cnW held k x+(if cl=k then l.count x else 0):=by
 by_cases hk:cl=k
 ·subst hk;rw[zB rfl,WlN hn];by_cases hx:x∈l
  ·rw[zB hx,QS (h0 x hx),KN ((h _ _).2 (.inr ⟨rfl,hx⟩))]
  ·rw[zA hx,zq];by_cases hu:Um held cl x
   ·rw[KN hu,KN ((h _ _).2 (.inl hu))]
   ·rw[QS hu,QS λa=>by rcases(h _ _).1 a with a|⟨_,a⟩;exact hu a;exact hx a]
 ·rw[zA hk,zq];by_cases hu:Um held k x
  ·rw[KN hu,KN ((h _ _).2 (.inl hu))]
  ·rw[QS hu,QS λa=>by rcases(h _ _).1 a with a|⟨a,_⟩;exact hu a;exact hk a.symm]
theorem Whf {held held':List Pc}{cl:Int}{l:List Int}(hn:l.Nodup)(h0:∀x∈l,Um held cl x)(h:∀k x,Um held' k x↔Um held k x/\¬(k=cl/\x∈l))(k x:Int):cnW held k x=cnW held' k x+(if cl=k then l.count x else 0):=by
 by_cases hk:cl=k
 ·subst hk;rw[zB rfl,WlN hn];by_cases hx:x∈l
  ·rw[zB hx,KN (h0 x hx),QS λa=>((h _ _).1 a).2 ⟨rfl,hx⟩]
  ·rw[zA hx,zq];by_cases hu:Um held cl x
   ·rw[KN hu,KN ((h _ _).2 ⟨hu,λa=>hx a.2⟩)]
   ·rw[QS hu,QS λa=>hu ((h _ _).1 a).1]
 ·rw[zA hk,zq];by_cases hu:Um held k x
  ·rw[KN hu,KN ((h _ _).2 ⟨hu,λa=>hk a.1.symm⟩)]
  ·rw[QS hu,QS λa=>hu ((h _ _).1 a).1]
theorem WhG {α:Type}(f:α->Nat):∀{l:List α} {t:Nat} {g:α} (g':α),l[t]?=some g->((l.set t g').map f).sum+f g=(l.map f).sum+f g'
 | [],t,g,g',h=>by simp at h
 | a::l,0,g,g',h=>by
  simp only[zEX,Option.some.injEq]at h;subst h;simp only[List.set_cons_zero,zJ,zp];omega
 | a::l,t+1,g,g',h=>by
  have:=WhG f (l:=l) (t:=t) g' (by simpa using h);simp only[zCX,zJ,zp];omega
theorem Web {α:Type}(f:α->Nat){l:List α}{g:α}(h:g∈l):f g<=(l.map f).sum:=by
 induction l with
 | nil=>simp at h
 | cons a l ih=>
  simp only[zJ,zp];rcases zQ.1 h with rfl|h
  ·omega
  ·have:=ih h;omega
theorem Wau (ls:List Li)(k:Nat)(x:Int):cnL ls (k:Int) x=(ls.getD k liN).os.count x:=by
 unfold cnL;rw[zB O,iTn]
theorem WfX {ls:List Li}{j:Nat}(l:Li)(k:Nat)(h:j<ls.length):(ls.set j l).getD k liN=if k=j then l else ls.getD k liN:=by
 rw[zL,zBI];by_cases hkj:k=j
 ·subst hkj;simp[h]
 ·rw[zA hkj,zA (Ne.symm hkj),zL]
theorem Wnd {ls:List Li}{j:Nat}(l:Li)(h:j<ls.length)(k x:Int):cnL (ls.set j l) k x+(if(j:Int)=k then(ls.getD j liN).os.count x else 0)=cnL ls k x+(if(j:Int)=k then l.os.count x else 0):=by
 by_cases hk:0<=k
 ·obtain⟨k,rfl⟩:=zk hk;rw[Wau,Wau,WfX l k h];by_cases hjk:j=k
  ·subst hjk;simp;omega
  ·have:¬(j:Int)=(k:Int):=by omega
   rw[zA (Ne.symm hjk),zA this,zA this]
 ·unfold cnL;rw[zA hk,zA hk,zA O,zA O]
theorem VH (k x:Int):cnB [] k x=0:=rfl
theorem Kx (b:Bt)(bs:List Bt)(k x:Int):cnB (b::bs) k x=(if(b.1:Int)=k then b.2.count x else 0)+cnB bs k x:=by
 unfold cnB;rw[zJ,zp]
theorem WbE (a b:List Bt)(k x:Int):cnB (a++b) k x=cnB a k x+cnB b k x:=by
 unfold cnB;rw[zAD,zDK]
theorem cnF {f:Cls->Li->List Int×Li}(hf:∀c l x,(f c l).1.count x+(f c l).2.os.count x=l.os.count x){tb:List Cls}{ls:List Li}(hl:ls.length=tb.length)(k x:Int):cnB (Ka f tb ls) k x+cnL (Q6 f tb ls) k x=cnL ls k x:=by
 have key:∀n,n<=tb.length->cnB ((List.range n).filterMap λk=>match tb[k]?,ls[k]? with
  | some c,some l=>if(f c l).1=[]then none else some (k,(f c l).1)
  | _,_=>none) k x=if 0<=k/\k<(n:Int)then(match tb[k.toNat]?,ls[k.toNat]? with
  | some c,some l=>(f c l).1.count x
  | _,_=>0)else 0:=by
  intro n
  induction n with
  | zero=>intro _;rw[zA O];rfl
  | succ n i=>
   intro hn;have i:=i O;rw[zAC,zDZ,WbE,i];have d:tb[n]?=some tb[n]:=gGe O;have a:ls[n]?=some ls[n]:=gGe O;have e:cnB ([n].filterMap λk=>match tb[k]?,ls[k]? with
    | some c,some l=>if(f c l).1=[]then none else some (k,(f c l).1)
    | _,_=>none) k x=if(n:Int)=k then(f tb[n] ls[n]).1.count x else 0:=by
    rw[zGE,d,a];simp only;by_cases he:(f tb[n] ls[n]).1=[]
    ·rw[zB he,he];simp[VH]
    ·rw[zA he];simp only[List.filterMap_nil,Kx,VH,zq]
   rw[e];by_cases b:0<=k/\k<(n:Int)
   ·rw[zB b,zA (show ¬(n:Int)=k by omega),zq,zB (show 0<=k/\k<((n+1:Nat):Int)from⟨b.1,O⟩)]
   ·rw[zA b,zG];by_cases g:(n:Int)=k
    ·subst g;rw[zB rfl,zB (show(0:Int)<=(n:Int)/\(n:Int)<((n+1:Nat):Int)from⟨O,O⟩),iTn,d,a]
    ·rw[zA g,zA O]
 have b:=key tb.length (zC _);have e:Ka f tb ls=(List.range tb.length).filterMap λk=>match tb[k]?,ls[k]? with
  | some c,some l=>if(f c l).1=[]then none else some (k,(f c l).1)
  | _,_=>none:=rfl
 rw[e,b];by_cases hk:0<=k
 ·obtain⟨k,rfl⟩:=zk hk;rw[Wau,Wau,iTn];by_cases hkl:k<tb.length
  ·have d:tb[k]?=some tb[k]:=gGe hkl;have a:ls[k]?=some ls[k]:=gGe O;rw[zB ⟨O,O⟩,d,a];simp only;have:(Q6 f tb ls).getD k liN=(f tb[k] ls[k]).2:=by
    unfold Q6;rw[zL,zGV,d,a];rfl
   rw[this,zL,a];exact hf _ _ _
  ·rw[zA O,zG];have b:(Q6 f tb ls).getD k liN=liN:=by
    unfold Q6;rw[zL,zZ (by rw[List.length_zipWith];omega)];rfl
   have g:ls.getD k liN=liN:=by rw[zL,zZ O];rfl
   rw[b,g]
 ·rw[zA O,zG];unfold cnL;rw[zA hk,zA hk]
theorem WeH (m:Nat)(l:Li)(x:Int):(oldL m l).1.count x+(oldL m l).2.os.count x=l.os.count x:=by
 show(l.os.take m).count x+(l.os.drop m).count x=_;rw[←zEF,zBE]
theorem WkG (c:Cls)(l:Li)(x:Int):(KK c l).1.count x+(KK c l).2.os.count x=l.os.count x:=WeH _ l x
theorem Wh8 (c:Cls)(l:Li)(x:Int):(ZX c l).1.count x+(ZX c l).2.os.count x=l.os.count x:=WeH _ l x
theorem Wl9 (c:Cls)(y:Int)(l:Li)(hl:l.os.length<=255)(x:Int):(putL c y l).1.count x+(putL c y l).2.os.count x=l.os.count x + [y].count x:=by
 have a:(addL [y] l).os=l.os++[y]:=by
  unfold addL;rw[zA aE]
 unfold putL;rw[zA O];split
 ·rw[a,List.count_nil,zG,zEF]
 ·rw[WeH];have:(upL c (addL [y] l)).os=(addL [y] l).os:=by unfold upL;split<;>rfl
  rw[this,a,zEF]
theorem Wf6 {c:Cls}{l l':Li}{y:Int}(h:Kb c l=(some y,l'))(x:Int):l.os.count x=l'.os.count x + [y].count x:=by
 unfold Kb at h;split at h
 ·simp at h
 ·rename_i z hz;cases h;have:l.os=l.os.dropLast++[y]:=by
   obtain⟨b,a⟩:=List.getLast?_eq_some_iff.1 hz;rw[a];simp
  conv=>lhs;rw[this]
  rw[zEF]
theorem WhP {c:Cls}{l l':Li}(h:Kb c l=(none,l')):l.os=[]/\l'.os=[]:=by
 unfold Kb at h;split at h
 ·rename_i hz;have:l.os=[]:=by simpa using hz
  cases h;refine⟨this,?_⟩;split<;>exact this
 ·simp at h
theorem Wb3 {live:List (Int×Bk)}{x:Int}(b:Bk)(h:mget live x=none)(k y:Int):cnV (mset live x b) k y=cnV live k y+(if b.2.2.1=k then[x].count y else 0):=by
 have a:live.any (λe=>e.1==x)=false:=by
  rw[zAY];intro e he hx;unfold mget at h;rw[zCO,zBN]at h;exact h e he hx
 unfold mset;rw[a,zA aA];unfold cnV;rw[zDQ]
 congr 1
 rw[zCI,List.countP_nil,zG];by_cases h1:b.2.2.1=k
 ·by_cases h2:x=y
  ·subst h2;simp[h1]
  ·simp[h1,h2]
 ·simp[h1]
theorem Wb8 {live:List (Int×Bk)}{x:Int}{b:Bk}(h:mget live x=none){e:Int×Bk}:e∈mset live x b↔e∈live\/e=(x,b):=by
 have a:live.any (λe=>e.1==x)=false:=by
  rw[zAY];intro e he hx;unfold mget at h;rw[zCO,zBN]at h;exact h e he hx
 unfold mset;rw[a,zA aA,zR,zW]
theorem Wcv {live:List (Int×Bk)}{x:Int}{e:Int×Bk}:e∈mdel live x↔e∈live/\e.1≠x:=by
 unfold mdel;rw[zH];simp
theorem Wch:∀{live:List (Int×Bk)} {x:Int} {b:Bk},(live.map (·.1)).Nodup->mget live x=some b->∀k y,cnV live k y=cnV (mdel live x) k y+(if b.2.2.1=k then[x].count y else 0)
 | [],x,b,_,h,_,_=>by simp[mget]at h
 | e::l,x,b,hn,h,k,y=>by
  rw[zJ,zo]at hn;by_cases he:e.1=x
  ·have hb:e.2=b:=by
    unfold mget at h;rw[List.find?_cons_of_pos (by simpa using he)]at h;simpa using h
   have hd:mdel (e::l) x=l:=by
    unfold mdel;rw[zDL (by simpa using he),zBL];intro a ha;have:a.1≠x:=λi=>hn.1 (zD.2 ⟨a,ha,i.trans he.symm⟩);simpa using this
   rw[hd];unfold cnV;rw[zCI,hb,he]
   congr 1
   by_cases h1:b.2.2.1=k
   ·by_cases h2:x=y
    ·subst h2;simp[h1]
    ·simp[h1,h2]
   ·simp[h1]
  ·have g:mget l x=some b:=by
    unfold mget at h ⊢
    rwa [List.find?_cons_of_neg (by simpa using he)]at h
   have d:=Wch hn.2 g k y;have hd:mdel (e::l) x=e::mdel l x:=by
    unfold mdel;rw[zDM (by simpa using he)]
   rw[hd];unfold cnV at d ⊢;rw[zCI,zCI,d];omega
theorem Wjc {live:List (Int×Bk)}{e:Int×Bk}(h:e∈live):1<=cnV live e.2.2.2.1 e.1:=by
 unfold cnV;exact List.countP_pos_iff.2 ⟨e,h,by simp⟩
structure Sim (s s':Sp):Prop where
 l:s'.st.length=s.st.length
 z:∀p,gf s'.st p=0↔gf s.st p=0
 w:s'.wd=s.wd
def PhI (m:Nat)(g:Th):Prop:=match g.ph with
 | none=>g.hands=[]
 | some (.take k)=>g.hands=[]/\k<m
 | some (.transfer k w)=>g.hands=[]/\k<m/\(g.li k).os=[]/\1<=w/\w<=32
 | some (.central k w)=>g.hands=[]/\k<m/\(g.li k).os=[]/\1<=w/\w<=32
 | some (.grow k w)=>g.hands=[]/\k<m/\(g.li k).os=[]/\1<=w/\w<=32
 | some .fill=>∃k x xs,g.hands=[(k,x::xs)]/\k<m/\(g.li k).os=[]/\xs.length<=128
 | some (.large n)=>g.hands=[]/\1<=n/\n<=64
 | some (.find x)=>g.hands=[]/\I63 x
 | some (.put k x)=>g.hands=[(k,[x])]/\k<m
 | some .back=>g.hands≠[]
 | some (.give _ _)=>g.hands=[]
 | some .drain=>g.hands=[]
structure ThI (m:Nat) (g:Th):Prop where
 ll:g.ls.length=m
 lo:∀l∈g.ls,LiOk l/\l.os.length<=128
 hb:∀b∈g.hands,b.1<m/\b.2≠[]/\b.2.length<=256
 hl:g.hands.length<=41
 ph:PhI m g
def Lv (held:List Pc)(e:Int×Bk):Prop:=e.2.1=e.1/\∃p∈held,p.moved=false/\p.cls=e.2.2.2.1/\(p.addr:Int)=e.1/\e.2.2.1=(p.size:Int)/\e.2.2.2.2=(p.k:Int)
def Gv (held:List Pc)(s a:Int):Prop:=∃p∈held,p.moved=false/\p.cls = -1/\(p.addr:Int)=s*256/\a=(p.k:Int)
structure HI (H:Hw) (held:List Pc) (s0:Sp):Prop where
 wi:WI ⟨H.tb,s0,H.ars,held⟩
 sim:Sim s0 H.sp
 cn:∀k x,cnH H k x=cnW held k x
 lk:(H.live.map (·.1)).Nodup
 lv:∀e∈H.live,Lv held e
 gv:∀g∈H.ths,∀s a,g.ph=some (.give s a)->Gv held s a
 th:∀g∈H.ths,ThI H.tb.length g
 ok:∀c∈H.tb,c.ok
 a1:1<=H.ars.length
 sl:H.sp.st.length=H.cf.pages
variable {H:Hw}{held:List Pc}{s0:Sp}{t k:Nat}{g:Th}{A:AR}
theorem Sim.refl (s:Sp):Sim s s:=⟨rfl,λ_=>Iff.rfl,rfl⟩
theorem HI.apart (h:HI H held s0){p q:Pc}(hp:p∈held)(hq:q∈held){x:Nat}(p1:p.addr<=x)(p2:x<p.addr+p.size)(q1:q.addr<=x)(q2:x<q.addr+q.size):p=q:=h.wi.apart hp hq p1 p2 q1 q2
theorem WI.same {W:Wd}(h:WI W){p q:Pc}(hp:p∈W.held)(hq:q∈W.held)(e:p.addr=q.addr):p=q:=by
 have a:=(h.size_pos hp).1;have b:=(h.size_pos hq).1;exact h.apart hp hq (x:=p.addr) (zC _) O O O
theorem WI.um {W:Wd}(h:WI W){p:Pc}(hp:p∈W.held){k x:Int}(hu:Um W.held k x)(e:(p.addr:Int)=x):p.moved=false/\p.cls=k:=by
 obtain⟨q,b,d,a,g⟩:=hu;obtain rfl:=h.same hp b O;exact⟨d,a⟩
theorem HI.live_um (h:HI H held s0){e:Int×Bk}(he:e∈H.live):Um held e.2.2.2.1 e.1:=by
 obtain⟨_,p,a,d,b,g,_⟩:=h.lv e he;exact⟨p,a,d,b,g⟩
theorem HI.cnT_le (h:HI H held s0){g:Th}(hg:g∈H.ths)(k x:Int):cnT g k x<=cnW held k x:=by
 rw[←h.cn];unfold cnH;have:=Web (λg=>cnT g k x) hg;omega
theorem HI.um_t (h:HI H held s0){g:Th}(hg:g∈H.ths){k x:Int}(hc:1<=cnT g k x):Um held k x:=Wez (zI hc (h.cnT_le hg k x))
theorem HI.not_live (h:HI H held s0){g:Th}(hg:g∈H.ths){k x:Int}(hc:1<=cnT g k x):mget H.live x=none:=by
 cases hm:mget H.live x with
 | none=>rfl
 | some b=>
  have a:=KV hm;have i:=h.um_t hg hc;obtain⟨q,m,w,j,u⟩:=h.live_um a;have s:k=b.2.2.1:=by
   have:=(h.wi.um (W:=⟨H.tb,s0,H.ars,held⟩) m i u).2;exact this.symm.trans j
  have r:=Wjc a;have d:=h.cn k x;have p:=WlT held k x;have e:=Web (λg=>cnT g k x) hg;simp only at r e;unfold cnH at d;rw[s]at d p e hc;omega
theorem HI.not_um (h:HI H held s0){x:Int}(hn:∀k,¬Um held k x):mget H.live x=none:=by
 cases hm:mget H.live x with
 | none=>rfl
 | some b=>exact(hn _ (h.live_um (KV hm))).elim
theorem HI.upd (h:HI H held s0)(hg:H.ths[t]?=some g){g':Th}{live':List (Int×Bk)}{s0' sp':Sp}{ars':List AR}{held':List Pc}(wi:WI ⟨H.tb,s0',ars',held'⟩)(sim:Sim s0' sp')(hsl:sp'.st.length=H.sp.st.length)(hl:ars'.length=H.ars.length)
 (sub:∀p∈held',p.moved=false->p∈held\/∀k,¬Um held k (p.addr:Int))
 (cn:∀k x,cnV live' k x+cnT g' k x+cnW held k x=cnV H.live k x+cnT g k x+cnW held' k x)
 (lk:(live'.map (·.1)).Nodup) (lv:∀e∈live',e∈H.live\/Lv held' e) (gv:∀s a,g'.ph=some (.give s a)->Gv held' s a) (th:ThI H.tb.length g') :
 HI {H with live:=live',sp:=sp',ars:=ars',ths:=H.ths.set t g'} held' s0':=by
 have r:∀k x,cnH {H with live:=live',sp:=sp',ars:=ars',ths:=H.ths.set t g'} k x=cnW held' k x:=λk x=>by
  have b:=h.cn k x;have u:=cn k x;have i:=WhG (λg=>cnT g k x) g' hg;unfold cnH at b ⊢;simp only at i ⊢;omega
 have F:=(gSi.1 hg).1;have keep:∀p∈held,p.moved=false->Um held' p.cls (p.addr:Int)->p∈held':=λp m D ⟨q,A,b,u,i⟩=>by
  rcases sub q A b with hs|hs
  ·have:q=p:=h.wi.same (W:=⟨H.tb,s0,H.ars,held⟩) hs m O;rw[←this];exact A
  ·exact(hs p.cls ⟨p,m,D,rfl,i.symm⟩).elim
 refine⟨wi,sim,r,lk,λe B=>?_,λw d s a m=>?_,λw d=>?_,h.ok,by simp only;rw[hl];exact h.a1,hsl.trans h.sl⟩
 ·rcases lv e B with he'|he'
  ·obtain⟨E,p,m,b,u,i,y⟩:=h.lv e he';refine⟨E,p,keep p m b ?_,b,u,i,y⟩;rw[u,i];apply Wez;rw[←r];have:1<=cnV live' e.2.2.2.1 e.1:=Wjc B;unfold cnH;simp only;omega
  ·exact he'
 ·rcases List.mem_iff_getElem?.1 d with⟨j,hj⟩;rcases Vf hj with⟨rfl,rfl,_⟩|⟨hne,hj'⟩
  ·exact gv s a m
  ·obtain⟨p,z,b,u,i,y⟩:=h.gv w (zE hj') s a m;refine⟨p,keep p z b ?_,b,u,i,y⟩;rw[u,i];apply Wez;rw[←r];have C:=Web (λg=>cnT g (-1) (s*256)) d;have G:1<=cnT w (-1) (s*256):=by unfold cnT;rw[m];simp[cnP]
   unfold cnH;simp only at C ⊢;omega
 ·rcases List.mem_iff_getElem?.1 d with⟨j,hj⟩;rcases Vf hj with⟨rfl,rfl,_⟩|⟨hne,hj'⟩
  ·exact th
  ·exact h.th w (zE hj')
theorem HI.updT (h:HI H held s0)(hg:H.ths[t]?=some g){g':Th}{live':List (Int×Bk)}(cn:∀k x,cnV live' k x+cnT g' k x=cnV H.live k x+cnT g k x)(lk:(live'.map (·.1)).Nodup)(lv:∀e∈live',e∈H.live\/Lv held e)
 (gv:∀s a,g'.ph=some (.give s a)->Gv held s a) (th:ThI H.tb.length g'):HI {H with live:=live',ths:=H.ths.set t g'} held s0:=
 h.upd hg h.wi h.sim rfl rfl (λp b _=>.inl b) (λk x=>by have:=cn k x;omega) lk lv gv th
theorem HI.updA (h:HI H held s0){s0' sp':Sp}{ars':List AR}{held':List Pc}(wi:WI ⟨H.tb,s0',ars',held'⟩)(sim:Sim s0' sp')(hsl:sp'.st.length=H.sp.st.length)(hl:ars'.length=H.ars.length)(um:∀k x,Um held' k x↔Um held k x)(sub:∀p∈held',p.moved=false->p∈held) :
 HI {H with sp:=sp',ars:=ars'} held' s0':=by
 have keep:∀p∈held,p.moved=false->p∈held':=λp d w=>by
  obtain⟨q,m,b,i,z⟩:=(um p.cls (p.addr:Int)).2 ⟨p,d,w,rfl,rfl⟩;have:q=p:=h.wi.same (W:=⟨H.tb,s0,H.ars,held⟩) (sub q m b) d O;rw[←this];exact m
 refine⟨wi,sim,λk x=>(h.cn k x).trans (WkW um k x).symm,h.lk,λe r=>?_,λg u s a d=>?_,h.th,h.ok,by simp only;rw[hl];exact h.a1,hsl.trans h.sl⟩
 ·obtain⟨y,p,d,b,i⟩:=h.lv e r;exact⟨y,p,keep p d b,b,i⟩
 ·obtain⟨p,j,b,i⟩:=h.gv g u s a d;exact⟨p,keep p j b,b,i⟩
theorem Wgx {A:AR}{x:Int}:UN A x=true↔0<=x/\A.f x.toNat≠0:=by
 unfold UN AR.f gf;simp
theorem WI.owner {W:Wd}(h:WI W){p:Pc}(hp:p∈W.held){x:Nat}(h1:p.addr<=x)(h2:x<p.addr+p.size):YJ W.ars (x:Int)=(p.k:Int):=by
 obtain⟨A,b,_⟩:=h.hf p hp;have g:=h.page hp b h1 h2;have a:=(gSi.1 b).1;have own:∀(j:Nat) (B:AR),W.ars[j]?=some B->(UN B ((x:Int)/256)=true↔j=p.k):=λj B d=>by
  have e:((x:Int)/256).toNat=x/256:=by omega
  rw[Wgx,e];constructor
  ·rintro⟨_,hf⟩;exact h.one (x/256) j p.k B A d b hf O
  ·rintro rfl;rw[b]at d;cases d;exact⟨O,O⟩
 unfold YJ;rw[zA O];have hf:W.ars.findIdx? (λA=>UN A ((x:Int)/256))=some p.k:=by
  rw[zBH];refine⟨a,(own p.k _ (gGe a)).2 rfl,λj i=>?_⟩;have:=own j W.ars[j] (gGe O);intro hx;have:=this.1 hx;omega
 rw[hf]
theorem HI.owner (h:HI H held s0){p:Pc}(hp:p∈held){x:Nat}(h1:p.addr<=x)(h2:x<p.addr+p.size):YJ H.ars (x:Int)=(p.k:Int):=h.wi.owner (W:=⟨H.tb,s0,H.ars,held⟩) hp h1 h2
theorem HI.owner0 (h:HI H held s0){p:Pc}(hp:p∈held):YJ H.ars (p.addr:Int)=(p.k:Int):=h.owner hp (zC _) (by have:=(h.wi.size_pos (W:=⟨H.tb,s0,H.ars,held⟩) hp).1;omega)
theorem HI.i63 (h:HI H held s0){k x:Int}(hu:Um held k x):I63 x/\0<=x/\0<=YJ H.ars x:=by
 obtain⟨p,a,_,_,rfl⟩:=hu;have:=(h.wi.addr_lt (W:=⟨H.tb,s0,H.ars,held⟩) a).1;refine⟨by unfold I63;omega,O,?_⟩;rw[h.owner0 a];omega
end Go.Ar