/- Texts joined. -/
import Derived.Test.YtkabjcanamcbeaaGreatDoorL5
set_option linter.unusedVariables false
set_option linter.unusedSimpArgs false
namespace Go.Ar
open Go Go.Vc Go.Proofs
variable {σ u u':Hp}{F B P Q:Rg}{L:dQ}{H H':Hw}{t k n pb:Nat}{A:AR}{Y:Lay}{x:eD}{g:Th}{c:bY}{l:Li}{cs:List Value}
set_option maxRecDepth 8000 in
theorem Wko (hso:Gw)(h:HH σ F L H)(ht:t<H.bR.length)(p:Ph)(hp:yv H t p)(hlen:∀g,H.bR[t]?=some g->g.bP.length<=900){R:Value->Int->Int->Hp->Prop}(hR:WpZ σ F L (Wt H t p) R) :
 Zy.c (aW L.p) (t:Int) (rf (some p)) σ R:=by
 refine Zy.o ?_;have hlen':∀g,H.bR[t]?=some g->g.bP.length<=1000:=λg hg=>by have:=hlen g hg;omega
 refine nw (cs:=[.int .i64 0,.int .i64 0]) λv hz e i=>?_;have K1:=(HK.start h).box e hz;obtain⟨x,g,E,hg⟩:=h.th ht;have hlen:=hlen g hg;have htg:=G0 hg;have hol:=mP h.s t;obtain⟨A,hA⟩:∃A,H.bT[H.own t]?=some A:=⟨_,cM hol⟩;have hAe:=Iv hA;obtain⟨Y,hY,_,_⟩:=h.ar hA;refine aG (K1.h.hd.rS rfl ?_);refine Dw K1.h.mA K1.h.s.ts E hg (d:=0) O rfl λtb0 to0 ha _=>?_;have hS1:qX (λu=>u=v) L H.tb:=λm hm=>by cases hm;exact⟨_,L.ts,H,K1.h,rfl⟩
 refine⟨λu=>u=v,rfl,aG (hS1.fZ (MG K1.h t ⟨rfl,K1.h.rA hY ⟨rfl,?_⟩⟩))⟩;refine uy (λw=>∃P ts',HK F σ (λb=>False\/b=σ.size) w P {L with ts:=ts'} (Wt H t p).1/\bX w σ.size [.int .i64 0,.int .i64 0]/\(Wt H t p).2=(none,0,0)) (λw ⟨P,ts',K,hbw,X⟩=>?_) λJ hJ=>?_
 ·refine iA (n:=σ.size) K (.inr rfl) hbw λw' K'=>?_;have:=hR w' ts' K'.e (K'.fin h);rw[X]at this;exact this
 cases p with
 | take k=>
  obtain⟨hk,hy9⟩:k<H.tb.length/\∀y l,Km (H.cls k) ((H.mG t).li k)=(some y,l)->iX y:=hp;obtain⟨c,hc⟩:∃c,H.tb[k]?=some c:=⟨_,cM hk⟩;have hll:=h.Fe E hg;obtain⟨l,hl⟩:∃l,g.ls[k]?=some l:=⟨_,cM (by rw[hll];exact hk)⟩;have hce:=Up hc;have hle:=BP hl;rw[hce,htg,hle]at hy9;refine E9 (nw (cs:=[.int .i64 0]) λv5 M V N=>?_);have K5:=K1.box V M;refine N.s0 aA λv6 o6 hb6=>?_;have K6:=K5.own o6 (.inr rfl);have C:=Ws o6 (V.bV i id) O;refine⟨λu=>u=v6,rfl,aG ⟨some ⟨x.c.p,0,none⟩,λu U=>by cases U;exact K6.h.tc E hg ha O rfl,⟨(k:Int),λu U=>by cases U;rw[add_lit,hb6.cell];rfl,?_⟩⟩⟩;refine RM K6.h E hg hc hl λv7 ts7 W h7=>?_;have K7:=K6.to W h7 λb _ i=>i;have hb7:=K6.cW W hb6 (.inr rfl);have B:=K6.cW W C (.inl (.inr rfl));cases htk:Km c l with
  | mk o l'=>
  rw[htk]at h7 K7;cases o with
  | some y=>
   have X:Wt H t (.take k)=(VW (H.dY t g (g.ls.set k l')) y (c.size:Int) (k:Int),none,y,0):=by
    simp only[Wt,hce,htg,hle,htk,ZN hg];rfl
   rw[X]at hR;have hS2:qX (λu=>(∃P ts H',HH u P {L with ts:=ts} H'/\H'.tb=H.tb)/\bX u v.size [.int .i64 (k:Int)]) L H.tb:=λm hm=>hm.1;refine cJ rfl ⟨λu=>(∃P ts H',HH u P {L with ts:=ts} H'/\H'.tb=H.tb)/\bX u v.size [.int .i64 (k:Int)],⟨⟨_,_,_,K7.h,rfl⟩,hb7⟩,aG (hS2.dH ⟨(k:Int),λu U=>by rw[add_lit,U.2.cell];rfl,?_⟩)⟩;refine qX.rC (L:={L with ts:=ts7}) (H:=H.dY t g (g.ls.set k l')) hS2 K7.h hc ⟨(k:Int),λu U=>by rw[add_lit,U.2.cell];rfl,?_⟩;refine Er K7.h y (c.size:Int) (k:Int) (hy9 y l' htk) λv8 e8 h8=>?_;have K8:=K7.to e8 h8 λb _ i=>.inl i;refine⟨⟨⟨_,_,_,h8,rfl⟩,K7.cW e8 hb7 (.inr rfl)⟩,?_⟩;exact iA (n:=σ.size) K8 (.inl (.inr rfl)) (K7.cW e8 B (.inl (.inr rfl))) λw' K'=>hR w' ts7 K'.e (K'.fin h)
  | none=>
   have X:Wt H t (.take k)=(H.dY t g (g.ls.set k l'),some (.cN k (tW c l')),0,0):=by
    simp only[Wt,hce,htg,hle,htk,ZN hg];rfl
   rw[X]at hR;have htlt:=(cQ.1 hg).1;have hklt:=(cQ.1 hl).1;have hg7:(H.dY t g (g.ls.set k l')).bR[t]?=some {g with ls:=g.ls.set k l'}:=by simp[Hw.dY,htlt]
   obtain⟨x7,g7,hx7,_⟩:=K7.h.th (t:=t) (by simp[Hw.dY,htlt]);have hl7:({g with ls:=g.ls.set k l'}:Th).ls[k]?=some l':=by simp[hklt]
   refine cG rfl ⟨λu=>u=v7,rfl,aG ⟨some ⟨x7.c.p,0,none⟩,λu U=>by cases U;exact K7.h.tc hx7 hg7 ha O rfl,⟨(k:Int),λu U=>by cases U;rw[add_lit,hb7.cell];rfl,?_⟩⟩⟩;refine Wl7 K7.h hx7 hg7 hc hl7 λv8 ts8 e8 h8=>?_;have K8:=K7.to e8 h8 λb _ i=>i;refine(K7.cW e8 hb7 (.inr rfl)).rI rfl ?_;exact iA (n:=σ.size) K8 (.inl (.inr rfl)) (K7.cW e8 B (.inl (.inr rfl))) λw' K'=>hR w' ts8 K'.e (K'.fin h)
 | cN k w=>
  obtain⟨hk,hne0⟩:k<H.tb.length/\(Z9 (H.eO t) (k:Int)=0->YN (H.eO t) (k:Int)≠[]):=hp;rw[hAe]at hne0;obtain⟨c,hc⟩:∃c,H.tb[k]?=some c:=⟨_,cM hk⟩;have hce:=Up hc;refine oT aB (zx (nw (cs:=[.int .i64 0,.int .i64 0]) λv5 M V N=>?_));have K5:=K1.box V M;refine N.s1 aA λv5b o5 b5=>b5.s1 aA λv6 o6 b6=>?_;have K6:=(K5.own o5 (.inr rfl)).own o6 (.inr rfl);have S:σ.size≠v.size:=by omega
  have C:=Ws o6 (Ws o5 (V.bV i id) S) S;refine uy (λu=>(∃P',HK F σ (λb=>(False\/b=σ.size)\/b=v.size) u P' L H)/\bX u σ.size [.int .i64 0,.int .i64 0]/\bX u v.size [.int .i64 (k:Int),.int .i64 (w:Int)]/\Wt H t (.cN k w)=(H,some (.cP k w),0,0)) (λu ⟨⟨P',K⟩,hbw,hbx,X⟩=>?_) λJ1 hJ1=>?_
  ·rw[X]at hR;exact hbx.rI rfl (hbx.rI rfl (iA (n:=σ.size) K (.inl (.inr rfl)) hbw λw' K'=>hR w' L.ts K'.e (K'.fin h)))
  ·refine b6.rI rfl (aG (K6.h.hd.rS rfl (b6.rI rfl (ya K6.h.lF hc (d:=2) O ?_))));simp only[zA (show ¬(2=0) by omega),zA (show ¬(2=1) by omega)];refine cU (λheq=>b6.rI rfl ?_) λhne'=>hJ1 v6 ⟨⟨_,K6⟩,C,b6,?_⟩
   ·have heq':w=c.batch:=by simp only[zY]at heq;omega
    refine G8 K6.h hA hY (k:Int) λs v7 Q W hQ hs7 hcap h7=>?_;have K7:=K6.to W h7 λb _ i=>i.1;have b7:=K6.cW W b6 (.inr rfl);have B:=K6.cW W C (.inl (.inr rfl));refine cU (λh0=>b7.rI rfl ?_) λhn0=>?_
    ·have h0':Z9 A (k:Int)=0:=by simpa using h0
     have X:Wt H t (.cN k w)=(Q2 (H.cC (H.own t) (ZR A (k:Int))) t k (YN A (k:Int)),some .fill,0,0):=by
      simp only[Wt,hce,hAe,heq',h0',zW]
     rw[X]at hR;refine C8 K7.h (t:=t) ht k hs7 hcap (hne0 h0') (λb _ z E=>E.1.2 z) (K6.h.o.sub hQ) (λz=>K6.h.o2 (hQ _ z)) hlen' λv8 ts8 e8 h8=>?_;have K8:=K7.xy e8 h8 λb i z=>by
      rcases z with z|z
      ·exact z.imp id .inl
      ·exact .inr (.inr ⟨(K6.p b (hQ b z)).1,(K6.p b (hQ b z)).2.1⟩)
     exact iA (n:=σ.size) K8 (.inl (.inr rfl)) (K7.cW e8 B (.inl (.inr rfl))) λw' K'=>hR w' ts8 K'.e (K'.fin h)
    ·have hn0':Z9 A (k:Int)≠0:=by simpa using hn0
     have hsame:ZR A (k:Int)=A:=by unfold ZR;rw[zA hn0']
     rw[hsame,Mp hA]at K7;refine hJ1 v7 ⟨⟨_,K7⟩,B,b7,?_⟩;simp only[Wt,hce,hAe,heq',zA hn0',zW]
   ·have hne2:w≠c.batch:=λe=>by rw[e]at hne';simp at hne'
    simp only[Wt,hce,zA hne2]
 | cP k w=>
  refine oT aB (kV aB (zx (nw (cs:=[.int .i64 0,.int .i64 0]) λv5 M V N=>?_)));have K5:=K1.box V M;refine N.s1 aA λv5b o5 b5=>b5.s1 aA λv6 o6 b6=>?_;have K6:=(K5.own o5 (.inr rfl)).own o6 (.inr rfl);have S:σ.size≠v.size:=by omega
  have C:=Ws o6 (Ws o5 (V.bV i id) S) S;refine b6.rI rfl (b6.rI rfl (Wbq K6.h hA hY (k:Int) (w:Int) λs v7 Q W hQ hs7 h7=>?_));have K7:=K6.to W h7 λb _ i=>i.1;have b7:=K6.cW W b6 (.inr rfl);have B:=K6.cW W C (.inl (.inr rfl));have hsl:s.len=(Yu A (k:Int) (w:Int)).length:=by have:=hs7.1;simp[ints]at this;omega
  by_cases hemp:Yu A (k:Int) (w:Int)=[]
  ·have X:Wt H t (.cP k w)=(H.cC (H.own t) (YR A (k:Int) (w:Int)),some (.grow k w),0,0):=by
    simp only[Wt,hAe,zB hemp]
   rw[X]at hR;refine fJ (by rw[hsl,hemp];simp) (b7.rI rfl (b7.rI rfl ?_));exact iA (n:=σ.size) K7 (.inl (.inr rfl)) B λw' K'=>hR w' L.ts K'.e (K'.fin h)
  ·have X:Wt H t (.cP k w)=(Q2 (H.cC (H.own t) (YR A (k:Int) (w:Int))) t k ((Yu A (k:Int) (w:Int)).map λ(x:Nat)=>(x:Int)),some .fill,0,0):=by
    simp only[Wt,hAe,zA hemp]
   rw[X]at hR;have hpos:=uf.2 hemp;refine oK (by rw[hsl];omega) (b7.rI rfl ?_);have hs7':=bS.gE hs7;rw[Wo5]at hs7';have hz6:=K6.e.1;refine C8 K7.h (t:=t) ht k hs7' (bS.vw hs7) (by simpa using hemp) (λb _ z E=>E.1.2 z) (K6.o.1.sub λb i=>by have:=hQ b i;omega) (λz=>K6.o.2 (by have:=hQ _ z;omega)) hlen' λv8 ts8 e8 h8=>?_;have K8:=K7.xy e8 h8 λb i z=>by
    rcases z with z|z
    ·exact z.imp id .inl
    ·have:=hQ b z;exact .inr (.inr ⟨.inr O,λhB=>by have:=(K6.b b hB).2;omega⟩)
   exact iA (n:=σ.size) K8 (.inl (.inr rfl)) (K7.cW e8 B (.inl (.inr rfl))) λw' K'=>hR w' ts8 K'.e (K'.fin h)
 | grow k w=>
  refine oT aB (kV aB (kV aB (zx (nw (cs:=[.int .i64 0,.int .i64 0]) λv5 M V N=>?_))));have K5:=K1.box V M;refine N.s1 aA λv5b o5 b5=>b5.s1 aA λv6 o6 b6=>?_;have K6:=(K5.own o5 (.inr rfl)).own o6 (.inr rfl);have S:σ.size≠v.size:=by omega
  have C:=Ws o6 (Ws o5 (V.bV i id) S) S;refine b6.rI rfl (S6 K6.h hA hY (k:Int) λv7 W h7=>?_);have K7:=K6.to W h7 λb _ i=>i;have b7:=K6.cW W b6 (.inr rfl);have B:=K6.cW W C (.inl (.inr rfl));refine cU (λhn0=>?_) λh0=>?_
  ·have hn0':Va A H.sp (k:Int)≠0:=by simpa using hn0
   have X:Wt H t (.grow k w)=({H.cC (H.own t) (cO A H.sp (k:Int)).1 with sp:=(cO A H.sp (k:Int)).2},none,0,Va A H.sp (k:Int)):=by
    simp only[Wt,hAe,zA hn0']
   rw[X]at hR;exact iA (n:=σ.size) K7 (.inl (.inr rfl)) B λw' K'=>hR w' L.ts K'.e (K'.fin h)
  ·have h0':Va A H.sp (k:Int)=0:=by simpa using h0
   have X:Wt H t (.grow k w)=({H.cC (H.own t) (cO A H.sp (k:Int)).1 with sp:=(cO A H.sp (k:Int)).2},some (.cP k w),0,0):=by
    simp only[Wt,hAe,zB h0']
   rw[X]at hR;refine b7.rI rfl (b7.rI rfl ?_);exact iA (n:=σ.size) K7 (.inl (.inr rfl)) B λw' K'=>hR w' L.ts K'.e (K'.fin h)
 | fill=>
  obtain⟨k,y,ys,r,hh,hk,hy9,hfit⟩:∃k x xs r,(H.mG t).bP=(k,x::xs)::r/\k<H.tb.length/\iX x/\((H.mG t).li k).os.length+xs.length<=256:=hp;rw[htg]at hh hfit;obtain⟨c,hc⟩:∃c,H.tb[k]?=some c:=⟨_,cM hk⟩;have hll:=h.Fe E hg;obtain⟨l,hl⟩:∃l,g.ls[k]?=some l:=⟨_,cM (by rw[hll];exact hk)⟩;have hce:=Up hc;have hle:=BP hl;rw[hle]at hfit;refine oT aB (kV aB (kV aB (kV aB (IM (nw (cs:=[]) λv5 M V N=>?_)))));have K5:=K1.box V M;have hbv5:=V.bV i id;obtain⟨G,D,hG,hD,hd,Z,hr,hput⟩:=K5.h.AJ (λb i=>(K5.p b i).2.2) E hg (λ_=>False) (λb _ _ z=>z) (K5.o.1.sub λb i=>i.elim) (λz=>z);rw[hh]at Z;obtain⟨so,ps,Dn,hrow,hso1,hcap,hBr,hDn,hj,S,hxne⟩:=Z.qe;have hz5':=K5.e.1;have hsol:so.len=ys.length+1:=by have:=hso1.1;simp[Wv]at this;omega
  refine aG (rm (K5.h.tc E hg ha (d:=1) O rfl) (LI (dO.gE hrow) λa ha0 ha1=>rl ha0 (rm ha1 ?_)));refine nw (cs:=[.int .i64 0,.slice none 0 0]) λv43 hz43 e43 hb43=>hb43.s1 aA λv44 o44 b44=>b44.s1 aA λv45 o45 b45=>?_;have e45:bO v5 v45:=(e43.only o44 (.inr (zD _))).only o45 (.inr (zD _));have hz45:v5.size<v45.size:=b45.lt;refine aG (hput v45 ⟨none,0,0⟩ [] (λ_=>False) (bO.to e45) (λb i=>i.elim) (iK.nil _ _ _) ha λv46 e46 h46=>?_);have hz46:=e46.1;have e546:Ext _ v5 v46:=(bO.to e45).trans (e46.sub hD);have K46:=K5.to e546 h46 λb _ z=>by
   rcases z with z|z
   ·exact .inl z.1
   ·exact z.1.elim
  have hbv46:=K5.cW e546 hbv5 (.inl (.inr rfl));have b46:bX v46 v5.size _:=e46.bV b45 λE=>by have:=(K5.p _ (hD _ E)).2.2;omega
  have K46b:=K46.Bm (B':=λb=>b=v5.size) λb i=>⟨O,O,λE=>by
   subst i;rcases E.1 with h1|h1
   ·have:=(K5.p _ h1.1).2.2;omega
   ·exact h1.1⟩
  have hso46:=aH.bU (aH.bK (aH.cut hso1) e45) e46 λb _ i E=>hd b (hDn b i.1.1) E;have hXn:∀b,(Dn b/\oB so b)/\b<v5.size->¬Cut (λb=>(Cut F σ b/\¬G b)\/False/\b<v45.size) v46 b:=λb i E=>by
   rcases E.1 with h1|h1
   ·exact h1.2 (hDn b i.1.1)
   ·exact h1.1
  have hg46:({H with bR:=H.bR.set t {g with bP:=[]}}:Hw).bR[t]?=some {g with bP:=[]}:=by simp[ht]
  have hx46:(L.ts.set t {x with h:=⟨none,0,0⟩})[t]?=some {x with h:=⟨none,0,0⟩}:=zO (cQ.1 E).1;refine aG (wL (K46b.h.tc hx46 hg46 ha (d:=0) O rfl) (b46.rI rfl (b46.rS (a:=so.a) (n:=so.len) (c:=so.cap) rfl (jV (lo:=1) (by show 1<=so.len;omega) hcap (zD _) ?_))));have hsub:=cT.sub hso46 (lo:=1) (hi:=so.len) (mx:=so.cap) O (zD _) hcap;have hsx:((Wv (y::ys)).drop (1*1)).take ((so.len-1)*1)=Wv ys:=by
   rw[qx (by simp[Wv];omega)];rfl
  rw[hsx]at hsub;have hl46:({g with bP:=[]}:Th).ls[k]?=some l:=hl;refine Ss K46b.h hx46 hg46 hc hl46 hsub hXn hfit λv47 ts47 e47 h47=>?_;have K47:=K46b.to e47 h47 λb _ i=>i;have hso47:=aH.bU hso46 e47 λb _ i E=>hXn b i E;have b47:=K46b.cW e47 b46 (.inr rfl);have hbv47:=K46b.cW e47 hbv46 (.inl (.inl (.inr rfl)));have X:Wt H t .fill=(VW {H with bR:=H.bR.set t {g with ls:=g.ls.set k (eM ys.reverse l),bP:=[]}} y (c.size:Int) (k:Int),none,y,0):=by
   simp only[Wt,htg,hh,ZN hg,hle,hce]
  rw[X]at hR;obtain⟨b0,o0,ha0',hc0⟩:=hso47.cell (j:=0) (v:=.int .i64 y) rfl;have hS4:qX (λu=>((∃P ts H',HH u P {L with ts:=ts} H'/\H'.tb=H.tb)/\bX u v5.size [.int .i64 (k:Int),.slice so.a so.len so.cap])/\cell u ⟨b0,o0+0,none⟩=some (.int .i64 y)) L H.tb:=λm hm=>hm.1.1;refine⟨λu=>((∃P ts H',HH u P {L with ts:=ts} H'/\H'.tb=H.tb)/\bX u v5.size [.int .i64 (k:Int),.slice so.a so.len so.cap])/\cell u ⟨b0,o0+0,none⟩=some (.int .i64 y),⟨⟨⟨_,_,_,K47.h,rfl⟩,b47⟩,hc0⟩,⟨so,λu U=>by rw[add_lit,U.1.2.cell];rfl,?_⟩⟩;refine ix0 ha0' O ⟨y,λu U=>U.2,aG (hS4.dH ⟨(k:Int),λu U=>by rw[add_lit,U.1.2.cell];rfl,?_⟩)⟩;refine qX.rC (L:={L with ts:=ts47}) (H:=Hw.dY {H with bR:=H.bR.set t {g with bP:=[]}} t {g with bP:=[]} (g.ls.set k (eM ys.reverse l))) hS4 K47.h hc ⟨(k:Int),λu U=>by rw[add_lit,U.1.2.cell];rfl,?_⟩;refine Er K47.h y (c.size:Int) (k:Int) hy9 λv48 e48 h48=>?_;have K48:=K47.to e48 h48 λb _ i=>.inl i;have hz4747:=e47.1;have hso48:=aH.bU hso47 e48 λb _ i E=>by
   rcases E.1 with h1|h1
   ·exact hXn b i h1
   ·have:=i.2;omega
  refine⟨⟨⟨⟨_,_,_,h48,rfl⟩,K47.cW e48 b47 (.inr rfl)⟩,?_⟩,?_⟩
  ·obtain⟨b1,o1,ha1',hc1⟩:=hso48.cell (j:=0) (v:=.int .i64 y) rfl;rw[ha0']at ha1';cases ha1';exact hc1
  ·have K49:=K48;simp only[Hw.dY,rU]at K49;exact iA (n:=σ.size) K49 (.inl (.inl (.inr rfl))) (K47.cW e48 hbv47 (.inl (.inl (.inr rfl)))) λw' K'=>hR w' ts47 K'.e (K'.fin h)
 | eU m=>
  have hp:Z7 (H.eO t) H.sp (m:Int) 1<=1000000:=hp;rw[hAe]at hp;refine oT aB (kV aB (kV aB (kV aB (vI aB (E9 (nw (cs:=[.int .i64 0]) λv5 M V N=>?_))))));have K5:=K1.box V M;refine N.s0 aA λv6 o6 b6=>?_;have K6:=K5.own o6 (.inr rfl);have C:=Ws o6 (V.bV i id) O;refine b6.rI rfl (OW K6.h hA hY (m:Int) 1 λv7 W h7=>?_);have K7:=K6.to W h7 λb _ i=>i;have b7:=K6.cW W b6 (.inr rfl);have B:=K6.cW W C (.inl (.inr rfl));refine cU (λhn0=>?_) λh0=>?_
  ·have hn0':QG A H.sp (m:Int) 1≠0:=by simpa using hn0
   have X:Wt H t (.eU m)=({H.cC (H.own t) (cD A H.sp (m:Int) 1).1 with sp:=(cD A H.sp (m:Int) 1).2},none,0,QG A H.sp (m:Int) 1):=by
    simp only[Wt,hAe,zA hn0']
   rw[X]at hR;exact iA (n:=σ.size) K7 (.inl (.inr rfl)) B λw' K'=>hR w' L.ts K'.e (K'.fin h)
  ·have h0':QG A H.sp (m:Int) 1=0:=by simpa using h0
   have hm:m<=64:=by
    unfold QG at h0';split at h0'
    ·rename_i hpo;simp only[Ky,zG,zV]at hpo;omega
    ·omega
   have X:Wt H t (.eU m)=(VW {H.cC (H.own t) (cD A H.sp (m:Int) 1).1 with sp:=(cD A H.sp (m:Int) 1).2} ((Z7 A H.sp (m:Int) 1*256:Nat):Int) ((m*256:Nat):Int) (-1),none,((Z7 A H.sp (m:Int) 1*256:Nat):Int),0):=by
    simp only[Wt,hAe,zB h0']
   rw[X]at hR;refine cA (m:=Z7 A H.sp (m:Int) 1*256) O O (b7.rI rfl (cA (m:=m*256) O O ?_));refine Er K7.h _ _ _ O λv8 e8 h8=>?_;have K8:=K7.to e8 h8 λb _ i=>.inl i;exact iA (n:=σ.size) K8 (.inl (.inr rfl)) (K7.cW e8 B (.inl (.inr rfl))) λw' K'=>hR w' L.ts K'.e (K'.fin h)
 | find x=>
  obtain⟨hx9,hro,hlv⟩:iX x/\(bW H.live x=none->∀A∈H.bT,jR A)/\∀b,bW H.live x=some b->0<=x:=hp;refine oT aB (kV aB (kV aB (kV aB (vI aB (oT aB (E9 (nw (cs:=[.int .i64 0]) λv5 M V N=>?_)))))));have K5:=K1.box V M;refine N.s0 aA λv6 o6 b6=>?_;have K6:=K5.own o6 (.inr rfl);have C:=Ws o6 (V.bV i id) O;refine b6.rI rfl (Ty K6.h ht x hx9 hro hlen' hlv λv7 ts7 W h7=>?_);have K7:=K6.to W h7 λb _ i=>i;have B:=K6.cW W C (.inl (.inr rfl));exact iA (n:=σ.size) K7 (.inl (.inr rfl)) B λw' K'=>hR w' ts7 K'.e (K'.fin h)
 | put k y=>
  obtain⟨hk,hne0⟩:k<H.tb.length/\(H.mG t).bP≠[]:=hp;rw[htg]at hne0;obtain⟨c,hc⟩:∃c,H.tb[k]?=some c:=⟨_,cM hk⟩;have hll:=h.Fe E hg;obtain⟨l,hl⟩:∃l,g.ls[k]?=some l:=⟨_,cM (by rw[hll];exact hk)⟩;have hce:=Up hc;have hle:=BP hl;refine oT aB (kV aB (kV aB (kV aB (vI aB (oT aB (oT aB (zx (nw (cs:=[.int .i64 0,.int .i64 0]) λv5 M V N=>?_))))))));have K5:=K1.box V M;refine N.s1 aA λv5b o5 b5=>b5.s1 aA λv6 o6 b6=>?_;have K6:=(K5.own o5 (.inr rfl)).own o6 (.inr rfl);have S:σ.size≠v.size:=by omega
  have C:=Ws o6 (Ws o5 (V.bV i id) S) S;generalize hgg:(if(dR c y l).1=[]then({g with ls:=g.ls.set k (dR c y l).2}:Th)else{g with ls:=g.ls.set k (dR c y l).2,bP:=g.bP++[(k,(dR c y l).1)]})=g2
  have hg2n:g2.bP≠[]/\g2.bP.length<=901:=by
   rw[←hgg];split
   ·exact⟨hne0,by simp;omega⟩
   ·exact⟨by simp,by simp;omega⟩
  refine uy (λw=>∃P ts',HK F σ (λb=>(False\/b=σ.size)\/b=v.size) w P {L with ts:=ts'} {H with bR:=H.bR.set t g2}/\bX w σ.size [.int .i64 0,.int .i64 0]) (λw ⟨P,ts2,K,hbw⟩=>?_) λJ2 hJ2=>?_
  ·have hg3:({H with bR:=H.bR.set t g2}:Hw).bR[t]?=some g2:=by simp[ht]
   obtain⟨x2,_,hx2,_⟩:=K.h.th (t:=t) (by simpa using ht);obtain⟨G,D,hG,hD,hd,Z,hr,hput⟩:=K.h.AJ (λb i=>(K.p b i).2.2) hx2 hg3 (λ_=>False) (λb _ _ z=>z) (K.o.1.sub λb i=>i.elim) (λz=>z);have hbl:=Z.len;have hbc:=Z.cap;obtain⟨b0,r0,hbr⟩:∃b r,g2.bP=b::r:=by
    cases hh:g2.bP with
    | nil=>exact absurd hh hg2n.1
    | cons b r=>exact⟨b,r,rfl⟩
   have sB:g2.bP.drop 1=r0:=by rw[hbr];rfl
   rw[hbr]at Z;have hpos:1<=x2.h.len:=by rw[hbl,hbr];simp
   refine aG (rm (K.h.tc hx2 hg3 ha (d:=1) O rfl) ?_);refine jV (lo:=1) hpos hbc (zD _) ?_;refine aG (hput w _ _ G (Ext.refl _ _) (λb i=>.inl i) Z.pK ha λw1 e1 h1=>?_);have e1':=e1.sub hD;have K1b:=K.to e1' h1 λb _ z=>by
    rcases z with z|z
    ·exact .inl z.1
    ·exact .inl (hG b z.1)
   have hbw1:=K.cW e1' hbw (.inl (.inr rfl));have K3:=K1b;simp only[rU]at K3;generalize hg3':({g2 with bP:=r0}:Th)=g3 at K3;have hl3:g3.bP=r0/\g3.ls=g2.ls:=by rw[←hg3'];exact⟨rfl,rfl⟩
   have hr0:r0.length<=900:=by have:=hg2n.2;rw[hbr]at this;simp at this;omega
   have hg3e:({H with bR:=H.bR.set t g3}:Hw).bR[t]?=some g3:=by simp[ht]
   have hpe:iZ H t k y=(if H.cf.dD<Qm H.tb g3.ls then{H with bR:=H.bR.set t {g3 with ls:=Kl KY H.tb g3.ls,bP:=g3.bP++Ko KY H.tb g3.ls}}else{H with bR:=H.bR.set t g3}):=by
    have e2:(if(dR c y l).1=[]then H.eA t λh=>h.jA k (dR c y l).2 else Q2 (H.eA t λh=>h.jA k (dR c y l).2) t k (dR c y l).1) = {H with bR:=H.bR.set t g2}:=by
     rw[←hgg];split
     ·rw[ZN hg];rfl
     ·rw[ZN hg];unfold Q2 Hw.eA;simp only;rw[Vn (t:=g.jA k (dR c y l).2) (by simp[ht]),rU];rfl
    have e3:({H with bR:=H.bR.set t g2}:Hw).eA t (λh=>{h with bP:=h.bP.drop 1}) = {H with bR:=H.bR.set t g3}:=by
     rw[ZN hg3];simp only[rU,sB,hg3']
    unfold iZ;simp only[hce,htg,hle,e2,e3,G0 hg3e,ZN hg3e,rU]
   have hx3:(ts2.set t {x2 with h:=⟨if x2.h.cap=1 then x2.h.a else x2.h.a.map (·.add (1*2)),x2.h.len-1,x2.h.cap-1⟩})[t]?=some {x2 with h:=⟨if x2.h.cap=1 then x2.h.a else x2.h.a.map (·.add (1*2)),x2.h.len-1,x2.h.cap-1⟩}:=zO (cQ.1 hx2).1
   generalize hx3':({x2 with h:=⟨if x2.h.cap=1 then x2.h.a else x2.h.a.map (·.add (1*2)),x2.h.len-1,x2.h.cap-1⟩}:eD)=x3 at hx3 K3
   generalize ts2.set t x3=ts3 at hx3 K3;refine uy (λw=>∃P ts',HK F σ (λb=>(False\/b=σ.size)\/b=v.size) w P {L with ts:=ts'} (iZ H t k y)/\bX w σ.size [.int .i64 0,.int .i64 0]) (λw ⟨P,ts',K,hbw⟩=>?_) λJ3 hJ3=>?_
   ·have X:Wt H t (.put k y)=(iZ H t k y,mX (iZ H t k y) t,0,0):=rfl;rw[X]at hR;refine Uh K.h (t:=t) ?_ ?_
    ·rw[hpe];split<;>simpa using ht
    ·exact iA (n:=σ.size) K (.inl (.inr rfl)) hbw λw' K'=>hR w' ts' K'.e (K'.fin h)
   ·refine aG (wL (K3.h.tc hx3 hg3e ha (d:=0) O rfl) ?_);refine WkO K3.h hx3 hg3e λv10 e10=>?_;have K10:=K3.fr e10;have hbw10:=e10.bV hbw1 id;refine cI (λhov=>?_) λhno=>hJ3 v10 ⟨_,ts3,by rw[hpe,zA hno];exact K10,hbw10⟩;refine⟨λu=>cell u (Addr.add ⟨tb0,to0+3*t,none⟩ 1)=some (.slice x3.h.a x3.h.len x3.h.cap)/\cell u (Addr.add ⟨tb0,to0+3*t,none⟩ 0)=some (.pointer (some ⟨x3.c.p,0,none⟩)),⟨K10.h.tc hx3 hg3e ha (d:=1) O rfl,K10.h.tc hx3 hg3e ha (d:=0) O rfl⟩,aG ⟨x3.h,λu U=>U.1,aG ⟨some ⟨x3.c.p,0,none⟩,λu U=>U.2,?_⟩⟩⟩;refine S5 hso K10.h hx3 hg3e λv11 s Q e11 hQ hB h11=>?_;have K11:=K10.to e11 h11 λb _ i=>i.1;have hbw11:=K10.cW e11 hbw10 (.inl (.inr rfl));have hg11:(Hw.dY {H with bR:=H.bR.set t g3} t g3 (Kl KY H.tb g3.ls)).bR[t]?=some {g3 with ls:=Kl KY H.tb g3.ls}:=by simp[Hw.dY,ht]
    refine⟨⟨K11.h.tc hx3 hg11 ha (d:=1) O rfl,K11.h.tc hx3 hg11 ha (d:=0) O rfl⟩,?_⟩;have hz0:=K10.e.1;obtain⟨G,D,hG,hD,hd,Z,hr,hput⟩:=K11.h.AJ (λb i=>i.2) hx3 hg11 (λb=>Q b\/v11.size<=b) (λb i hP z=>z.elim (λz=>hP.1.2 z) λz=>O) (K10.o.1.sub λb i=>i.elim (λi=>by have:=hQ b i;omega) λi=>by have:=K11.e.1;omega) (λz=>K10.o.2 (z.elim (λi=>by have:=hQ _ i;omega) λi=>by have:=K11.e.1;omega));refine iK.app Z hB (λb hg z=>(hG b hg).1.2 z) ?_ λs' v12 e12 hB12=>?_
    ·have:=IK KY H.tb g3.ls;have:H.tb.length<=40:=K3.h.qz;simp only[hl3.1];omega
    have hcell:∀{d:Nat} {w:Value},d<3->(lG (x3,({g3 with ls:=Kl KY H.tb g3.ls}:Th)))[d]?=some w->cell v12 (Addr.add ⟨tb0,to0+3*t,none⟩ d)=some w:=λhd3 hv=>by
     obtain⟨b',o',ha',hc'⟩:=UB (hr v12 e12) hx3 hg11 hd3 hv;rw[ha]at ha';cases ha';rw[add_lit,ug];exact hc'
    refine⟨⟨hcell (d:=1) O rfl,hcell (d:=0) O rfl⟩,aG (hput v12 s' _ _ e12 (λb i=>i.imp id id) hB12 ha λv13 e13 h13=>?_)⟩;have e13':=(e12.sub hG).trans (e13.sub hD);have K13:=K11.xy e13' h13 λb i z=>by
     rcases z with z|z
     ·exact .inl z.1
     ·rcases z.1 with h1|h1|h1
      ·exact .inl (hG b h1)
      ·have:=hQ b h1;exact .inr (.inr ⟨.inr O,λhB=>by have:=(K10.b b hB).2;omega⟩)
      ·exact .inr (.inl h1)
    have hbw13:=K11.cW e13' hbw11 (.inl (.inr rfl));have K14:=K13;simp only[Hw.dY,rU]at K14;have hpe':=hpe;rw[zB hov]at hpe';rw[hpe']at hJ3;exact hJ3 v13 ⟨_,_,K14,hbw13⟩
  ·refine⟨λu=>u=v6,rfl,aG ⟨some ⟨x.c.p,0,none⟩,λu U=>by cases U;exact K6.h.tc E hg ha (d:=0) O rfl,⟨(k:Int),λu U=>by cases U;rw[add_lit,b6.cell];rfl,⟨y,λu U=>by cases U;rw[add_lit,b6.cell];rfl,?_⟩⟩⟩⟩;refine R4 K6.h E hg hc hl y λv7 ts7 s ee Q W hQ hs7 h7=>?_;have K7:=K6.to W h7 λb _ i=>i.1;have b7:=K6.cW W b6 (.inr rfl);have B:=K6.cW W C (.inl (.inr rfl));have hsl:s.len=(dR c y l).1.length:=by have:=hs7.1;simp[Wv]at this;omega
   by_cases hemp:(dR c y l).1=[]
   ·rw[zB hemp]at hgg;rw[←hgg]at hJ2;exact fJ (by rw[hsl,hemp];simp) (hJ2 v7 ⟨_,ts7,K7,B⟩)
   ·rw[zA hemp]at hgg;have hpos:=uf.2 hemp;have hz6:=K6.e.1;refine oK (by rw[hsl];omega) (b7.rI rfl ?_);refine C8 K7.h (t:=t) (by simpa[Hw.dY]using ht) k (bS.gE hs7) (bS.vw hs7) hemp (λb _ z E=>E.1.2 z) (K6.o.1.sub λb i=>by have:=hQ b i;omega) (λz=>K6.o.2 (by have:=hQ _ z;omega)) (λg' hg'=>?_) λv8 ts8 e8 h8=>?_
    ·have:(H.dY t g (g.ls.set k (dR c y l).2)).bR[t]?=some {g with ls:=g.ls.set k (dR c y l).2}:=by simp[Hw.dY,ht]
     rw[this]at hg';cases hg';simp only;omega
    ·have K8:=K7.xy e8 h8 λb i z=>by
      rcases z with z|z
      ·exact z.imp id .inl
      ·have:=hQ b z;exact .inr (.inr ⟨.inr O,λhB=>by have:=(K6.b b hB).2;omega⟩)
     have e9:Q2 (H.dY t g (g.ls.set k (dR c y l).2)) t k (dR c y l).1 = {H with bR:=H.bR.set t g2}:=by
      rw[←hgg];unfold Q2 Hw.eA Hw.dY;simp only;rw[Vn (t:={g with ls:=g.ls.set k (dR c y l).2}) (by simp[ht]),rU]
     rw[e9]at K8;exact hJ2 v8 ⟨_,ts8,K8,K7.cW e8 B (.inl (.inr rfl))⟩
 | back=>
  obtain⟨k,xs,r,hh,hxs,hxl⟩:∃k xs r,(H.mG t).bP=(k,xs)::r/\(∀x∈xs,iX x/\0<=YM H.bT x)/\xs.length<=1000000:=hp;rw[htg]at hh;refine oT aB (kV aB (kV aB (kV aB (vI aB (oT aB (oT aB (kV aB (IM (nw (cs:=[]) λv5 M V N=>?_)))))))));have K5:=K1.box V M;have hbv5:=V.bV i id;obtain⟨G,D,hG,hD,hd,Z,hr,hput⟩:=K5.h.AJ (λb i=>(K5.p b i).2.2) E hg (λb=>v5.size<=b) (λb i _ z=>O) K5.h.qh.1 K5.h.qh.2;have hbl:=Z.len;have hbc:=Z.cap;rw[hh]at Z;obtain⟨so,ps,Dn,hrow,hso1,hcap,hBr,hDn,hj,S,hxne⟩:=Z.qe;have hz5':=K5.e.1;refine aG (rm (K5.h.tc E hg ha (d:=1) O rfl) (LI (dO.gE hrow) λa ha0 ha1=>rl ha0 (rm ha1 ?_)));refine nw (cs:=[.int .i64 0,.slice none 0 0]) λv81 hz81 e81 hb81=>hb81.s1 aA λv82 o82 b82=>b82.s1 aA λv83 o83 b83=>?_;have e83:bO v5 v83:=(e81.only o82 (.inr (zD _))).only o83 (.inr (zD _));have hz83:v5.size<v83.size:=b83.lt;have hcell:∀{u1:Hp},Ext G v5 u1->∀{d:Nat} {w:Value},d<3->(lG (x,g))[d]?=some w->cell u1 (Addr.add ⟨tb0,to0+3*t,none⟩ d)=some w:=λhe _ _ hd3 hv=>by
   obtain⟨b',o',ha',hc'⟩:=UB (hr _ he) E hg hd3 hv;rw[ha]at ha';cases ha';rw[add_lit,ug];exact hc'
  refine aG (rm (hcell (bO.to e83) (d:=1) (w:=.slice x.h.a x.h.len x.h.cap) O rfl) ?_);have hpos:1<=x.h.len:=by rw[hbl,hh];simp
  refine jV (lo:=1) hpos hbc (zD _) ?_;have hrow':=aH.bK (aH.cut (dO.gE (hrow.from (lo:=1) hpos))) e83;have sB:(fN ((k,so)::ps)).drop (1*2)=fN ps:=rfl;rw[sB]at hrow';refine Wph hrow' aC λs' v84 hs'l e84 hs'=>?_;have hBt':iK s' r v84 (λb=>Dn b/\¬oB so b/\b<v5.size\/v83.size<=b):=by
   refine⟨ps,λb=>Dn b/\¬oB so b/\b<v5.size,(dO.loc _ _ _).mono hs'.o λb _ i=>⟨.inr i,λE=>O⟩,(nW.loc _ _).bK ((nW.loc _ _).bK ((nW.loc _ _).mono ((nW.loc _ _).cut hBr) λb _ i=>⟨i.1.1,i.1.2,i.2⟩) e83) e84,λb i=>.inl i,hj,S⟩
  have e584:bO v5 v84:=e83.trans e84;refine aG (hput v84 s' r _ (bO.to e584) (λb i=>i.elim (λi=>.inl (hDn b i.1)) λi=>.inr O) hBt' ha λv85 e85 h85=>?_);have hz84:=e84.1;have hz85:=e85.1;have e585:Ext _ v5 v85:=(bO.to e584).trans (e85.sub hD);have K85:=K5.to e585 h85 λb _ z=>by
   rcases z with z|z
   ·exact .inl z.1
   ·rcases z.1 with h1|h1
    ·exact .inl (hG b (hDn b h1.1))
    ·exact .inr O
  have hbv85:=K5.cW e585 hbv5 (.inl (.inr rfl));have b85:bX v85 v5.size _:=e85.bV (e84.bV b83 id) λE=>by have:=(K5.p _ (hD _ E)).2.2;omega
  have K85b:=K85.Bm (B':=λb=>b=v5.size) λb i=>⟨O,O,λE=>by
   subst i;rcases E.1 with h1|h1
   ·have:=(K5.p _ h1.1).2.2;omega
   ·rcases h1.1 with h2|h2<;>omega⟩
  have hso5:=aH.bU (aH.bK (aH.cut hso1) e584) e85 λb _ i E=>hd b (hDn b i.1.1) E;have X:Wt H t .back=(Gi {H with bR:=H.bR.set t {g with bP:=r}} (H.own t) k xs,mX (Gi {H with bR:=H.bR.set t {g with bP:=r}} (H.own t) k xs) t,0,0):=by
   simp only[Wt,htg,hh,ZN hg]
  rw[X]at hR;refine⟨λu=>u=v85,rfl,⟨(k:Int),λu U=>by cases U;rw[add_lit,b85.cell];rfl,⟨so,λu U=>by cases U;rw[add_lit,b85.cell];rfl,?_⟩⟩⟩;refine MG K85b.h t ⟨rfl,Wls K85b.h hol k hso5 (λb _ i E=>?_) hcap hxs hxl λv87 e87 h87=>?_⟩
  ·rcases E.1 with h1|h1
   ·exact h1.2 (hDn b i.1.1)
   ·rcases h1.1 with h2|h2
    ·exact h2.2.1 i.1.2
    ·have:=i.2;omega
  have K87:=K85b.to e87 h87 λb _ i=>i;have hbl7:(Gi {H with bR:=H.bR.set t {g with bP:=r}} (H.own t) k xs).bR.length=H.bR.length:=by
   rw[F7];simp
  refine Uh K87.h (t:=t) (by rw[hbl7];exact ht) ?_;exact iA (n:=σ.size) K87 (.inl (.inl (.inr rfl))) (K85b.cW e87 hbv85 (.inl (.inl (.inr rfl)))) λw' K'=>hR w' _ K'.e (K'.fin h)
 | dK s a=>
  obtain⟨ha0,hal,hru⟩:0<=a/\a.toNat<H.bT.length/\∀A∈H.bT,∀r∈A.runs,r.1<=1000000:=hp;obtain⟨A2,hA2⟩:∃A,H.bT[a.toNat]?=some A:=⟨_,cM hal⟩;have hae:a=((a.toNat:Nat):Int):=by omega
  refine oT aB (kV aB (kV aB (kV aB (vI aB (oT aB (oT aB (kV aB (vI aB (zx (nw (cs:=[.int .i64 0,.int .i64 0]) λv5 M V N=>?_))))))))));have K5:=K1.box V M;refine N.s1 aA λv5b o5 b5=>b5.s1 aA λv6 o6 b6=>?_;have K6:=(K5.own o5 (.inr rfl)).own o6 (.inr rfl);have S:σ.size≠v.size:=by omega
  have C:=Ws o6 (Ws o5 (V.bV i id) S) S;obtain⟨Y2,hY2,_,_⟩:=K6.h.ar hA2;refine aG (K6.h.hd.rS rfl (b6.rI (x:=((a.toNat:Nat):Int)) (by rw[←hae];rfl) (K6.h.rA hY2 (b6.rI rfl ?_))));refine SZ K6.h hA2 hY2 s (hru A2 (zE hA2)) λv7 W h7=>?_;have K7:=K6.to W h7 λb _ i=>i;have B:=K6.cW W C (.inl (.inr rfl));have X:Wt H t (.dK s a)=(H.cC a.toNat (QO A2 s),none,0,0):=by
   simp only[Wt,hA2]
  refine hJ v7 ⟨_,L.ts,⟨?_,K7.e,λb i=>⟨(K7.p b i).1,λE=>(K7.p b i).2.1 (.inl E),(K7.p b i).2.2⟩,λb i=>K7.b b (.inl i),K7.o⟩,B,by rw[X]⟩;rw[X];exact K7.h
 | drain=>
  refine oT aB (kV aB (kV aB (kV aB (vI aB (oT aB (oT aB (kV aB (vI aB (kV aB (IM (nw (cs:=[]) λv5 M V N=>?_)))))))))));have K5:=K1.box V M;have hbv5:=V.bV i id;refine aG (wL (K5.h.tc E hg ha (d:=0) O rfl) ?_);refine Rl hso K5.h E hg λv7 s Q W hQ hB h7=>?_;have K7:=K5.to W h7 λb _ i=>i.1;have B:=K5.cW W hbv5 (.inl (.inr rfl));have hz0:=K5.e.1;have hg7:(H.dY t g (Kl ZZ H.tb g.ls)).bR[t]?=some {g with ls:=Kl ZZ H.tb g.ls}:=by simp[Hw.dY,ht]
  obtain⟨G,D,hG,hD,hd,Z,hr,hput⟩:=K7.h.AJ (λb i=>i.2) E hg7 Q (λb _ i z=>i.1.2 z) (K5.o.1.sub λb i=>by have:=hQ b i;omega) (λz=>K5.o.2 (by have:=hQ _ z;omega));refine aG (hput v7 s _ Q (Ext.refl _ _) (λb i=>.inr i) hB ha λv8 e8 h8=>?_);have e8':=e8.sub hD;have K8:=K7.xy e8' h8 λb _ z=>by
   rcases z with z|z
   ·exact .inl z.1
   ·have:=hQ b z.1;exact .inr (.inr ⟨.inr O,λhB=>by have:=(K5.b b hB).2;omega⟩)
  have hbv8:=K7.cW e8' B (.inl (.inr rfl));have X:Wt H t .drain=({H with bR:=H.bR.set t {g with ls:=Kl ZZ H.tb g.ls,bP:=Ko ZZ H.tb g.ls}},mX {H with bR:=H.bR.set t {g with ls:=Kl ZZ H.tb g.ls,bP:=Ko ZZ H.tb g.ls}} t,0,0):=by
   simp only[Wt,ZN hg]
  have K9:=K8;simp only[Hw.dY,rU]at K9;rw[X]at hR;refine Uh K9.h (t:=t) (by simpa using ht) ?_;exact iA (n:=σ.size) K9 (.inl (.inr rfl)) hbv8 λw' K'=>hR w' _ K'.e (K'.fin h)
def eV (H:Hw)(t:Nat)(p:Option Ph):Hw:=H.eA t λh=>{h with ph:=p}
theorem VL (H:Hw)(t:Nat)(f:Th->Th):(H.eA t f).bR.length=H.bR.length:=by simp[Hw.eA]
theorem Wl8 (H:Hw)(t k:Nat)(x:Int):(iZ H t k x).bR.length=H.bR.length:=by
 unfold iZ;simp only;split<;>split<;>simp[VL,Q2]
theorem JU (H:Hw)(t:Nat)(p:Ph):(Wt H t p).1.bR.length=H.bR.length:=by
 cases p with
 | take k=>simp only[Wt];split<;>simp[VW,VL]
 | cN k w=>
  simp only[Wt];split
  ·split<;>simp[Q2,VL,Hw.cC]
  ·rfl
 | cP k w=>simp only[Wt];split<;>simp[Q2,VL,Hw.cC]
 | grow k w=>simp only[Wt];split<;>simp[Hw.cC]
 | fill=>simp only[Wt];split<;>simp[VW,VL]
 | eU m=>simp only[Wt];split<;>simp[VW,Hw.cC]
 | find x=>
  simp only[Wt,Hb];split
  ·rfl
  ·split<;>simp[Q2,VL]
 | put k x=>exact Wl8 H t k x
 | back=>simp only[Wt];split<;>simp[F7,VL]
 | dK s a=>simp only[Wt];split<;>simp[Hw.cC]
 | drain=>simp[Wt,VL]
def yC (H:Hw)(t:Nat)(p:Ph):Prop:=yv H t p/\∀g,H.bR[t]?=some g->g.bP.length<=900
def Q1 (H:Hw)(t:Nat)(p:Ph):Hw:=eV (Wt H t p).1 t (Wt H t p).2.1
theorem O5 (hso:Gw)(h:HH σ F L H)(hg:H.bR[t]?=some g){p:Ph}(hp:g.ph=some p)(hok:yC H t p){R:Bool->Int->Int->Int->Hp->Prop}
 (hR:∀σ' ts',Ext F σ σ'->HH σ' (Grow F σ) {L with ts:=ts'} (Q1 H t p)->R (Wt H t p).2.1.isNone (Wt H t p).2.2.1 (Wt H t p).2.2.2 0 σ'):Y8.c (aW L.p) (t:Int) σ R:=by
 refine Y8.o ?_;have E:=(cQ.1 hg).1;refine nw (cs:=[.int .i64 0,.int .i64 0]) λv S e B=>?_;have K1:=(HK.start h).box e S;obtain⟨x,g',Q,u⟩:=h.th E;rw[hg]at u;cases u;refine KN K1.h (cG rfl (Mb K1.h (t:Int) (cG (by rw[zT O];rfl) ?_)));refine aG (K1.h.hd.rS rfl (K1.h.tR Q hg ?_));rw[hp];refine⟨As _,cG (by rw[De];rfl) (aG (K1.h.hd.rS rfl (K1.h.tR Q hg ?_)))⟩;rw[hp];refine Wko hso K1.h E p hok.1 hok.2 λU G P Z=>?_;have K9:=K1.to P Z λb _ B=>B;have z:=K1.cW P B (.inr rfl);refine nw (cs:=[.int .i64 0,.int .i64 0]) λv10 j A r=>?_;have K10:=K9.box A j;refine r.s1 aA λW m M=>M.s1 aA λY w K=>?_;have K12:=(K10.own m (.inr rfl)).own w (.inr rfl);have y:σ.size≠U.size:=by have:=(K9.b σ.size (.inr rfl)).2;omega
 have i:=Ws w (Ws m (A.bV z id) y) y;have J:t<(Wt H t p).1.bR.length:=by rw[JU];exact E
 obtain⟨x9,X,D,s⟩:=K12.h.th J;have N:Q1 H t p = {(Wt H t p).1 with bR:=(Wt H t p).1.bR.set t {X with ph:=(Wt H t p).2.1}}:=ZN s _;refine aG (K12.h.hd.rS rfl (K12.h.vV D s (Wt H t p).2.1 λaa d C=>?_));have K13:=K12.to d C λb _ B=>.inl B;have a:=K12.cW d K (.inr rfl);rw[←N]at K13;refine⟨As _,a.rI rfl (a.rI rfl ?_)⟩;refine iA (n:=σ.size) K13 (.inl (.inr rfl)) (K12.cW d i (.inl (.inr rfl))) λV K'=>?_;rw[De];exact hR V G K'.e (K'.fin h)
theorem EF {p:Nat->Prop}(h:∃n,p n):∃n,p n/\∀m,p m->n<=m:=by
 obtain⟨n,d⟩:=h
 induction n using Nat.strongRecOn with
 | _ n ih=>
  by_cases hm:∃m,m<n/\p m
  ·obtain⟨m,b,a⟩:=hm;exact ih m b a
  ·exact⟨n,d,λm a=>Nat.le_of_not_lt λb=>hm ⟨m,b,a⟩⟩
theorem Pr {start:eT []->Prop}{round:eT []->eT []}(Inv:Nat->Hp->Prop)(h0:start λh=>∃n,Inv n h)(hr:∀n h,Inv n h->∀J:Hp->Prop,(∀m h',m<n->Inv m h'->J h')->round J h):Xb [] start round:=by
 classical
 refine Jv (λh=>∃n,Inv n h) (λh=>if hx:∃n,Inv n h then(EF hx).choose else 0) h0 λh d=>?_
 have g:=(EF d).choose_spec;refine hr _ h g.1 _ λm h' e b=>⟨⟨m,b⟩,?_⟩;have a:∃n,Inv n h':=⟨m,b⟩;rw[dif_pos a,dif_pos d];exact Nat.lt_of_le_of_lt ((EF a).choose_spec.2 m b) e
inductive jN:Nat->Hw->Nat->Ph->Hw->Int->Int->Prop
 | done {H:Hw} {t:Nat} {p:Ph}:yC H t p->(Wt H t p).2.1=none->jN 1 H t p (Q1 H t p) (Wt H t p).2.2.1 (Wt H t p).2.2.2
 | next {n:Nat} {H:Hw} {t:Nat} {p p':Ph} {H':Hw} {a e:Int}:yC H t p->(Wt H t p).2.1=some p'->jN n (Q1 H t p) t p' H' a e->jN (n+1) H t p H' a e
theorem Nk {p:Ph}(ht:t<H.bR.length):∃g,(Q1 H t p).bR[t]?=some g/\g.ph=(Wt H t p).2.1:=by
 have a:t<(Wt H t p).1.bR.length:=by rw[JU];exact ht
 exact⟨{(Wt H t p).1.bR[t]with ph:=(Wt H t p).2.1},by simp[Q1,eV,Hw.eA,xX,cM a],rfl⟩
end Go.Ar
namespace Go.Ar
open Go Go.Vc Go.Proofs
open Go.Bu (gJ)
variable {σ:Hp}{F:Rg}
def K0 (size align:Int):Bool:=decide (1<=size)&&(decide (1<=align)&&(decide (align<=256)&&gJ align))
def gH (tb:List bY)(size align:Int):Option Nat:=tb.findIdx? λc=>decide (size<=(c.size:Int))&&((c.size:Int)%align==0)
theorem Wk6 (n:Int)(h1:1<=n)(h2:n<=256){R:aN}(hR:∀p:Int,(p != n) = !gJ n->R p σ):Qh.c n σ R:=by
 refine Qh.o ?_;refine KA (a:=bN) (bb:=bN) (λ(p q:Int) w=>w=σ/\(p=0/\q=1\/∃k:Nat,k<=8/\p=((2^k:Nat):Int)/\q=((2^(k+1):Nat):Int)/\p<=n)) (λp q _=>1000-q.toNat) ⟨rfl,.inl ⟨rfl,rfl⟩⟩ ?_;rintro(p:Int) (q:Int) w ⟨rfl,hpq⟩;refine cI (λd=>?_) λg=>?_
 ·rcases hpq with⟨rfl,rfl⟩|⟨k,hk,rfl,rfl,hp⟩
  ·exact cA (m:=2) O O ⟨⟨rfl,.inr ⟨0,O,by simp,by simp,O⟩⟩,by simp⟩
  ·have s:k<=7:=by
    apply Classical.byContradiction;intro hc;have:2^9<=2^(k+1):=sC aB O;omega
   have r:=nM (k+1);exact cA (m:=2^(k+1+1)) (by rw[qg 2 (k+1)];omega) (by rw[qg 2 (k+1)];omega) ⟨⟨rfl,.inr ⟨k+1,O,rfl,rfl,d⟩⟩,by rw[qg 2 (k+1)];omega⟩
 ·rcases hpq with⟨rfl,rfl⟩|⟨k,hk,rfl,rfl,hp⟩
  ·omega
  ·refine hR _ ?_;by_cases e:((2^k:Nat):Int)=n
   ·have:gJ n=true:=by
     unfold gJ;rw[zw];exact⟨k,zQ.2 O,by simp[←e]⟩
    rw[this,e];simp
   ·have:gJ n=false:=by
     unfold gJ;rw[p8];intro j hj he;have b:n=((2^j:Nat):Int):=by simpa using he
     rcases ui j k with h3|h3|h3
     ·have:2^(j+1)<=2^k:=sC aB h3;rw[qg]at this;have:=nM j;omega
     ·subst h3;exact e b.symm
     ·have:2^(k+1)<=2^j:=sC aB h3;omega
    rw[this];simpa using e
theorem N8 {s:Sl}{xs:List (Int×Int×Int)}(ha:gM σ s xs)(hv:Qo xs=true)(size align:Int){R:Int->Int->Hp->Prop}
 (hR:∀σ',bO σ σ'->R (if K0 size align then((gH (xs.map ZX) size align).getD 0:Nat)else 0) (if K0 size align then(if(gH (xs.map ZX) size align).isSome then 0 else 4)else 1) σ'):Z3.c s size align σ R:=by
 refine Z3.o ?_;refine nw (cs:=[.int .i64 size]) λv hz e hb=>nw (cs:=[.int .i64 align]) λv1 N B hb1=>?_;have Y:=B.bV hb id;refine H5 (YP ha (e.trans B)) λg W=>?_;rw[hv];have L:=W.bV Y id;have y:=W.bV hb1 id;have x:=(e.trans B).trans W;refine cG rfl ?_;have key:∀r,r = !K0 size align->(If r (R 0 1 g) (Wl.c s ⟨80,#[],#[.pointer (some ⟨σ.size,0,none⟩),.pointer (some ⟨v.size,0,none⟩)]⟩ g λk v4=>If (decide (k<0)) (R 0 4 v4) (R k 0 v4))):=by
  intro r b;cases hok:K0 size align with
  | false=>
   rw[hok]at b;have:=hR g x;rw[hok]at this;exact cJ (by rw[b];rfl) this
  | true=>
   rw[hok]at b;refine cG (by rw[b];rfl) ?_;have K:=hok;simp only[K0,zG,zV]at K;refine Wl.o ?_;have hlen:=ha.1;have hxl:=((Qx xs).1 hv).2.1;refine ZV (a:=bN) (λ(z:Int) w=>∃i:Nat,z=(i:Int)/\i<=xs.length/\bO g w/\∀j c,j<i->(xs.map ZX)[j]?=some c->(decide (size<=(c.size:Int))&&((c.size:Int)%align==0))=false) (λz _=>xs.length-z.toNat) ⟨0,rfl,O,Ext.refl _ _,λj c h=>O⟩ ?_;rintro(z:Int) w ⟨i,rfl,hi,ew,hno⟩;refine cI (λhlt=>?_) λX=>?_
   ·have P:i<xs.length:=by omega
    have C:(xs.map ZX)[i]?=some (ZX xs[i]):=by simp[P]
    generalize ZX xs[i]=c at C;have D:=YP ha (x.trans ew);obtain⟨hx,hcok⟩:=UW D hv C;refine Hi D hx ?_;refine Gm (all := #[.agg #[.int .i64 (c.size:Int),.int .i64 (c.aF:Int),.int .i64 (c.batch:Int)],.pointer (some ⟨σ.size,0,none⟩),.pointer (some ⟨v.size,0,none⟩)]) (by kernel_rfl) aA ?_;refine Z0.o ?_;refine nw (cs:=[.int .i64 (c.size:Int),.int .i64 (c.aF:Int),.int .i64 (c.batch:Int)]) λM N B H=>?_;have V:=B.bV (ew.bV L id) id;have ab:=B.bV (ew.bV y id) id;have G:=ew.trans B;have go:∀r,r=(decide (size<=(c.size:Int))&&((c.size:Int)%align==0))->If r (If (decide ((i:Int)<0)) (R 0 4 M) (R (i:Int) 0 M)) (Ar .i64 ((i:Int)+1) λF=>(∃i:Nat,F=(i:Int)/\i<=xs.length/\bO g M/\∀j c,j<i->(xs.map ZX)[j]?=some c->(decide (size<=(c.size:Int))&&((c.size:Int)%align==0))=false)/\xs.length-F.toNat<xs.length-(i:Int).toNat):=by
     intro r b;refine cU (λQ=>fJ O ?_) λh0=>?_
     ·have Z:gH (xs.map ZX) size align=some i:=by
       obtain⟨aa,rfl⟩:=cQ.1 C;exact rJ.2 ⟨aa,by rw[←b];exact Q,λj E=>by rw[hno j _ E (cM O)];simp⟩
      have:=hR M (x.trans G);rw[hok,Z]at this;exact this
     ·exact cA (m:=i+1) O O ⟨⟨i+1,rfl,O,G,λj d E hd=>by
       by_cases e:j=i
       ·subst e;rw[C]at hd;cases hd;rw[←b];exact h0
       ·exact hno j d O hd⟩,O⟩
    refine H.rI rfl (V.Ai rfl ?_);refine Ud (λr w=>w=M/\r=(decide (size<=(c.size:Int))&&((c.size:Int)%align==0))) (λr w ⟨hw,b⟩=>by subst hw;exact go r b) λJ A=>?_;refine cI (λX=>H.rI rfl (ab.Ai rfl (nz O (A _ _ ⟨rfl,?_⟩)))) λhlt2=>A _ _ ⟨rfl,?_⟩
    ·rw[Kj O,zT (by omega:size<=(c.size:Int)),xT]
    ·rw[zg O,xj]
   ·have Z:gH (xs.map ZX) size align=none:=by
     unfold gH;rw[y8];intro c C;obtain⟨j,E⟩:=zM C;have:=(cQ.1 E).1;simp at this;exact hno j c O E
    have:=hR w (x.trans ew);rw[hok,Z]at this;exact oK aB this
 refine D8 (λr w=>w=g/\r = !K0 size align) (λr w ⟨hw,b⟩=>by subst hw;exact key r b) λJ A=>?_;have S:∀m,m=g->cell m ⟨σ.size,0,none⟩=some (.int .i64 size):=λm U=>by rw[U,L.cell];rfl
 have u:∀m,m=g->cell m ⟨v.size,0,none⟩=some (.int .i64 align):=λm U=>by rw[U,y.cell];rfl
 refine⟨λm=>m=g,rfl,⟨size,S,?_⟩⟩;refine cI (λQ=>A _ _ ⟨rfl,?_⟩) λQ=>⟨align,u,cI (λh2=>A _ _ ⟨rfl,?_⟩) λh2=>⟨align,u,cI (λh3=>A _ _ ⟨rfl,?_⟩) λh3=>⟨align,u,⟨align,u,?_⟩⟩⟩⟩
 ·simp only[K0,zg (by omega:¬1<=size),xj,Da]
 ·simp only[K0,zg (by omega:¬1<=align),xj,vN,Da]
 ·simp only[K0,zg (by omega:¬align<=256),xj,vN,Da]
 ·refine Wk6 align O O λp hp=>⟨rfl,A _ _ ⟨rfl,?_⟩⟩;rw[hp];simp only[K0,zT (by omega:1<=size),zT (by omega:1<=align),zT (by omega:align<=256),xT]
end Go.Ar
namespace Go.Ar
open Go Go.Vc Go.Proofs
variable {σ u u':Hp}{F B P Q:Rg}{L:dQ}{H H':Hw}{t k n pb:Nat}{A:AR}{Y:Lay}{x:eD}{g:Th}{c:bY}{l:Li}{cs:List Value}
def lS (c:bY):Int×Int×Int:=((c.size:Int),(c.aF:Int),(c.batch:Int))
theorem OK (tb:List bY):(tb.map lS).map ZX=tb:=by
 rw[zk]
 conv=>rhs;rw[←AZ tb]
 apply ze;intro c _;rfl
theorem CN {s:Sl}{tb:List bY}(h:cT s 3 (gA tb) σ F):gM σ s (tb.map lS):=by
 have A:=h.1;rw[KT]at A;refine⟨by simp;omega,λi x y z g=>?_⟩;rw[zi,uK]at g;obtain⟨c,u,e⟩:=g;obtain⟨B,r,D⟩:=HQ u;simp only[lS,Prod.mk.injEq]at e;obtain⟨rfl,rfl,rfl⟩:=e;obtain⟨b,o,d,j⟩:=h.cell B;obtain⟨m,w,a,C⟩:=h.cell r;rw[d]at a;cases a;obtain⟨m,w,a,p⟩:=h.cell D;rw[d]at a;cases a;exact⟨b,o,d,Q4 j,by rw[show o+i*3=o+3*i by omega];exact j,by rw[show o+i*3+1=o+(3*i+1) by omega];exact C,by rw[show o+i*3+2=o+(3*i+2) by omega];exact p⟩
def oV (tb:List bY):Prop:=Qo (tb.map lS)=true
def jT (tb:List bY)(kind size align addr:Int):Option Ph:=
 if kind=0 then(if 1<=size/\size<=16384 then(if K0 size align then(match gH tb size align with
  | some k=>some (.take k)
  | none=>some (.eU ((size+255).toNat/256)))else none)else none)
 else if kind=1 then some (.find addr)else if kind=2 then some .drain else none
theorem WeL (h:HH σ F L H)(hv:oV H.tb)(kind size align addr:Int){R:Value->Hp->Prop}(hR:∀σ',bO σ σ'->R (rf (jT H.tb kind size align addr)) σ'):YA.c (aW L.p) kind size align addr σ R:=by
 refine YA.o ?_;refine nw (cs:=[.int .i64 kind,.int .i64 size,.int .i64 align,.int .i64 addr]) λv N e u=>u.rI rfl ?_;have C:=h.bK e;have a:=hR v e;refine cU (λz=>?_) λz=>?_
 ·have g:kind=0:=by simpa using z
  have E:jT H.tb kind size align addr=(if 1<=size/\size<=16384 then(if K0 size align then(match gH H.tb size align with
   | some k=>some (.take k)
   | none=>some (.eU ((size+255).toNat/256)))else none)else none):=by unfold jT;rw[zB g]
  rw[E]at hR a;refine u.rI rfl (Ud (λr w=>w=v/\r = !decide (1<=size/\size<=16384)) (λr w ⟨K,y⟩=>?_) λJ D=>?_)
  ·subst K;by_cases hs:1<=size/\size<=16384
   ·rw[zB hs]at hR;rw[zT hs]at y;refine cG (by rw[y];rfl) ⟨λm=>m=w,rfl,aG ⟨L.dH,λm x=>by rw[x,add_lit,C.hd.cell];rfl,⟨size,λm x=>by rw[x,add_lit,u.cell];rfl,⟨align,λm x=>by rw[x,add_lit,u.cell];rfl,?_⟩⟩⟩⟩;refine N8 (CN C.lF) hv size align λM B=>?_;rw[OK];have A:=B.bV u id;have b:=hR M (e.trans B);cases hok:K0 size align with
    | false=>
     rw[hok]at b;exact cG rfl (cG rfl b)
    | true=>
     rw[hok]at b;simp only[zW]at b ⊢;cases hcl:gH H.tb size align with
     | some k=>rw[hcl]at b;exact cJ rfl b
     | none=>
      rw[hcl]at b;refine cG rfl (cJ rfl (A.rI rfl (ar O O (ar O O (nz aB (ar (by rw[Yb O];omega) (by rw[Yb O];omega) ?_))))));rw[Yb O];have:(size+256-1)/256=(((size+255).toNat/256:Nat):Int):=by omega
      rw[this];exact b
   ·rw[zA hs]at a;rw[zg hs]at y;exact cJ (by rw[y];rfl) a
  ·refine cI (λG=>D _ _ ⟨rfl,?_⟩) λG=>u.rI rfl (D _ _ ⟨rfl,?_⟩)
   ·rw[zg O];rfl
   ·by_cases h2:size>16384
    ·rw[zT h2,zg O];rfl
    ·rw[zg h2,zT O];rfl
 ·have g:kind≠0:=by simpa using z
  refine cU (λs=>u.rI rfl ?_) λs=>?_
  ·have d:kind=1:=by simpa using s
   unfold jT at a;rw[zA g,zB d]at a;exact a
  ·have d:kind≠1:=by simpa using s
   refine cU (λj=>?_) λj=>?_
   ·have i:kind=2:=by simpa using j
    unfold jT at a;rw[zA g,zA d,zB i]at a;exact a
   ·have i:kind≠2:=by simpa using j
    unfold jT at a;rw[zA g,zA d,zA i]at a;exact a
def KW (H:Hw)(thread kind size align addr:Int):Int ⊕ (Nat×Ph):=
 if 0<=thread/\thread<(H.bR.length:Int)then(match H.bR[thread.toNat]? with
  | some g=>(if g.ph=none then(match jT H.tb kind size align addr with
   | some p=>.inr (thread.toNat,p)
   | none=>.inl 1)else .inl 5)
  | none=>.inl 1)else .inl 1
theorem RL (h:HH σ F L H)(hv:oV H.tb)(thread kind size align addr:Int){R:aN}(h0:∀e,KW H thread kind size align addr=.inl e->e≠0->∀σ',Ext F σ σ'->HH σ' (Grow F σ) L H->R e σ')
 (h1:∀t p,KW H thread kind size align addr=.inr (t,p)->thread=(t:Int)->t<H.bR.length->∀σ',Ext F σ σ'->HH σ' (Grow F σ) L (eV H t (some p))->R 0 σ'):Yr.c (aW L.p) thread kind size align addr σ R:=by
 refine Yr.o ?_;refine nw (cs:=[.int .i64 kind,.int .i64 size,.int .i64 align,.int .i64 addr]) λv r e d=>?_;have K1:=(HK.start h).box e r;refine KN K1.h (cG rfl (Mb K1.h thread ?_));by_cases hth:0<=thread/\thread<(H.bR.length:Int)
 ·obtain⟨t,rfl⟩:∃t:Nat,thread=(t:Int):=⟨thread.toNat,O⟩;have m:t<H.bR.length:=by omega
  obtain⟨x,g,j,i⟩:=h.th m;have a:KW H (t:Int) kind size align addr=(if g.ph=none then(match jT H.tb kind size align addr with
   | some p=>.inr (t,p)
   | none=>.inl 1)else .inl 5):=by
   unfold KW;rw[zB hth,dE,i]
  refine cG (by rw[zT hth];rfl) (aG (K1.h.hd.rS rfl (K1.h.tR j i ⟨As _,?_⟩)));cases hp:g.ph with
  | some p=>
   rw[hp,zA aA]at a;exact cJ (by rw[De];rfl) (h0 5 a aB v K1.e (K1.fin h))
  | none=>
   rw[hp,zB rfl]at a;refine cG rfl (d.rI rfl (d.rI rfl (d.rI rfl (d.rI rfl (WeL K1.h hv kind size align addr λv3 s=>⟨As _,?_⟩)))));have K3:=K1.fr s;rw[De];cases hq:jT H.tb kind size align addr with
   | none=>
    rw[hq]at a;exact cJ rfl (h0 1 a aB v3 K3.e (K3.fin h))
   | some p=>
    rw[hq]at a;refine cG rfl (aG (K3.h.hd.rS rfl (K3.h.vV j i (some p) λy u w=>?_)));have K4:=K3.to u w λb _ d=>.inl d;have z:eV H t (some p) = {H with bR:=H.bR.set t {g with ph:=some p}}:=ZN i _;rw[←z]at K4;exact h1 t p a rfl m y K4.e (K4.fin h)
 ·have a:KW H thread kind size align addr=.inl 1:=by unfold KW;rw[zA hth]
  exact cJ (by rw[zg hth];rfl) (h0 1 a aB v K1.e (K1.fin h))
theorem RP {p:Option Ph}(ht:t<H.bR.length):∃g,(eV H t p).bR[t]?=some g/\g.ph=p:=
 ⟨{H.bR[t]with ph:=p},by simp[eV,Hw.eA,xX,cM ht],rfl⟩
theorem Nd (hso:Gw)(h:HH σ F L H)(hv:oV H.tb)(thread kind size align addr:Int){R:Int->Int->Hp->Prop}(h0:∀e,KW H thread kind size align addr=.inl e->e≠0->∀σ',Ext F σ σ'->HH σ' (Grow F σ) L H->R 0 e σ')
 (h1:∀t p,KW H thread kind size align addr=.inr (t,p)->∃n H' a e,jN n (eV H t (some p)) t p H' a e/\∀σ' ts',Ext F σ σ'->HH σ' (Grow F σ) {L with ts:=ts'} H'->R a e σ'):XX.c (aW L.p) thread kind size align addr σ R:=by
 refine XX.o ?_;refine nw (cs:=[.int .i64 kind,.int .i64 size,.int .i64 align,.int .i64 addr]) λv hz e i=>i.rI rfl (i.rI rfl (i.rI rfl (i.rI rfl ?_)));have K1:=(HK.start h).box e hz;refine RL K1.h hv thread kind size align addr (λD he C v1 e1 s=>?_) λt p ad hth ht v1 e1 s=>?_
 ·have K2:=K1.to e1 s λb _ i=>i;exact cJ (by simpa using C) (h0 D he C v1 K2.e (K2.fin h))
 ·subst hth;have K2:=K1.to e1 s λb _ i=>i;obtain⟨n,Hf,a,D,d,G⟩:=h1 t p ad;refine cG rfl (Pr (λn w=>∃(B P:Rg) (ts:List eD) (H:Hw) (p:Ph),HK F σ B w P {L with ts:=ts} H/\(∃g,H.bR[t]?=some g/\g.ph=some p)/\jN n H t p Hf a D) ⟨n,_,_,L.ts,_,p,K2,RP ht,d⟩ ?_);rintro n w ⟨B,P,ts,H2,r,K,⟨g,hg,X⟩,d⟩ J hJ;have go:yC H2 t r->((Wt H2 t r).2.1.isNone=true->(Wt H2 t r).2.2.1=a/\(Wt H2 t r).2.2.2=D/\Q1 H2 t r=Hf)->((Wt H2 t r).2.1.isNone=false->∃m M,m<n/\(Wt H2 t r).2.1=some M/\jN m (Q1 H2 t r) t M Hf a D)->Y8.c (aW L.p) (t:Int) w λN y z t223 v3=>Nw (.cells #[.int .i64 0,.int .i64 0] 156 (0,0)) v3 λj v4=>cY (j.add 0) (.int .i64 y) v4 λv5=>cY (j.add 1) (.int .i64 z) v5 λu=>If N (fL .i64 (j.add 0) u λW=>fL .i64 (j.add 1) u λV=>R W V u) (J u):=by
   intro hok hd hn;refine O5 hso K.h hg X hok λv3 A e3 ac=>?_;have K3:=K.to e3 ac λb _ i=>i;refine nw (cs:=[.int .i64 0,.int .i64 0]) λv4 U e4 Y=>?_;have K4:=K3.box e4 U;refine Y.s1 aA λv5 o5 b5=>b5.s1 aA λu o6 b6=>?_;have K6:=(K4.own o5 (.inr rfl)).own o6 (.inr rfl);refine cU (λaa=>?_) λab=>?_
   ·obtain⟨q1,q2,q3⟩:=hd aa;rw[q3]at K6;refine b6.rI rfl (b6.rI rfl ?_);rw[q1,q2];exact G u A K6.e (K6.fin h)
   ·obtain⟨m,M,hm,Z,Q⟩:=hn ab;have htl:t<H2.bR.length:=(cQ.1 hg).1;obtain⟨g',S,x⟩:=Nk (p:=r) htl;exact hJ m u hm ⟨_,_,A,_,M,K6,⟨g',S,by rw[x,Z]⟩,Q⟩
  cases d with
  | done hok hnone=>exact go hok (λ_=>⟨rfl,rfl,rfl⟩) λE=>by rw[hnone]at E;cases E
  | next hok hsome hrun'=>exact go hok (λE=>by rw[hsome]at E;cases E) λ_=>⟨_,_,Nat.lt_succ_self _,hsome,hrun'⟩
end Go.Ar
namespace Go.Ar
open Go Go.Vc Go.Proofs
variable {σ u w w':Hp}{F B P Q:Rg}{n:Nat}{cs:List Value}{tb:List bY}{cf:Cf}
def Ur (tb:List bY)(cf:Cf):Hw:=⟨tb,cf,VC cf.aF,List.replicate cf.iO (fD cf.aF cf.room tb),List.replicate cf.threads ⟨List.replicate tb.length gT,[],none⟩,[]⟩
def vY (p a t b r:Int):Bool:=decide (32<=p)&&decide (p<=1024)&&(p%16==0)&&decide (1<=a)&&decide (a<=4)&&decide (1<=t)&&decide (t<=4)&&decide (0<=b)&&decide (b<=65536)&&decide (0<=r)&&decide (r<=8)
theorem lvl {K:aO}{r:Bool}{a:Addr}{x:Int}{k:IntKind}{f:Int->Bool}(hl:∀{K':Int->Prop},K' x->fL k a w K')(h:K (r&&f x) w):bZ K λJ=>If r (fL k a w λt=>J (f t) w) (J false w):=
 bZ.intro (cU (λb=>hl (by rw[b]at h;exact h)) λb=>by rw[b]at h;exact h)
theorem SM (p a t b r:Int){R:aO}(hR:∀σ',bO σ σ'->R (vY p a t b r) σ'):QH.c p a t b r σ R:=by
 refine QH.o ?_;refine nw (cs:=[.int .i64 p,.int .i64 a,.int .i64 t,.int .i64 b,.int .i64 r]) λv A e g=>g.rI rfl ?_;have i:=hR v e;unfold vY at i;refine Ud (λj w=>w=v/\j=(decide (32<=p)&&decide (p<=1024))) (λj w ⟨x,u⟩=>?_) λJ m=>?_
 ·subst x;subst u;refine Ud (λj y=>y=w/\j=(decide (32<=p)&&decide (p<=1024)&&(p%16==0))) (λj y ⟨x,u⟩=>?_) λJ m=>?_
  ·rw[x];subst u;exact lvl (λd=>g.rI rfl d) (lvl (λd=>g.rI rfl d) (lvl (λd=>g.rI rfl d) (lvl (λd=>g.rI rfl d) (lvl (λd=>g.rI rfl d) (lvl (λd=>g.rI rfl d) (lvl (λd=>g.rI rfl d) (lvl (λd=>g.rI rfl d) i)))))))
  ·refine cU (λs=>g.rI rfl (nz aB (m _ _ ⟨rfl,?_⟩))) λz=>m _ _ ⟨rfl,?_⟩
   ·simp only[zG,zV]at s;rw[Kj O,zT s.1,zT s.2];rfl
   ·rw[z];rfl
 ·refine cI (λs=>g.rI rfl (m _ _ ⟨rfl,?_⟩)) λz=>m _ _ ⟨rfl,?_⟩
  ·rw[zT (by omega:32<=p)];rfl
  ·rw[zg O];rfl
structure tC where
 p:Nat
 dH:Sl
 lm:Nat
 hs:Option Nat
 hp:Option Nat
 aw:Sl
 al:List Nat
 ha:Sl
 tw:Sl
 tl:List Value
 ht:Sl
 ys:List Lay
 cs:List iE
def uQ (cf:Cf)(N:tC):List Value:=[.slice N.dH.a N.dH.len N.dH.cap,.int .i64 (cf.aF:Int),.int .i64 (cf.iO:Int),.int .i64 (cf.threads:Int),.int .i64 (cf.dD:Int),.int .i64 (cf.room:Int),
 .pointer (N.hp.map λq=>⟨q,0,none⟩),.slice N.ha.a N.ha.len N.ha.cap,.slice N.ht.a N.ht.len N.ht.cap,.map (some N.lm)]
def wA (n room:Nat)(tb:List bY)(y:Option Lay):Hp->Rg->Prop:=λσ F=>match y with
 | some Y=>cX σ F Y (fD n room tb) (cF (fD n room tb) Y)
 | none=>True
def vQ (tb:List bY)(bud:Nat)(y:Option iE):Hp->Rg->Prop:=λσ F=>match y with
 | some Y=>eB σ F Y tb bud (List.replicate tb.length gT)
 | none=>True
def BF (n:Nat)(q:Option Nat):Hp->Rg->Prop:=λσ F=>match q with
 | some q=>dI σ F q (VC n)
 | none=>True
def kD (tb:List bY)(cf:Cf)(N:tC):oC->Hp->Rg->Prop
 | .hd=>iW N.p (uQ cf N)
 | .dH=>cT N.dH 3 (gA tb)
 | .sp=>BF cf.aF N.hs
 | .fZ=>bS N.aw 1 (eY N.al)
 | .cL=>bS N.tw 3 N.tl
 | .live=>lQ N.lm .i64 (.ag 4) []
 | .ar k=>wA cf.aF cf.room tb N.ys[k]?
 | .ca k=>vQ tb cf.dD N.cs[k]?
 | .hn _=>λ_ _=>True
theorem wA.loc (n room:Nat)(tb:List bY)(y:Option Lay):dS (wA n room tb y):=by
 intro σ σ' F G h hz hs;cases y with
 | some Y=>exact cX.loc _ _ _ _ h hz hs
 | none=>trivial
theorem vQ.loc (tb:List bY)(bud:Nat)(y:Option iE):dS (vQ tb bud y):=by
 intro σ σ' F G h hz hs;cases y with
 | some Y=>exact eB.loc _ _ _ _ h hz hs
 | none=>trivial
theorem BF.loc (n:Nat)(q:Option Nat):dS (BF n q):=by
 intro σ σ' F G h hz hs;cases q with
 | some q=>exact dI.loc _ _ _ _ h hz hs
 | none=>trivial
theorem kD.loc {N:tC}:∀i,dS (kD tb cf N i)
 | .hd=>iW.loc _ _
 | .dH=>cT.loc _ _ _
 | .sp=>BF.loc _ _
 | .fZ=>bS.loc _ _ _
 | .cL=>bS.loc _ _ _
 | .live=>lQ.loc _ _ _ _
 | .ar k=>wA.loc _ _ _ _
 | .ca k=>vQ.loc _ _ _
 | .hn _=>λ_ _ _ _ _ _ _=>trivial
structure NK (σ:Hp) (B:Rg) (w:Hp) (P:Rg) (tb:List bY) (cf:Cf) (N:tC):Prop where
 sep:Sep (kD tb cf N) w P
 e:bO σ w
 p:∀b,P b->σ.size<=b/\¬B b/\b<w.size
 b:∀b,B b->σ.size<=b/\b<w.size
variable {N N':tC}
theorem NK.fr (K:NK σ B w P tb cf N)(e:bO w w'):NK σ B w' P tb cf N:=
 ⟨(Sep.loc kD.loc).bK K.sep e,K.e.trans e,λb a=>⟨(K.p b a).1,(K.p b a).2.1,by have:=(K.p b a).2.2;have:=e.1;omega⟩,λb a=>by have:=K.b b a;have:=e.1;omega⟩
theorem NK.box (K:NK σ B w P tb cf N)(e:bO w w')(hz:w'.size=w.size+1):NK σ (λb=>B b\/b=w.size) w' P tb cf N:=by
 have h:=K.fr e;have i:=K.e.1;exact⟨h.sep,h.e,λb a=>⟨(K.p b a).1,λd=>d.elim (K.p b a).2.1 λg=>by have:=(K.p b a).2.2;omega,(h.p b a).2.2⟩,λb a=>a.elim (h.b b) λg=>O⟩
theorem NK.drop (K:NK σ B w P tb cf N){B':Rg}(hb:∀b,B' b->B b):NK σ B' w P tb cf N:=⟨K.sep,K.e,λb h=>⟨(K.p b h).1,λa=>(K.p b h).2.1 (hb b a),(K.p b h).2.2⟩,λb h=>K.b b (hb b h)⟩
theorem NK.put (K:NK σ B w P tb cf N)(e:bO w w')(i:oC)(hj:∀j,j≠i->kD tb cf N' j=kD tb cf N j)(hi:kD tb cf N' i w' (λb=>w.size<=b)):NK σ B w' (λb=>P b\/w.size<=b/\b<w'.size) tb cf N':=by
 have h:=K.fr e;have m:=K.e.1;refine⟨h.sep.put kD.loc i (G:=λb=>w.size<=b/\b<w'.size) (λb a g=>by have:=(K.p b g).2.2;omega) hj ((kD.loc i).mono hi λb a d=>⟨d,a⟩) (kD.loc i),h.e,λb a=>?_,h.b⟩;rcases a with a|a
 ·exact h.p b a
 ·exact⟨O,λd=>by have:=(K.b b d).2;omega,a.2⟩
theorem NK.step (K:NK σ B w P tb cf N)(i:oC):∃G:Rg,(∀b,G b->P b)/\kD tb cf N i w G/\∀(w':Hp) (N':tC) (G':Rg),(∀j,j≠i->kD tb cf N' j=kD tb cf N j)->Ext G w w'->(∀b,G' b->G b\/w.size<=b/\¬B b)->kD tb cf N' i w' G'->(∀b,B b->b<w'.size) →
 NK σ B w' (λb=>(P b/\¬G b\/G' b)/\b<w'.size) tb cf N':=by
 obtain⟨G,m,y,_,g⟩:=K.sep.mI kD.loc i;refine⟨G,m,y,λw' N' G' u e r x s=>⟨?_,?_,λb a=>?_,λb a=>⟨(K.b b a).1,s b a⟩⟩⟩
 ·have:=g w' (kD tb cf N') G' u e (λb a=>(r b a).imp id λd=>d.1) x (kD.loc _);refine(Sep.loc kD.loc).mono this λb a d=>⟨?_,a⟩;exact d.imp (λd=>⟨d.1,d.2.2⟩) id
 ·exact Ext.fH K.e e λb a=>.inr (K.p b (m b a)).1
 ·have z:=K.e.1;rcases a.1 with h1|h1
  ·exact⟨(K.p b h1.1).1,(K.p b h1.1).2.1,a.2⟩
  ·rcases r b h1 with h2|h2
   ·exact⟨(K.p b (m b h2)).1,(K.p b (m b h2)).2.1,a.2⟩
   ·exact⟨O,h2.2,a.2⟩
theorem EE {K:eT [.p]}{body:eT [.p]->Prop}(P:Option Addr->Hp->Prop)(h1:∀r w,P r w->K r w)(h2:∀J:eT [.p],(∀r w,P r w->J r w)->body J):Jn [.p] K body:=Jn.intro (h2 K h1)
def gZ:Sl:=⟨none,0,0⟩
def uk (cs:List iE):List Value:=cs.flatMap λc=>[.pointer (some ⟨c.p,0,none⟩),.slice none 0 0,.nilIface]
def N0 (p:Nat)(dH:Sl)(lm:Nat):tC:=⟨p,dH,lm,none,none,gZ,[],gZ,gZ,[],gZ,[],[]⟩
def NB (p:Nat)(dH:Sl)(lm q:Nat)(aw:Sl)(ys:List Lay)(tw:Sl)(cs:List iE):tC:=⟨p,dH,lm,some q,some q,aw,ys.map (·.p),aw,tw,uk cs,tw,ys,cs⟩
theorem Oq {p lm:Nat}{dH:Sl}{D:Rg}(e:bO σ w)(hz:σ.size<w.size)(hp:bX w p (uQ cf (N0 p dH lm)))(hm:dN w lm .i64 (.ag 4) [])(ht:cT dH 3 (gA tb) w D)(hD:∀b,D b->σ.size<b/\b<w.size/\b≠p/\b≠lm)(hpl:p≠lm)(h1:σ.size<p)(h2:σ.size<lm) :
 NK σ (· = σ.size) w (λb=>D b\/b=p\/b=lm) tb cf (N0 p dH lm):=by
 have d:=hp.lt;have g:=hm.lt;refine⟨⟨λb=>if b=p then .hd else if b=lm then .live else .dH,λi=>?_⟩,e,λb a=>?_,λb a=>O⟩
 ·cases i with
  | hd=>exact⟨⟨.inr (.inl rfl),zB rfl⟩,hp⟩
  | live=>exact⟨⟨.inr (.inr rfl),by show(if lm=p then oC.hd else if lm=lm then oC.live else oC.dH)=.live;rw[zA (Ne.symm hpl),zB rfl]⟩,hm⟩
  | dH=>exact aH.mono ht λb _ a=>⟨.inl a,by show(if b=p then oC.hd else if b=lm then oC.live else oC.dH)=.dH;rw[zA (hD b a).2.2.1,zA (hD b a).2.2.2]⟩
  | sp=>trivial
  | fZ=>exact bS.nil _ _ _ _
  | cL=>exact bS.nil _ _ _ _
  | ar k=>trivial
  | ca k=>trivial
  | hn k=>trivial
 ·rcases a with a|a|a
  ·have:=hD b a;omega
  ·omega
  ·omega
theorem NK.C5 (K:NK σ B w P tb cf N):P N.p/\bX w N.p (uQ cf N):=by
 obtain⟨G,b,a⟩:=K.sep.get .hd;exact⟨b _ a.1,a.2⟩
theorem NK.sB (K:NK σ B w P tb cf N)(N':tC)(hN':∀j,j≠.hd->kD tb cf N' j=kD tb cf N j)(hp:N'.p=N.p){i:Nat}{v:Value}(hs:(uQ cf N).set i v=uQ cf N')(hi:i<10){Kk:aP}(hK:∀w' P',NK σ B w' P' tb cf N'->QJ w w' N.p->Kk w'):cY (Addr.add ⟨N.p,0,none⟩ i) v w Kk:=by
 obtain⟨G,m,d,e⟩:=K.step .hd;have d:iW N.p (uQ cf N) w G:=d;refine d.2.s1 (by simpa[uQ]using hi) λw' o g=>hK w' _ (e w' N' G hN' (o.ext.sub λx a=>by rw[a];exact d.1) (λx a=>.inl a) ?_ λx a=>by have:=(K.b x a).2;have:=o.1;omega) o;show iW N'.p (uQ cf N') w' G;rw[zI,hs]at g;rw[hp];exact⟨d.1,g⟩
theorem ON {Y:Lay}(h:N'.ys=N.ys++[Y])(hr:∀j,(∀k,j≠.ar k)->kD tb cf N' j=kD tb cf N j):∀j,j≠oC.ar N.ys.length->kD tb cf N' j=kD tb cf N j:=by
 intro j hj;cases j with
 | ar k=>
  have a:k≠N.ys.length:=λe=>hj (by rw[e]);show wA _ _ _ N'.ys[k]?=wA _ _ _ N.ys[k]?;rw[h]
  congr 1
  rcases Nat.lt_or_gt_of_ne a with h1|h1
  ·rw[zh h1]
  ·rw[za aE,za O]
 | _=>exact hr _ (λk e=>by cases e)
theorem TL {Y:iE}(h:N'.cs=N.cs++[Y])(hr:∀j,(∀k,j≠.ca k)->kD tb cf N' j=kD tb cf N j):∀j,j≠oC.ca N.cs.length->kD tb cf N' j=kD tb cf N j:=by
 intro j hj;cases j with
 | ca k=>
  have a:k≠N.cs.length:=λe=>hj (by rw[e]);show vQ _ _ N'.cs[k]?=vQ _ _ N.cs[k]?;rw[h]
  congr 1
  rcases Nat.lt_or_gt_of_ne a with h1|h1
  ·rw[zh h1]
  ·rw[za aE,za O]
 | _=>exact hr _ (λk e=>by cases e)
end Go.Ar
namespace Go.Ar
open Go Go.Vc Go.Proofs
variable {σ u w w':Hp}{F B P Q:Rg}{n:Nat}{cs:List Value}{tb:List bY}{cf:Cf}{N:tC}
theorem IY (p a t b r:Int):vY p a t b r=true↔(32<=p/\p<=1024/\p%16=0)/\(1<=a/\a<=4)/\(1<=t/\t<=4)/\(0<=b/\b<=65536)/\0<=r/\r<=8:=by
 simp only[vY,zG,zV,zY];omega
theorem FY (g:Gl σ)(gd:Gd σ):jS (λb=>σ.size<=b)/\¬(σ.size<=1):=by
 refine⟨?_,λh=>by have:=Ek gd;omega⟩;have d:jS (λ_=>False):=λb a=>a.elim;exact(d.grow g).sub λb a=>.inr a
theorem Sk (cs:List iE)(ls:List Li):iG (cs.map λc=>⟨c,gZ⟩) (List.replicate cs.length ⟨ls,[],none⟩)=uk cs:=by
 induction cs with
 | nil=>rfl
 | cons c cs ih=>
  have a:iG ((c::cs).map λc=>(⟨c,gZ⟩:eD)) (List.replicate (c::cs).length ⟨ls,[],none⟩)=lG (⟨c,gZ⟩,⟨ls,[],none⟩)++iG (cs.map λc=>(⟨c,gZ⟩:eD)) (List.replicate cs.length ⟨ls,[],none⟩):=rfl;rw[a,ih];rfl
theorem Tn (cs:List iE):(uk cs).length=cs.length*3:=by
 induction cs with
 | nil=>rfl
 | cons c cs ih=>simp only[uk,qb,zK,zN,pz]at *;omega
set_option maxRecDepth 8000 in
theorem Fx {s:Sl}{xs:List (Int×Int×Int)}(ha:gM σ s xs)(g:Gl σ)(gd:Gd σ)(p a t b r:Int){R:Option Addr->Int->Hp->Prop}
 (h2:Qo xs=false->∀σ',bO σ σ'->R none 2 σ')
 (h1:Qo xs=true->vY p a t b r=false->∀σ',bO σ σ'->R none 1 σ')
 (h0:Qo xs=true->vY p a t b r=true->∀σ' L,bO σ σ'->HH σ' (λq=>σ.size<=q) L (Ur (xs.map ZX) ⟨p.toNat,a.toNat,t.toNat,b.toNat,r.toNat⟩)->R (some ⟨L.p,0,none⟩) 0 σ') :
 KM.c s p a t b r σ R:=by
 refine KM.o ?_;refine nw (cs:=[.int .i64 p,.int .i64 a,.int .i64 t,.int .i64 b,.int .i64 r]) λv hz e y=>?_;refine H5 (YP ha e) λv1 e1=>?_;cases hv:Qo xs with
 | false=>exact cJ rfl (h2 hv v1 (e.trans e1))
 | true=>
 have V:=e1.bV y id;refine cG rfl (V.rI rfl (V.rI rfl (V.rI rfl (V.rI rfl (V.rI rfl (SM p a t b r λv2 e2=>?_))))));have W:=(e.trans e1).trans e2;cases hc:vY p a t b r with
 | false=>exact cJ rfl (h1 hv hc v2 W)
 | true=>
 have hcf:=(IY p a t b r).1 hc;obtain⟨p,rfl⟩:∃n:Nat,p=(n:Int):=⟨p.toNat,O⟩;obtain⟨a,rfl⟩:∃n:Nat,a=(n:Int):=⟨a.toNat,O⟩;obtain⟨t,rfl⟩:∃n:Nat,t=(n:Int):=⟨t.toNat,O⟩;obtain⟨b,rfl⟩:∃n:Nat,b=(n:Int):=⟨b.toNat,O⟩;obtain⟨r,rfl⟩:∃n:Nat,r=(n:Int):=⟨r.toNat,O⟩;simp only[dE]at h0;have h0:=h0 hv hc;have A:=e2.bV V id;have hxl:=(Qx xs).1 hv;have hz2:=W.1;have hz02:σ.size<v2.size:=A.lt;generalize hcfd:(⟨p,a,t,b,r⟩:Cf)=cf at h0;generalize htbd:xs.map ZX=tb at h0;have hdE:∀(q:Nat) (dH:Sl) (C:Nat),uQ cf (N0 q dH C)=[.slice dH.a dH.len dH.cap,.int .i64 (p:Int),.int .i64 (a:Int),.int .i64 (t:Int),.int .i64 (b:Int),.int .i64 (r:Int),.pointer none,.slice none 0 0,.slice none 0 0,.map (some C)]:=λq dH C=>by rw[←hcfd];rfl
 refine cG rfl (EE (λvh w=>∃P q dH C,vh=some ⟨q,0,none⟩/\NK σ (· = σ.size) w P tb cf (N0 q dH C)/\bX w σ.size [.int .i64 (p:Int),.int .i64 (a:Int),.int .i64 (t:Int),.int .i64 (b:Int),.int .i64 (r:Int)]) (λvh w ⟨P,q,dH,C,hvh,K,hbw⟩=>?_) λJ hJ=>?_)
 ·subst hvh;refine hbw.rI rfl (WjF (n:=p) O O λv4 sp e4 _ hS=>?_);have hp:cf.aF=p:=by rw[←hcfd]
  have hroom:cf.room=r:=by rw[←hcfd]
  have hbud:cf.dD=b:=by rw[←hcfd]
  have K1:NK σ (· = σ.size) v4 _ tb cf {N0 q dH C with hs:=some sp}:=K.put e4 .sp (λj H=>by cases j<;>first|rfl|exact absurd rfl H) (by
   show dI v4 _ sp (VC cf.aF);rw[hp];exact hS)
  have hbw4:=e4.bV hbw id;refine aG (K1.sB (NB q dH C sp gZ [] gZ []) (λj H=>by cases j<;>first|rfl|exact absurd rfl H) rfl (i:=6) rfl O λv5 P5 K5 o5=>?_)
  have af:∀{w:Hp} {P:Rg} {N:tC},NK σ (· = σ.size) w P tb cf N->σ.size≠N.p:=λK e=>(K.p _ K.C5.1).2.1 e.symm;have hbw5:=Ws o5 hbw4 (af K1);refine hbw5.rI rfl ?_;refine ZV (a:=bN) (λ(z:Int) w=>∃(P:Rg) (aw:Sl) (ys:List Lay),z=(ys.length:Int)/\ys.length<=a/\(∀Y∈ys,Y.hs=sp)/\NK σ (· = σ.size) w P tb cf (NB q dH C sp aw ys gZ [])/\bX w σ.size [.int .i64 (p:Int),.int .i64 (a:Int),.int .i64 (t:Int),.int .i64 (b:Int),.int .i64 (r:Int)]) (λz _=>a-z.toNat) ⟨P5,gZ,[],rfl,by simp,by simp,K5,hbw5⟩ ?_;rintro(z:Int) w6 ⟨P6,aw,ys,rfl,hyl,hys,K6,hbw6⟩;refine cI (λhlt=>?_) λhge=>?_
  ·refine⟨λu=>u=w6,rfl,aG ⟨some ⟨sp,0,none⟩,λu hu=>by cases hu;rw[add_lit];exact(bX.cell (b:=q) K6.C5.2).trans rfl,⟨(r:Int),λu hu=>by cases hu;rw[add_lit,hbw6.cell];rfl,?_⟩⟩⟩;obtain⟨GS,hGS,hSp⟩:=K6.sep.get .sp;have hSp:dI w6 GS sp (VC cf.aF):=hSp;have hnl:(VC cf.aF).st.length=p:=by rw[hp];simp[VC]
   have hnE:oM xs (VC cf.aF).st.length (r:Int)=0:=by
    unfold oM;rw[zB hv,hnl,zB O]
   refine Wnz (YP ha K6.e) hSp (r:Int) (λhne=>absurd hnE hne) λ_ v7 Y e7 hYh hA=>?_;rw[hnl,dE,htbd]at hA;have K7:NK σ (· = σ.size) v7 _ tb cf {NB q dH C sp aw ys gZ []with ys:=ys++[Y]}:=K6.put e7 (.ar ys.length) (ON (N:=NB q dH C sp aw ys gZ []) rfl (λj H=>by
    cases j with
    | ar k=>exact absurd rfl (H k)
    | _=>rfl)) (by
    show wA cf.aF cf.room tb (ys++[Y])[ys.length]? v7 _;rw[zp (zD _),tB,hp,hroom];exact hA)
   have S:=e7.bV hbw6 id;refine aG (K7.C5.2.rS (a:=aw.a) (n:=aw.len) (c:=aw.cap) rfl (nw (cs:=[.pointer (some ⟨Y.p,0,none⟩)]) λv8 hz8 e8 hb8=>?_));have K8:=K7.box e8 hz8;obtain⟨G,hG,d,ae⟩:=K8.step .fZ;have d:bS aw 1 (eY (ys.map (·.p))) v8 G:=d;have hal:aw.len=ys.length:=by have:=d.1;simp[eY]at this;omega
   refine d.app (ys:=[.pointer (some ⟨Y.p,0,none⟩)]) rfl rfl ?_ (by simp[dP]) ?_ ?_ qW λs' v9 _ e9 hr9=>?_
   ·intro j u hu;rw[add_lit,zI,hb8.cell];exact hu
   ·simp only;omega
   ·simp only;omega
   have hz9:=e9.1;have hbw9:bX v9 σ.size _:=e9.bV (e8.bV S id) λF=>(K8.p _ (hG _ F)).2.1 (.inl rfl);have K9:=(ae v9 {NB q dH C sp aw ys gZ []with ys:=ys++[Y],aw:=s',al:=(ys++[Y]).map (·.p)} (λb=>Grow G v8 b/\b<v9.size) (λj H=>by cases j<;>first|rfl|exact absurd rfl H) e9 (λb y=>y.1.imp id λF=>⟨F,λhB=>by have:=(K8.b b hB).2;omega⟩) (by
    show bS s' 1 (eY ((ys++[Y]).map (·.p))) v9 _;have:eY ((ys++[Y]).map (·.p))=eY (ys.map (·.p))++[.pointer (some ⟨Y.p,0,none⟩)]:=by simp[eY]
    rw[this];exact aI.mono hr9 λb y F=>⟨F,y⟩) λb hB=>by have:=(K8.b b hB).2;omega).drop (B':=(· = σ.size)) λb y=>.inl y
   refine aG (K9.sB (NB q dH C sp s' (ys++[Y]) gZ []) (λj H=>by cases j<;>first|rfl|exact absurd rfl H) rfl (i:=7) rfl O λv10 P10 K10 fR=>?_)
   have M:=Ws fR hbw9 (af K9);exact cA (m:=ys.length+1) O O ⟨⟨P10,s',ys++[Y],by simp,by simp;omega,λZ hZ=>(zU.1 hZ).elim (hys Z) λh=>by
    rw[zZ]at h;rw[h];exact hYh,K10,M⟩,O⟩
  ·have hya:ys.length=a:=by omega
   refine hbw6.rI rfl ?_;refine ZV (a:=bN) (λ(z:Int) w=>∃(P:Rg) (tw:Sl) (cs:List iE),z=(cs.length:Int)/\cs.length<=t/\NK σ (· = σ.size) w P tb cf (NB q dH C sp aw ys tw cs)/\bX w σ.size [.int .i64 (p:Int),.int .i64 (a:Int),.int .i64 (t:Int),.int .i64 (b:Int),.int .i64 (r:Int)]) (λz _=>t-z.toNat) ⟨P6,gZ,[],rfl,by simp,K6,hbw6⟩ ?_;rintro(z:Int) w7 ⟨P7,tw,cs,rfl,hcsl,K7,S⟩;refine cI (λhlt=>?_) λhge2=>?_
   ·refine S.rI rfl (PM (YP ha K7.e) (b:Int) (λhvf=>by rw[hv]at hvf;cases hvf) (λ_ hn=>absurd ⟨O,O⟩ hn) λ_ _ _ v8 Y e8 hC=>?_);rw[dE,htbd]at hC;have K8:NK σ (· = σ.size) v8 _ tb cf {NB q dH C sp aw ys tw cs with cs:=cs++[Y]}:=K7.put e8 (.ca cs.length) (TL (N:=NB q dH C sp aw ys tw cs) rfl (λj H=>by
     cases j with
     | ca k=>exact absurd rfl (H k)
     | _=>rfl)) (by
     show vQ tb cf.dD (cs++[Y])[cs.length]? v8 _;rw[zp (zD _),tB,hbud];exact hC)
    have hbw8:=e8.bV S id;refine aG (K8.C5.2.rS (a:=tw.a) (n:=tw.len) (c:=tw.cap) rfl (nw (cs:=[.pointer (some ⟨Y.p,0,none⟩),.slice none 0 0,.nilIface]) λv9 hz9 e9 hb9=>?_));have K9:=K8.box e9 hz9;obtain⟨G,hG,d,ae⟩:=K9.step .cL;have d:bS tw 3 (uk cs) v9 G:=d;have hal:tw.len=cs.length:=by have:=d.1;rw[Tn]at this;omega
    refine d.app (ys:=[.pointer (some ⟨Y.p,0,none⟩),.slice none 0 0,.nilIface]) rfl rfl ?_ (by simp[dP]) ?_ ?_ qW λs' v10 _ e10 hr10=>?_
    ·intro j u hu;rw[add_lit,zI,hb9.cell];exact hu
    ·simp only;omega
    ·simp only;omega
    have hz10:=e10.1;have M:bX v10 σ.size _:=e10.bV (e9.bV hbw8 id) λF=>(K9.p _ (hG _ F)).2.1 (.inl rfl);have K10:=(ae v10 {NB q dH C sp aw ys tw cs with cs:=cs++[Y],tw:=s',tl:=uk (cs++[Y])} (λb=>Grow G v9 b/\b<v10.size) (λj H=>by cases j<;>first|rfl|exact absurd rfl H) e10 (λb y=>y.1.imp id λF=>⟨F,λhB=>by have:=(K9.b b hB).2;omega⟩) (by
     show bS s' 3 (uk (cs++[Y])) v10 _;have:uk (cs++[Y])=uk cs++[.pointer (some ⟨Y.p,0,none⟩),.slice none 0 0,.nilIface]:=by simp[uk]
     rw[this];exact aI.mono hr10 λb y F=>⟨F,y⟩) λb hB=>by have:=(K9.b b hB).2;omega).drop (B':=(· = σ.size)) λb y=>.inl y
    refine aG (K10.sB (NB q dH C sp aw ys s' (cs++[Y])) (λj H=>by cases j<;>first|rfl|exact absurd rfl H) rfl (i:=8) rfl O λv11 P11 K11 o11=>?_)
    have hbw11:=Ws o11 M (af K10);exact cA (m:=cs.length+1) O O ⟨⟨P11,s',cs++[Y],by simp,by simp;omega,K11,hbw11⟩,O⟩
   ·have hct:cs.length=t:=by omega
    have Q:cf.threads=cs.length:=by rw[←hcfd,hct]
    have ai:cf.iO=ys.length:=by rw[←hcfd,hya]
    have hN:=FY g gd;refine h0 w7 ⟨q,sp,C,dH,aw,tw,ys,cs.map λc=>⟨c,gZ⟩⟩ K7.e ⟨⟨?_,hys,?_,?_,?_,?_,?_,?_⟩,?_,g.bK K7.e,gd.bK K7.e,hN.1,hN.2⟩
    ·simp[Ur,ai]
    ·simp[Ur,Q]
    ·simp[Ur,ai];omega
    ·simp[Ur,ai];omega
    ·simp[Ur,Q];omega
    ·simp[Ur,Q];omega
    ·intro B hB;have:=Ei hB;rw[this];rfl
    ·refine(Sep.loc CH.loc).mono (G:=λq=>σ.size<=q) ?_ λb _ y=>y;obtain⟨ρ,hs⟩:=(Sep.loc kD.loc).mono K7.sep (G:=λq=>σ.size<=q) λb _ y=>(K7.p b y).1;refine⟨ρ,λi=>?_⟩;have U:=hs i;cases i with
     | hd=>exact U
     | dH=>exact U
     | sp=>exact U
     | fZ=>exact bS.gE U
     | cL=>
      show bS tw 3 (iG (cs.map λc=>⟨c,gZ⟩) (List.replicate cf.threads ⟨List.replicate tb.length gT,[],none⟩)) w7 _;rw[Q,Sk];exact U
     | live=>exact U
     | ar k=>
      show sv ys[k]? (List.replicate cf.iO (fD cf.aF cf.room tb))[k]? w7 _;have U:wA cf.aF cf.room tb ys[k]? w7 _:=U;unfold sv;by_cases hk:k<ys.length
      ·rw[qy,zB O,cM hk];rw[cM hk]at U;exact U
      ·rw[za O];trivial
     | ca k=>
      show uh (cs.map λc=>(⟨c,gZ⟩:eD))[k]? (List.replicate cf.threads (⟨List.replicate tb.length gT,[],none⟩:Th))[k]? tb cf.dD w7 _;have U:vQ tb cf.dD cs[k]? w7 _:=U;unfold uh;by_cases hk:k<cs.length
      ·rw[qy,zB O,zi,cM hk];rw[cM hk]at U;exact U
      ·rw[zi,za O];trivial
     | hn k=>
      show sT (cs.map λc=>(⟨c,gZ⟩:eD))[k]? (List.replicate cf.threads (⟨List.replicate tb.length gT,[],none⟩:Th))[k]? w7 _;unfold sT;by_cases hk:k<cs.length
      ·rw[qy,zB O,zi,cM hk];exact iK.nil _ _ _
      ·rw[zi,za O];trivial
 ·have rd:∀(i:Nat) (x:Int),[Value.int .i64 (p:Int),.int .i64 (a:Int),.int .i64 (t:Int),.int .i64 (b:Int),.int .i64 (r:Int)][i]?=some (.int .i64 x)->∀m,bX m σ.size [.int .i64 (p:Int),.int .i64 (a:Int),.int .i64 (t:Int),.int .i64 (b:Int),.int .i64 (r:Int)]->cell m (Addr.add ⟨σ.size,0,none⟩ i)=some (.int .i64 x):=λi x F m hm=>by
   rw[add_lit,hm.cell,zI];exact F
  refine⟨λm=>bX m σ.size [.int .i64 (p:Int),.int .i64 (a:Int),.int .i64 (t:Int),.int .i64 (b:Int),.int .i64 (r:Int)],A,⟨(p:Int),rd 0 _ rfl,⟨(a:Int),rd 1 _ rfl,⟨(t:Int),rd 2 _ rfl,⟨(b:Int),rd 3 _ rfl,⟨(r:Int),rd 4 _ rfl,⟨?_,?_⟩⟩⟩⟩⟩⟩⟩
  ·refine Uk (YP ha W) hv λdH v16 X E=>⟨X.bV A id,xo λv17 z17 ah hm=>⟨ah.bV (X.bV A id) id,?_⟩⟩;rw[htbd]at E;have hz16:=X.1;refine nw (cs:=[.slice dH.a dH.len dH.cap,.int .i64 (p:Int),.int .i64 (a:Int),.int .i64 (t:Int),.int .i64 (b:Int),.int .i64 (r:Int),.pointer none,.slice none 0 0,.slice none 0 0,.map (some v16.size)]) λv18 z18 ac hb18=>⟨ac.bV (ah.bV (X.bV A id) id) id,hJ _ _ ⟨_,v17.size,dH,v16.size,rfl,Oq (D:=λq=>v2.size<=q/\q<v16.size) (((W.trans X).trans ah).trans ac) O (by rw[hdE];exact hb18) (ac.gS (hm .i64 (.ag 4)) id) ?_ (λb y=>O) O O O,ac.bV (ah.bV (X.bV A id) id) id⟩⟩;exact aH.bK (aH.bK (aH.mono E (G:=λq=>v2.size<=q/\q<v16.size) λb y F=>⟨F,y⟩) ah) ac
  ·refine xo λv19 z19 aa hm=>⟨aa.bV A id,Uk (YP ha (W.trans aa)) hv λdH v20 ab E=>⟨ab.bV (aa.bV A id) id,?_⟩⟩;rw[htbd]at E;have hz20:=ab.1;refine nw (cs:=[.slice dH.a dH.len dH.cap,.int .i64 (p:Int),.int .i64 (a:Int),.int .i64 (t:Int),.int .i64 (b:Int),.int .i64 (r:Int),.pointer none,.slice none 0 0,.slice none 0 0,.map (some v2.size)]) λv21 z21 ad hb21=>⟨ad.bV (ab.bV (aa.bV A id) id) id,hJ _ _ ⟨_,v20.size,dH,v2.size,rfl,Oq (D:=λq=>v19.size<=q/\q<v20.size) (((W.trans aa).trans ab).trans ad) O (by rw[hdE];exact hb21) (ad.gS (ab.gS (hm .i64 (.ag 4)) id) id) ?_ (λb y=>O) O O O,ad.bV (ab.bV (aa.bV A id) id) id⟩⟩;exact aH.bK (aH.mono E (G:=λq=>v19.size<=q/\q<v20.size) λb y F=>⟨F,y⟩) ad
end Go.Ar
namespace Go.Ar
open Go Go.Vc Go.Proofs
variable {σ u w w':Hp}{F B P Q:Rg}{L:dQ}{H:Hw}{t:Nat}{g:Th}
def pM (H:Hw):Prop:=1<=H.cf.aF/\H.cf.threads=H.bR.length/\oV H.tb
end Go.Ar
namespace Go.Ar
open Go Go.Vc Go.Proofs
open Go.Bu (gJ)
variable {σ u w w':Hp}{F B P Q:Rg}{L:dQ}{H H':Hw}{t:Nat}{g:Th}
def Hk (H:Hw)(thread kind size align addr:Int)(H':Hw)(a e:Int):Prop:=
 (KW H thread kind size align addr=.inl e/\e≠0/\H'=H/\a=0)\/∃t p n,KW H thread kind size align addr=.inr (t,p)/\jN n (eV H t (some p)) t p H' a e
theorem E5 (hso:Gw)(h:HH σ F L H)(hv:oV H.tb){thread kind size align addr:Int}{a e:Int}(hw:Hk H thread kind size align addr H' a e){R:Int->Int->Hp->Prop}
 (hR:∀σ' ts',Ext F σ σ'->HH σ' (Grow F σ) {L with ts:=ts'} H'->R a e σ'):XX.c (aW L.p) thread kind size align addr σ R:=by
 rcases hw with⟨hs,hne,rfl,rfl⟩|⟨t,p,n,hs,hr⟩
 ·exact Nd hso h hv thread kind size align addr (λi b _ σ' g d=>by
   rw[hs]at b;cases b;exact hR σ' L.ts g d) λt p b=>by rw[hs]at b;cases b
 ·exact Nd hso h hv thread kind size align addr (λi b=>by rw[hs]at b;cases b) λj m b=>by
   rw[hs]at b;cases b;exact⟨n,H',a,e,hr,hR⟩
theorem π (hso:Gw)(h:HH σ F L H)(hv:oV H.tb){thread size align:Int}{a e:Int}(hw:Hk H thread 0 size align 0 H' a e){R:Int->Int->Hp->Prop}
 (hR:∀σ' ts',Ext F σ σ'->HH σ' (Grow F σ) {L with ts:=ts'} H'->R a e σ'):Yn.c (aW L.p) thread size align σ R:=by
 refine Yn.o ?_;exact E5 hso h hv hw hR
theorem P1 (hso:Gw)(h:HH σ F L H)(hv:oV H.tb){thread addr:Int}{a e:Int}(hw:Hk H thread 1 0 0 addr H' a e){R:aN}
 (hR:∀σ' ts',Ext F σ σ'->HH σ' (Grow F σ) {L with ts:=ts'} H'->R e σ'):Zo.c (aW L.p) thread addr σ R:=by
 refine Zo.o ?_;exact E5 hso h hv hw hR
theorem Γ (hso:Gw)(h:HH σ F L H)(hv:oV H.tb){thread:Int}{a e:Int}(hw:Hk H thread 2 0 0 0 H' a e){R:aN}
 (hR:∀σ' ts',Ext F σ σ'->HH σ' (Grow F σ) {L with ts:=ts'} H'->R e σ'):Zt.c (aW L.p) thread σ R:=by
 refine Zt.o ?_;exact E5 hso h hv hw hR
def Qd (H' H:Hw):Prop:=H'.tb=H.tb/\H'.cf=H.cf/\H'.bR.length=H.bR.length/\H'.bT.length=H.bT.length
theorem Qd.refl (H:Hw):Qd H H:=⟨rfl,rfl,rfl,rfl⟩
theorem Qd.trans {H1 H2 H3:Hw}(a:Qd H2 H1)(b:Qd H3 H2):Qd H3 H1:=⟨b.1.trans a.1,b.2.1.trans a.2.1,b.2.2.1.trans a.2.2.1,b.2.2.2.trans a.2.2.2⟩
theorem KZ (H:Hw)(t:Nat)(f:Th->Th):Qd (H.eA t f) H:=⟨rfl,rfl,by simp[Hw.eA],rfl⟩
theorem Qb (H:Hw)(k:Nat)(A:AR)(sp:Sp):Qd {H.cC k A with sp:=sp} H:=⟨rfl,rfl,rfl,by simp[Hw.cC]⟩
theorem OR (H:Hw)(k:Nat)(part:Nat->List Int)(j:Nat):Qd (Vq H k part (List.range j)) H:=by
 induction j with
 | zero=>exact Qd.refl H
 | succ j ih=>
  rw[VA];split
  ·split
   ·exact ih
   ·exact ih.trans (Qb _ _ _ _)
  ·exact ih
theorem υ (H:Hw)(own k:Nat)(xs:List Int):Qd (Gi H own k xs) H:=by
 unfold Gi;split
 ·split
  ·exact Qb _ _ _ H.sp
  ·refine Qd.trans ?_ (OR _ _ _ _);split
   ·exact Qb _ _ _ H.sp
   ·exact Qd.refl H
 ·exact Qd.refl H
theorem Wk2 (H:Hw)(t k:Nat)(x:Int):Qd (iZ H t k x) H:=by
 unfold iZ;simp only;split<;>split<;>exact⟨rfl,rfl,by simp[Hw.eA,Q2],rfl⟩
theorem PZ (H:Hw)(t:Nat)(p:Ph):Qd (Wt H t p).1 H:=by
 cases p with
 | take k=>simp only[Wt];split<;>exact⟨rfl,rfl,by simp[VW,Q2,Hw.eA,Hw.cC],by simp[VW,Q2,Hw.eA,Hw.cC]⟩
 | cN k w=>
  simp only[Wt];split
  ·split
   ·exact(Qb _ _ _ H.sp).trans (KZ _ _ _)
   ·exact Qd.refl H
  ·exact Qd.refl H
 | cP k w=>
  simp only[Wt];split
  ·exact Qb _ _ _ H.sp
  ·exact(Qb _ _ _ H.sp).trans (KZ _ _ _)
 | grow k w=>simp only[Wt];split<;>exact Qb _ _ _ _
 | fill=>
  simp only[Wt];split
  ·exact⟨rfl,rfl,by simp[VW,Q2,Hw.eA,Hw.cC],by simp[VW,Q2,Hw.eA,Hw.cC]⟩
  ·exact Qd.refl H
 | eU m=>simp only[Wt];split<;>exact⟨rfl,rfl,by simp[VW,Q2,Hw.eA,Hw.cC],by simp[VW,Q2,Hw.eA,Hw.cC]⟩
 | find x=>
  simp only[Wt,Hb];split
  ·exact Qd.refl H
  ·split
   ·exact⟨rfl,rfl,rfl,rfl⟩
   ·exact Qd.trans (H2:={H with live:=Go.Vc.cR H.live x}) ⟨rfl,rfl,rfl,rfl⟩ (KZ _ _ _)
 | put k x=>exact Wk2 H t k x
 | back=>
  simp only[Wt];split
  ·exact(KZ _ _ _).trans (υ _ _ _ _)
  ·exact Qd.refl H
 | dK s a=>
  simp only[Wt];split
  ·exact Qb _ _ _ H.sp
  ·exact Qd.refl H
 | drain=>exact KZ _ _ _
theorem Gz (H:Hw)(t:Nat)(p:Ph):Qd (Q1 H t p) H:=(PZ H t p).trans (KZ _ _ _)
theorem JC {n:Nat}{H H':Hw}{t:Nat}{p:Ph}{a e:Int}(h:jN n H t p H' a e):Qd H' H:=by
 induction h with
 | done=>exact Gz _ _ _
 | next _ _ _ ih=>exact(Gz _ _ _).trans ih
theorem pM.bU (h:pM H)(k:Qd H' H):pM H':=⟨by rw[k.2.1];exact h.1,by rw[k.2.1,k.2.2.1];exact h.2.1,by rw[k.1];exact h.2.2⟩
end Go.Ar
namespace Go.Ar
variable {c:bY}{ss:List cH}
structure dC (c:bY) (ss:List cH):Prop where
 ok:c.ok
 tk:∀s∈ss,s.tk.length=c.n
 uI:ss.Pairwise λa b=>a.st+c.aF<=b.st
def Tk (c:bY)(ss:List cH)(x:Int):Prop:=eI c ss x=some true
def wa (c:bY)(ss:List cH)(p:Nat):Prop:=∃s∈ss,s.st<=p/\p<s.st+c.aF
theorem dC.pos (h:dC c ss):0<c.size:=by have:=h.ok;unfold bY.ok at this;omega
theorem dC.pg (h:dC c ss):1<=c.aF:=by have:=h.ok;unfold bY.ok at this;omega
theorem dC.tL (h:dC c ss):ss.Pairwise λa b=>a.st<b.st:=h.uI.imp λ{a b} d=>by have:=h.pg;omega
theorem dC.xW (h:dC c ss){i j:Nat}{s t:cH}(hi:ss[i]?=some s)(hj:ss[j]?=some t)(hij:i<j):s.st+c.aF<=t.st:=by
 obtain⟨b,rfl⟩:=cQ.1 hi;obtain⟨a,rfl⟩:=cQ.1 hj;exact nB.1 h.uI i j b a hij
theorem dC.BB (h:dC c ss){i j:Nat}{s t:cH}{p:Nat}(hi:ss[i]?=some s)(hj:ss[j]?=some t)(h1:s.st<=p)(h2:p<s.st+c.aF)(h3:t.st<=p)(h4:p<t.st+c.aF):i=j:=by
 rcases ui i j with hl|hl|hl
 ·have:=h.xW hi hj hl;omega
 ·exact hl
 ·have:=h.xW hj hi hl;omega
theorem Cb (hp:0<c.size){s:cH}{i:Nat}(hi:i<c.n):s.st*256<=at_ c s i/\at_ c s i+c.size<=(s.st+c.aF)*256:=by
 have b:=bY.sL c;have a:(i+1)*c.size<=c.n*c.size:=pf _ hi;unfold at_;rw[zc]at a;omega
theorem GM (hp:0<c.size){s:cH}{i x:Nat}(hi:i<c.n)(h1:at_ c s i<=x)(h2:x<at_ c s i+c.size):s.st<=x/256/\x/256<s.st+c.aF:=by
 have:=Cb hp (s:=s) hi;omega
theorem Ut (h:dC c ss){k l:Nat}{s t:cH}{i j x:Nat}(hk:ss[k]?=some s)(hl:ss[l]?=some t)(hi:i<c.n)(hj:j<c.n)(h1:at_ c s i<=x)(h2:x<at_ c s i+c.size)(h3:at_ c t j<=x)(h4:x<at_ c t j+c.size):k=l/\s=t/\i=j:=by
 have a:=GM h.pos hi h1 h2;have b:=GM h.pos hj h3 h4;have e:=h.BB hk hl a.1 a.2 b.1 b.2;subst e;rw[hk]at hl;cases hl;refine⟨rfl,rfl,?_⟩;unfold at_ at *;have d:=h.pos;rcases ui i j with hl|hl|hl
 ·have:(i+1)*c.size<=j*c.size:=pf _ hl;rw[zc]at this;omega
 ·exact hl
 ·have:(j+1)*c.size<=i*c.size:=pf _ hl;rw[zc]at this;omega
theorem Dy (h:dC c ss){s:cH}(hs:s∈ss){x:Int}{i:Nat}(hi:idx c s x=some i):i<c.n/\((s.st*256:Nat):Int)<=x/\x<(((s.st+c.aF)*256:Nat):Int)/\((at_ c s i:Nat):Int)<=x/\x<((at_ c s i+c.size:Nat):Int):=by
 obtain⟨d,b,a⟩:=(Uf h.pos).1 hi;rw[h.tk s hs]at a;have:=Cb h.pos (s:=s) a;have e:at_ c s (i+1)=at_ c s i+c.size:=by unfold at_;rw[zc];omega
 rw[e]at b;omega
theorem JH (h:dC c ss){k:Nat}{s:cH}{x:Int}{i:Nat}(hs:ss[k]?=some s)(hi:idx c s x=some i):nZ c ss x=some k:=by
 obtain⟨m,e⟩:=cQ.1 hs;refine rJ.2 ⟨m,by rw[e,hi];rfl,λj p r=>?_⟩;have d:j<ss.length:=by omega
 obtain⟨u,g⟩:=tf.1 r;have a:=Dy h (zE hs) hi;have b:=Dy h (zf d) g;have:=h.xW (cM d) hs p;omega
theorem Mi (h:dC c ss){x:Int}{b:Bool}:eI c ss x=some b↔∃(k:Nat) (s:cH) (i:Nat),ss[k]?=some s/\i<c.n/\x=((at_ c s i:Nat):Int)/\s.is i=b:=by
 constructor
 ·intro hx;obtain⟨k,s,i,_,a,e,g⟩:=CI hx;obtain⟨m,j⟩:=(UX h.pos).1 e;rw[h.tk s (zE a)]at j;exact⟨k,s,i,a,j,m,g⟩
 ·rintro⟨k,s,i,a,hi,rfl,g⟩;have p:=h.tk s (zE a);have e:obj c s ((at_ c s i:Nat):Int)=some i:=(UX h.pos).2 ⟨rfl,O⟩;have d:idx c s ((at_ c s i:Nat):Int)=some i:=(Uf h.pos).2 ⟨vE _,by have:=h.pos;unfold at_;rw[zc];omega,O⟩;rw[V6 (JH h a d) a,e,←g];rfl
theorem VM (h:dC c ss){x:Int}:Tk c ss x↔∃(k:Nat) (s:cH) (i:Nat),ss[k]?=some s/\i<c.n/\x=((at_ c s i:Nat):Int)/\s.is i=true:=Mi h
theorem NL (h:dC c ss){x:Int}{a:Nat}:uZ c ss x=some a↔∃(k:Nat) (s:cH) (i:Nat),ss[k]?=some s/\i<c.n/\a=at_ c s i/\((at_ c s i:Nat):Int)<=x/\x<((at_ c s i+c.size:Nat):Int):=by
 constructor
 ·intro hf;cases ho:nZ c ss x with
  | none=>rw[Nv ho]at hf;cases hf
  | some k=>
   have j:=(rJ.1 ho).1;have b:ss[k]?=some ss[k]:=cM j;rw[Gb ho b]at hf;obtain⟨i,g,rfl⟩:=uK.1 hf;have:=Dy h (zE b) g;exact⟨k,_,i,b,this.1,rfl,this.2.2.2.1,this.2.2.2.2⟩
 ·rintro⟨k,s,i,b,g,rfl,h1,h2⟩;have m:=h.tk s (zE b);have e:at_ c s (i+1)=at_ c s i+c.size:=by unfold at_;rw[zc];omega
  have d:idx c s x=some i:=(Uf h.pos).2 ⟨h1,by rw[e];exact h2,O⟩;rw[Gb (JH h b d) b,d];rfl
theorem Tk.nat (h:dC c ss){x:Int}(hx:Tk c ss x):∃y:Nat,x=y:=by
 obtain⟨_,s,i,_,_,rfl,_⟩:=(VM h).1 hx;exact⟨_,rfl⟩
theorem dC.put (h:dC c ss){k i:Nat}{s:cH}(hs:ss[k]?=some s)(v:Bool):dC c (ss.set k (s.put i v)):=by
 have r:=(cQ.1 hs).1;refine⟨h.ok,λt p=>?_,?_⟩
 ·rcases AE p with p|rfl
  ·exact h.tk t p
  ·rw[show(s.put i v).tk.length=s.tk.length by simp[cH.put]];exact h.tk s (zE hs)
 ·rw[nB];intro a b ha hb hab;have d:a<ss.length:=by simpa using ha
  have m:b<ss.length:=by simpa using hb
  have g:∀j (hj:j<(ss.set k (s.put i v)).length) (hj':j<ss.length),(ss.set k (s.put i v))[j].st=ss[j].st:=by
   intro j hj hj';rw[List.getElem_set];split
   ·rename_i e;subst e;have:ss[k]=s:=(cQ.1 hs).2;rw[this];rfl
   ·rfl
  rw[g a ha d,g b hb m];exact nB.1 h.uI a b d m hab
theorem JS {k i:Nat}{s:cH}(hs:ss[k]?=some s)(v:Bool):(ss.set k (s.put i v)).map (·.st)=ss.map (·.st):=by
 apply lX;intro j;simp only[zi];by_cases hjk:j=k
 ·subst hjk;rw[zO (cQ.1 hs).1,hs];rfl
 ·rw[zm (Ne.symm hjk)]
theorem EC {s:cH}{i j:Nat}{v:Bool}(hi:i<s.tk.length):(s.put i v).is j=if j=i then v else s.is j:=by
 unfold cH.is cH.put;simp only[zL];by_cases hj:j=i
 ·subst hj;rw[zO hi,zB rfl];rfl
 ·rw[zm (Ne.symm hj),zA hj]
theorem J5 (h:dC c ss){k i:Nat}{s:cH}(hs:ss[k]?=some s)(hi:i<c.n)(v:Bool){y:Int}:Tk c (ss.set k (s.put i v)) y↔(y=((at_ c s i:Nat):Int)/\v=true)\/(y≠((at_ c s i:Nat):Int)/\Tk c ss y):=by
 have b:=(cQ.1 hs).1;have m:=h.tk s (zE hs);have g:=h.pos;rw[VM (h.put hs v),VM h];constructor
 ·rintro⟨l,t,j,ht,hj,rfl,hb⟩;by_cases hlk:l=k
  ·subst hlk;rw[zO b]at ht;cases ht;rw[EC O]at hb;by_cases a:j=i
   ·subst a;rw[zB rfl]at hb;exact .inl ⟨rfl,hb⟩
   ·rw[zA a]at hb;refine .inr ⟨λe=>a ?_,l,s,j,hs,hj,rfl,hb⟩;have d:at_ c s j=at_ c s i:=by have:=Int.ofNat.inj e;exact this
    exact(Ut h hs hs hj hi (zD _) O O O).2.2
  ·rw[zm (Ne.symm hlk)]at ht;refine .inr ⟨λe=>hlk ?_,l,t,j,ht,hj,rfl,hb⟩;have d:at_ c t j=at_ c s i:=Int.ofNat.inj e;exact(Ut h ht hs hj hi (zD _) O O O).1
 ·rintro(⟨rfl,rfl⟩|⟨hne,l,t,j,ht,hj,rfl,hb⟩)
  ·exact⟨k,s.put i true,i,zO b,hi,rfl,by rw[EC O,zB rfl]⟩
  ·by_cases hlk:l=k
   ·subst hlk;rw[hs]at ht;cases ht;have a:j≠i:=λe=>hne (by rw[e]);exact⟨l,s.put i v,j,zO b,hj,rfl,by rw[EC O,zA a];exact hb⟩
   ·exact⟨l,t,j,(zm (Ne.symm hlk)).trans ht,hj,rfl,hb⟩
theorem Jx {p:Nat}:wa c ss p↔∃x∈ss.map (·.st),x<=p/\p<x+c.aF:=by
 constructor
 ·rintro⟨s,a,h⟩;exact⟨_,zC.2 ⟨s,a,rfl⟩,h⟩
 ·rintro⟨x,hx,h⟩;obtain⟨s,a,rfl⟩:=zC.1 hx;exact⟨s,a,h⟩
theorem Wpv {ss':List cH}(e:ss'.map (·.st)=ss.map (·.st)){p:Nat}:wa c ss' p↔wa c ss p:=by rw[Jx,Jx,e]
theorem WhU (h:dC c ss){x:Nat}{ss':List cH}(ho:kE c ss=some (x,ss')):dC c ss'/\ss'.map (·.st)=ss.map (·.st)/\¬Tk c ss (x:Int)/\∀y,Tk c ss' y↔y=(x:Int)\/Tk c ss y:=by
 unfold kE at ho;split at ho
 ·rename_i k hk;obtain⟨_,s,g,u⟩:=QX hk;rw[g]at ho;simp only at ho;split at ho
  ·rename_i i hi;cases ho;obtain⟨r,w,p,m⟩:=Ct u;rw[hi]at w;cases w;have j:i<c.n:=by rw[←h.tk s (zE g)];exact p
   have d:¬Tk c ss ((at_ c s i:Nat):Int):=λa=>by
    have z:=(Mi h (x:=((at_ c s i:Nat):Int)) (b:=false)).2 ⟨k,s,i,g,j,rfl,m⟩;unfold Tk at a;rw[z]at a;cases a
   refine⟨h.put g true,JS g true,d,λy=>?_⟩;rw[J5 h g j];constructor
   ·rintro(⟨e,_⟩|⟨_,a⟩)
    ·exact .inl e
    ·exact .inr a
   ·rintro(e|a)
    ·exact .inl ⟨e,rfl⟩
    ·exact .inr ⟨λe=>d (e▸a),a⟩
  ·cases ho
 ·cases ho
theorem GQ:∀(m:Nat) {ss:List cH},dC c ss->dC c (Ki c m ss).2/\(Ki c m ss).2.map (·.st)=ss.map (·.st)/\(Ki c m ss).1.length<=m/\(Ki c m ss).1.Nodup/\(∀x∈(Ki c m ss).1,¬Tk c ss (x:Int))/\∀y,Tk c (Ki c m ss).2 y↔(∃x∈(Ki c m ss).1,y=((x:Nat):Int))\/Tk c ss y
 | 0,ss,h=>⟨h,rfl,zD _,uE,by simp[Ki],by simp[Ki]⟩
 | m+1,ss,h=>by
  cases ho:kE c ss with
  | none=>
   have e:Ki c (m+1) ss=([],ss):=by simp[Ki,ho]
   rw[e];exact⟨h,rfl,by simp,uE,by simp,by simp⟩
  | some r=>
   obtain⟨x,d⟩:=r;rw[Gk ho];obtain⟨s,p,w,a⟩:=WhU h ho;obtain⟨g,A,B,u,b,j⟩:=GQ m s;refine⟨g,A.trans p,by simp;omega,zr.2 ⟨λz=>b x z ((a _).2 (.inl rfl)),u⟩,?_,λy=>?_⟩
   ·intro y hy;rcases zR.1 hy with rfl|hy
    ·exact w
    ·exact λi=>b y hy ((a _).2 (.inr i))
   ·rw[j,a];simp only[zR,exists_eq_or_imp];constructor
    ·rintro(h|h|h)
     ·exact .inl (.inr h)
     ·exact .inl (.inl h)
     ·exact .inr h
    ·rintro((h|h)|h)
     ·exact .inr (.inl h)
     ·exact .inl h
     ·exact .inr (.inr h)
theorem OA:∀(xs:List Int) {ss:List cH},dC c ss->nK c ss xs->dC c (xs.foldl (fQ c) ss)/\(xs.foldl (fQ c) ss).map (·.st)=ss.map (·.st)/\∀y,Tk c (xs.foldl (fQ c) ss) y↔Tk c ss y/\y∉xs
 | [],ss,h,_=>⟨h,rfl,by simp⟩
 | x::xs,ss,h,hA=>by
  have hx:=hA.1 x aA;obtain⟨k,s,i,m,d,j,_⟩:=CI hx;obtain⟨b,a⟩:=(UX h.pos).1 j;rw[h.tk s (zE d)]at a;have e:=Dk m d j;have u:=h.put d false (i:=i);have g:=hA.next h.pos;obtain⟨p,w,r⟩:=OA xs (ss:=fQ c ss x) (by rw[e];exact u) g;rw[oE];refine⟨p,w.trans (by rw[e];exact JS d false),λy=>?_⟩;rw[r,e,J5 h d a,←b];simp only[zd,and_false,false_or,zR,not_or];constructor
  ·rintro⟨⟨b,a⟩,h3⟩;exact⟨a,b,h3⟩
  ·rintro⟨a,b,h3⟩;exact⟨⟨b,a⟩,h3⟩
theorem Oc {s:cH}(h0:s.many=0)(i:Nat):s.is i=false:=by
 unfold cH.many at h0;rw[yn]at h0;unfold cH.is;rw[zL];cases hi:s.tk[i]? with
 | none=>rfl
 | some b=>
  cases b
  ·rfl
  ·exact absurd (zE hi) h0
theorem dC.cK (h:dC c ss):dC c (Go.Ar.cK ss):=⟨h.ok,λs a=>h.tk s (zF.1 a).1,h.uI.filter _⟩
theorem Ml (h:dC c ss){y:Int}:Tk c (cK ss) y↔Tk c ss y:=by
 rw[VM h.cK,VM h];constructor
 ·rintro⟨k,s,i,hs,hi,rfl,hb⟩;obtain⟨l,a⟩:=zM (zF.1 (zE hs)).1;exact⟨l,s,i,a,hi,rfl,hb⟩
 ·rintro⟨k,s,i,hs,hi,rfl,hb⟩;have:s∈cK ss:=zF.2 ⟨zE hs,by
   have:s.many≠0:=λb=>by rw[Oc b i]at hb;cases hb
   simpa using this⟩
  obtain⟨l,a⟩:=zM this;exact⟨l,s,i,a,hi,rfl,hb⟩
theorem E3 {x:Nat}:x∈Z8 ss↔∃s∈ss,s.many=0/\s.st=x:=by
 unfold Z8;simp only[zC,zF,zY,and_assoc]
theorem Ld (h:dC c ss){p:Nat}:wa c (cK ss) p↔wa c ss p/\¬∃x∈Z8 ss,x<=p/\p<x+c.aF:=by
 constructor
 ·rintro⟨s,hs,h1,h2⟩;have d:=zF.1 hs;refine⟨⟨s,d.1,h1,h2⟩,?_⟩;rintro⟨x,hx,h3,h4⟩;obtain⟨t,m,b,rfl⟩:=E3.1 hx;obtain⟨i,g⟩:=zM d.1;obtain⟨j,a⟩:=zM m;have e:=h.BB g a h1 h2 h3 h4;subst e;rw[g]at a;cases a;simp[b]at d
 ·rintro⟨⟨s,hs,h1,h2⟩,hn⟩;refine⟨s,zF.2 ⟨hs,?_⟩,h1,h2⟩;have:s.many≠0:=λb=>hn ⟨s.st,E3.2 ⟨s,hs,b,rfl⟩,h1,h2⟩;simpa using this
theorem T0 (h:dC c ss):(Z8 ss).Pairwise λa b=>a+c.aF<=b:=by
 unfold Z8;rw[py];exact h.uI.filter _
theorem VH {st:Nat}{t:cH}:t∈iQ c ss st↔t=⟨st,List.replicate c.n false⟩\/t∈ss:=by
 unfold iQ;rw[zU,zR];have:t∈ss↔t∈ss.takeWhile (λs=>decide (s.st<st))\/t∈ss.dropWhile (λs=>decide (s.st<st)):=by
  rw[←zU,FN]
 rw[this];constructor
 ·rintro(h|h|h)
  ·exact .inr (.inl h)
  ·exact .inl h
  ·exact .inr (.inr h)
 ·rintro(h|h|h)
  ·exact .inr (.inl h)
  ·exact .inl h
  ·exact .inr (.inr h)
theorem NI (h:dC c ss){st:Nat}(hd:∀s∈ss,s.st+c.aF<=st\/st+c.aF<=s.st):dC c (iQ c ss st):=by
 refine⟨h.ok,λs m=>?_,?_⟩
 ·rcases VH.1 m with rfl|m
  ·simp
  ·exact h.tk s m
 ·have g:=Gr h.tL st;have r:=h.pg;rw[AY];refine tZ.2 ⟨h.uI.sublist (El _ _),pB.2 ⟨λb e=>?_,h.uI.sublist (Ig _ _)⟩,λa u b e=>?_⟩
  ·obtain⟨i,d⟩:=zM e;rw[zq]at d;have:=g.2 _ _ d;rcases hd b (uV e)with h1|h1
   ·omega
   ·exact h1
  ·obtain⟨i,d⟩:=zM u;rw[zb]at d;split at d
   ·rename_i hlt;rcases zR.1 e with rfl|e
    ·have:=(g.2 _ _ d).2 hlt;rcases hd a (zE d)with h1|h1
     ·exact h1
     ·omega
    ·obtain⟨j,p⟩:=zM e;rw[zq]at p;exact h.xW d p O
   ·cases d
theorem Jt (h:dC c ss){st:Nat}(hd:∀s∈ss,s.st+c.aF<=st\/st+c.aF<=s.st){y:Int}:Tk c (iQ c ss st) y↔Tk c ss y:=by
 rw[VM (NI h hd),VM h];constructor
 ·rintro⟨k,s,i,hs,hi,rfl,hb⟩;rcases VH.1 (zE hs)with rfl|hm
  ·have:(⟨st,List.replicate c.n false⟩:cH).is i=false:=Oc (by simp[cH.many,CX]) i;rw[this]at hb;cases hb
  ·obtain⟨l,a⟩:=zM hm;exact⟨l,s,i,a,hi,rfl,hb⟩
 ·rintro⟨k,s,i,hs,hi,rfl,hb⟩;obtain⟨l,a⟩:=zM (VH.2 (.inr (zE hs)):s∈iQ c ss st);exact⟨l,s,i,a,hi,rfl,hb⟩
theorem Pj {st:Nat}(hd:∀s∈ss,s.st+c.aF<=st\/st+c.aF<=s.st):G5 c ss st=0:=by
 unfold G5;rw[zA];simp only[zw,zV,not_exists,not_and];intro s hs hlt;rcases hd s hs with h|h<;>omega
def qR (c:bY)(ss:List cH):List Nat:=ss.flatMap λs=>((List.range c.n).filter λi=>s.is i).map (at_ c s)
theorem Rx (h:dC c ss){x:Nat}:x∈qR c ss↔Tk c ss (x:Int):=by
 rw[VM h];simp only[qR,tv,zC,zF,zQ];constructor
 ·rintro⟨s,hs,i,⟨hi,hb⟩,rfl⟩;obtain⟨k,a⟩:=zM hs;exact⟨k,s,i,a,hi,rfl,hb⟩
 ·rintro⟨k,s,i,hs,hi,e,hb⟩;exact⟨s,zE hs,i,⟨hi,hb⟩,(Int.ofNat.inj e).symm⟩
theorem Rv (h:dC c ss):(qR c ss).Nodup:=by
 have m:=h.pos;have p:∀l:List cH,l.Pairwise (λa b=>a.st+c.aF<=b.st)->(qR c l).Nodup:=by
  intro l
  induction l with
  | nil=>intro _;exact uE
  | cons s l ih=>
   intro d;have d:=pB.1 d;have e:qR c (s::l)=((List.range c.n).filter λi=>s.is i).map (at_ c s)++qR c l:=rfl;rw[e,qQ];refine⟨?_,ih d.2,?_⟩
   ·refine List.Pairwise.map (R:=(· ≠ ·)) (at_ c s) (λa b g e=>g ?_) (List.nodup_range.filter _);unfold at_ at e;have:=yB m (Nat.add_left_cancel e);exact this
   ·intro a ha b hb e;subst e;obtain⟨i,r,rfl⟩:=zC.1 ha;simp only[qR,tv,zC,zF,zQ]at hb r;obtain⟨t,u,j,⟨w,_⟩,y⟩:=hb;have A:=Cb m (s:=s) r.1;have x:=Cb m (s:=t) w;have z:=d.1 t u;omega
 exact p ss h.uI
theorem WlE {n:Nat}{s:cH}(h:s.tk.length=n):((List.range n).filter λi=>s.is i).length=s.many:=by
 unfold cH.many;have key:∀l:List Bool,((List.range l.length).filter λi=>l.getD i false).length=l.count true:=by
  intro l
  induction l with
  | nil=>rfl
  | cons b l ih=>
   rw[zN,y6,sA,List.filter_map,yS];have e:(List.range l.length).filter ((λi=>(b::l).getD i false)∘Nat.succ)=(List.range l.length).filter λi=>l.getD i false:=by
    apply yE;intro x _;simp[zL]
   have a:(List.filter ((λi=>(b::l).getD i false)∘Nat.succ) (List.range l.length)).length=l.count true:=by rw[e];exact ih
   cases b
   ·rw[zA aA,zX,a];simp
   ·rw[zB aA,zN,zX,a];simp
 rw[←h];exact key s.tk
theorem Wnv (h:dC c ss):(qR c ss).length=(ss.map (·.many)).sum:=by
 have a:∀l:List cH,(∀s∈l,s.tk.length=c.n)->(qR c l).length=(l.map (·.many)).sum:=by
  intro l
  induction l with
  | nil=>intro _;rfl
  | cons s l ih=>
   intro hl;have e:qR c (s::l)=((List.range c.n).filter λi=>s.is i).map (at_ c s)++qR c l:=rfl;rw[e,zK,zX,WlE (hl s aA),ih λt b=>hl t (by simp[b])];simp
 exact a ss h.tk
theorem Whs (h:dC c ss):Q6 ss+(qR c ss).length=ss.length*c.n:=by
 rw[Wnv h];have a:∀l:List cH,(∀s∈l,s.tk.length=c.n)->Q6 l+(l.map (·.many)).sum=l.length*c.n:=by
  intro l
  induction l with
  | nil=>intro _;simp[Q6]
  | cons s l ih=>
   intro hl;have e:=ih λt b=>hl t (by simp[b]);have d:=hl s aA;have g:=HT s;simp only[Q6,zH,zS,zN,zc,Ag]at *;omega
 exact a ss h.tk
end Go.Ar
namespace Go.Ar
open Go.Bu (Zg QW lU Zv uo iR Vs Uj dK take Kw Ku Bounded)
def gf (st:List Nat)(p:Nat):Nat:=st.getD p 0
def AR.f (A:AR)(p:Nat):Nat:=gf A.st p
def jG (rs:List (Nat×Nat))(p:Nat):Prop:=∃r∈rs,r.1<=p/\p<r.1+r.2
theorem J8 {st:List Nat}{p:Nat}(h:gf st p≠0):p<st.length:=by
 apply Classical.byContradiction;intro hn;exact h (by unfold gf;rw[zL,za O];rfl)
theorem HM {st:List Nat}{a b v p:Nat}(hb:b<=st.length):gf (fX st a b v) p=if a<=p/\p<b then v else gf st p:=by
 unfold gf;rw[zL,zL,HJ];by_cases hp:p<st.length
 ·rw[cM hp];simp only[zj,sS]
 ·rw[za O,zA O];rfl
theorem Vx {n a m:Nat}:Zg n (a:Int) (m:Int)=true↔1<=m/\a+m<=n:=by
 simp only[Zg,zG,zV];omega
theorem On {st:List Nat}{a m:Nat}{fr:List Nat}(hl:a+m<=st.length):yi st a m fr=true↔∀p,a<=p->p<a+m->gf st p∈fr:=by
 unfold yi;rw[nD];constructor
 ·intro h p h1 h2;have d:p<st.length:=by omega
  have:st[p]∈(st.drop a).take m:=by
   refine zE (i:=p-a) ?_;rw[zb,zB O,zq,show a+(p-a)=p by omega,cM d]
  have:=h _ this;unfold gf;rw[zL,cM d];simpa using this
 ·intro h x hx;obtain⟨i,b⟩:=zM hx;rw[zb]at b;split at b
  ·rename_i hlt;rw[zq]at b;have:=h (a+i) O O;unfold gf at this;rw[zL,b]at this;simpa using this
  ·cases b
theorem EK {st:List Nat}{a m v:Nat}{fr:List Nat}(h1:1<=m)(hl:a+m<=st.length)(h:∀p,a<=p->p<a+m->gf st p∈fr):V8 st (a:Int) (m:Int) v fr=fX st a (a+m) v:=by
 unfold V8 sr;rw[zB (Vx.2 ⟨h1,hl⟩),dE,dE,(On hl).2 h];rfl
theorem Wiq {st:List Nat}{a m v:Nat}(hl:a+m<=st.length):BX st a m v=false↔∀p,a<=p->p<a+m->gf st p≠v:=by
 have:=On (fr:=[v]) hl;unfold BX;constructor
 ·intro h p h1 h2 e;have d:p<st.length:=by omega
  have g:st[p]∈(st.drop a).take m:=by
   refine zE (i:=p-a) ?_;rw[zb,zB O,zq,show a+(p-a)=p by omega,cM d]
  have j:st[p]=v:=by
   unfold gf at e;rw[zL,cM d]at e;exact e
  rw[j]at g;rw[xU.2 g]at h;cases h
 ·intro h;apply qd.2;intro hc;obtain⟨i,b⟩:=zM (xU.1 hc);rw[zb]at b;split at b
  ·rename_i hlt;rw[zq]at b;refine h (a+i) O O ?_;unfold gf;rw[zL,b];rfl
  ·cases b
structure PG (A:AR):Prop where
 len:A.st.length=A.n
 n1:32<=A.n
 n2:A.n<=1024
 n16:A.n%16=0
 le:∀p,A.f p<=3
 us:∀p,A.f p=1↔A.ow p≠0
 fr:∀p,A.S p=true↔2<=A.f p
 hp:∀p,A.f p=0↔A.f (p/16*16)=0
theorem PG.lt {A:AR}(h:PG A){p:Nat}(hp:A.f p≠0):p<A.n:=h.len▸J8 hp
theorem PG.kU {A:AR}(h:PG A):Bounded A.S A.n:=λp a=>h.lt (by have:=(h.fr p).1 a;omega)
theorem PG.mC {A:AR}(h:PG A){p q:Nat}(e:p/16=q/16):A.f p=0↔A.f q=0:=by rw[h.hp p,h.hp q,e]
theorem PG.same {A B:AR}(h:PG A)(e1:B.n=A.n)(e2:B.st=A.st)(e3:B.S=A.S)(e4:B.ow=A.ow):PG B:=by
 have a:∀p,B.f p=A.f p:=λp=>by unfold AR.f;rw[e2]
 exact⟨by rw[e2,e1];exact h.len,by rw[e1];exact h.n1,by rw[e1];exact h.n2,by rw[e1];exact h.n16,λp=>by rw[a];exact h.le p,λp=>by rw[a,e4];exact h.us p,λp=>by rw[a,e3];exact h.fr p,λp=>by rw[a,a];exact h.hp p⟩
theorem Lr {ow:Nat->Nat}{a m no:Nat}(h1:1<=m)(h2:a+m<=1024)(p:Nat):lV ow a m no p=if a<=p/\p<a+m then no else ow p:=by
 unfold lV;rw[zB (Vx.2 ⟨h1,h2⟩)]
theorem I2 {n:Nat}{S:Nat->Bool}{a m:Nat}(h1:1<=m)(h2:a+m<=n)(h:∀p,a<=p->p<a+m->S p=false):QW n S (a:Int) (m:Int)=dK S a (a+m):=by
 unfold QW;rw[Vx.2 ⟨h1,h2⟩,dE,dE,Vs.2 h];rfl
theorem WmP {n:Nat}{S:Nat->Bool}{a m:Nat}(h1:1<=m)(h2:a+m<=n)(h:∀p,a<=p->p<a+m->S p=true):lU n S (a:Int) (m:Int)=take S a (a+m):=by
 unfold lU;rw[Vx.2 ⟨h1,h2⟩,dE,dE,Uj.2 h];rfl
structure Out (A B:AR) (a b:Nat):Prop where
 n:B.n=A.n
 len:B.st.length=A.st.length
 f:∀p,¬(a<=p/\p<b)->B.f p=A.f p
 ow:∀p,¬(a<=p/\p<b)->B.ow p=A.ow p
 S:∀p,¬(a<=p/\p<b)->B.S p=A.S p
theorem Out.pg {A B:AR}{a b v:Nat}(o:Out A B a b)(h:PG A)(hv:v<=3)(hf:∀p,a<=p->p<b->B.f p=v)(hw:∀p,a<=p->p<b->(v=1↔B.ow p≠0))(hS:∀p,a<=p->p<b->(B.S p=true↔2<=v))
 (hz:∀p,B.f p=0↔B.f (p/16*16)=0):PG B:=by
 refine⟨by rw[o.len,o.n];exact h.len,by rw[o.n];exact h.n1,by rw[o.n];exact h.n2,by rw[o.n];exact h.n16,λp=>?_,λp=>?_,λp=>?_,hz⟩
 ·by_cases hp:a<=p/\p<b
  ·rw[hf p hp.1 hp.2];exact hv
  ·rw[o.f p hp];exact h.le p
 ·by_cases hp:a<=p/\p<b
  ·rw[hf p hp.1 hp.2];exact hw p hp.1 hp.2
  ·rw[o.f p hp,o.ow p hp];exact h.us p
 ·by_cases hp:a<=p/\p<b
  ·rw[hf p hp.1 hp.2];exact hS p hp.1 hp.2
  ·rw[o.f p hp,o.S p hp];exact h.fr p
theorem Out.zero {A B:AR}{a b v:Nat}(o:Out A B a b)(h:PG A)(hf:∀p,a<=p->p<b->B.f p=v)(hv:v≠0)(hA:∀p,a<=p->p<b->A.f p≠0):∀p,B.f p=0↔A.f p=0:=by
 intro p;by_cases hp:a<=p/\p<b
 ·rw[hf p hp.1 hp.2];exact⟨λe=>(hv e).elim,λe=>(hA p hp.1 hp.2 e).elim⟩
 ·rw[o.f p hp]
theorem IA {A B:AR}(h:PG A)(e:∀p,B.f p=0↔A.f p=0):∀p,B.f p=0↔B.f (p/16*16)=0:=λp=>by rw[e,e];exact h.hp p
theorem Lw {A:AR}(h:PG A){a m:Nat}(h1:1<=m)(hu:∀p,a<=p->p<a+m->A.f p=1):Out A (Ui A (a,m)) a (a+m)/\(∀p,a<=p->p<a+m->(Ui A (a,m)).f p=2/\(Ui A (a,m)).ow p=0)/\PG (Ui A (a,m))/\∀p,(Ui A (a,m)).f p=0↔A.f p=0:=by
 have g:a+m<=A.n:=by have:=h.lt (p:=a+m-1) (by rw[hu _ O O];omega);omega
 have y:=h.n2;have x:(Ui A (a,m)).st=fX A.st a (a+m) 2:=EK h1 (by rw[h.len];exact g) λp d b=>by
  have:=hu p d b;unfold AR.f at this;rw[this];simp
 have r:(Ui A (a,m)).S=dK A.S a (a+m):=I2 h1 g λp d b=>by
  apply qd.2;intro hS;have:=(h.fr p).1 hS;have:=hu p d b;omega
 have s:∀p,(Ui A (a,m)).ow p=if a<=p/\p<a+m then 0 else A.ow p:=λp=>Lr h1 O p
 have u:∀p,(Ui A (a,m)).f p=if a<=p/\p<a+m then 2 else A.f p:=λp=>by unfold AR.f;rw[x,HM (by rw[h.len];exact g)]
 have o:Out A (Ui A (a,m)) a (a+m):=⟨rfl,by rw[x,Qp],λp e=>by rw[u,zA e],λp e=>by rw[s,zA e],λp e=>by
  rw[r];unfold dK;have:(decide (a<=p)&&decide (p<a+m))=false:=by simp;omega
  rw[this,Bool.or_false]⟩
 have i:∀p,a<=p->p<a+m->(Ui A (a,m)).f p=2:=λp d b=>by rw[u,zB ⟨d,b⟩]
 have w:∀p,a<=p->p<a+m->(Ui A (a,m)).ow p=0:=λp d b=>by rw[s,zB ⟨d,b⟩]
 have j:=o.zero h i O λp d b=>by rw[hu p d b];omega
 refine⟨o,λp d b=>⟨i p d b,w p d b⟩,o.pg h O i (λp d b=>by rw[w p d b];simp) (λp d b=>?_) (IA h j),j⟩;rw[r,Kw];exact⟨λ_=>zD _,λ_=>.inr ⟨d,b⟩⟩
structure we (A B:AR) (rs:List (Nat×Nat)):Prop where
 pg:PG B
 n:B.n=A.n
 tb:B.tb=A.tb
 room:B.room=A.room
 cE:B.cE=A.cE
 cB:B.cB=A.cB
 runs:B.runs=A.runs
 i:∀p,jG rs p->B.f p=2/\B.ow p=0
 o:∀p,¬jG rs p->B.f p=A.f p/\B.ow p=A.ow p
 z:∀p,B.f p=0↔A.f p=0
theorem Lu:∀(rs:List (Nat×Nat)) {A:AR},PG A->(∀r∈rs,1<=r.2)->(∀r∈rs,∀p,r.1<=p->p<r.1+r.2->A.f p=1)->rs.Pairwise (λa b=>a.1+a.2<=b.1\/b.1+b.2<=a.1)->we A (VZ A rs) rs
 | [],A,h,_,_,_=>⟨h,rfl,rfl,rfl,rfl,rfl,rfl,λp ⟨r,hr,_⟩=>by simp at hr,λp _=>⟨rfl,rfl⟩,λp=>Iff.rfl⟩
 | (a,m)::rs,A,h,hp,hu,hd=>by
  have hd':=pB.1 hd;obtain⟨o,C,w,B⟩:=Lw h (hp _ (nE ..)) (hu _ (nE ..));have d:=Lu rs w (λr hr=>hp r (mJ _ hr)) (λr hr p u s=>by
   have:=hd'.1 r hr;simp only at this;rw[o.f p O];exact hu r (mJ _ hr) p u s) hd'.2
  have e:VZ A ((a,m)::rs)=VZ (Ui A (a,m)) rs:=rfl;rw[e];refine⟨d.pg,d.n,d.tb,d.room,d.cE,d.cB,d.runs,λp g=>?_,λp g=>?_,λp=>(d.z p).trans (B p)⟩
  ·by_cases j:jG rs p
   ·exact d.i p j
   ·have:=d.o p j;obtain⟨r,hr,u,s⟩:=g;rcases zR.1 hr with rfl|hr
    ·rw[this.1,this.2];exact C p u s
    ·exact(j ⟨r,hr,u,s⟩).elim
  ·have j:¬jG rs p:=λ⟨r,hr,x⟩=>g ⟨r,mJ _ hr,x⟩;have y:¬(a<=p/\p<a+m):=λx=>g ⟨(a,m),nE ..,x⟩;have:=d.o p j;exact⟨this.1.trans (o.f p y),this.2.trans (o.ow p y)⟩
theorem Ib {A:AR}(h:PG A){a m no:Nat}(h1:1<=m)(hn:no≠0)(hS:∀p,a<=p->p<a+m->A.S p=true):Out A (dU A a m no) a (a+m)/\(∀p,a<=p->p<a+m->(dU A a m no).f p=1/\(dU A a m no).ow p=no)/\PG (dU A a m no)/\∀p,(dU A a m no).f p=0↔A.f p=0:=by
 have i:∀p,a<=p->p<a+m->2<=A.f p:=λp d b=>(h.fr p).1 (hS p d b);have u:a+m<=A.n:=by have:=h.lt (p:=a+m-1) (by have:=i (a+m-1) O O;omega);omega
 have B:=h.n2;have x:(dU A a m no).st=fX A.st a (a+m) 1:=EK h1 (by rw[h.len];exact u) λp d b=>by
  have y:=i p d b;have z:=h.le p;unfold AR.f at y z;have:gf A.st p=2\/gf A.st p=3:=by omega
  simpa using this
 have r:∀p,(dU A a m no).ow p=if a<=p/\p<a+m then no else A.ow p:=λp=>Lr h1 O p
 have s:∀p,(dU A a m no).f p=if a<=p/\p<a+m then 1 else A.f p:=λp=>by unfold AR.f;rw[x,HM (by rw[h.len];exact u)]
 have o:Out A (dU A a m no) a (a+m):=⟨rfl,by rw[x,Qp],λp e=>by rw[s,zA e],λp e=>by rw[r,zA e],λp e=>by
  show take A.S a (a+m) p=A.S p;unfold take;have:(decide (a<=p)&&decide (p<a+m))=false:=by simp;omega
  rw[this];simp⟩
 have g:∀p,a<=p->p<a+m->(dU A a m no).f p=1:=λp d b=>by rw[s,zB ⟨d,b⟩]
 have w:∀p,a<=p->p<a+m->(dU A a m no).ow p=no:=λp d b=>by rw[r,zB ⟨d,b⟩]
 have j:=o.zero h g O λp d b=>by have:=i p d b;omega
 refine⟨o,λp d b=>⟨g p d b,w p d b⟩,o.pg h O g (λp d b=>by rw[w p d b];simp[hn]) (λp d b=>?_) (IA h j),j⟩;show take A.S a (a+m) p=true↔_;rw[Ku];constructor
 ·rintro⟨_,hx⟩;exact(hx ⟨d,b⟩).elim
 ·intro hx;omega
theorem Oh:∀(m:Nat) {st:List Nat} {a:Nat},(a+m)*16<=st.length->(∀p,a*16<=p->p<(a+m)*16->gf st p=0)->(U2 st a m).length=st.length/\∀p,gf (U2 st a m) p=if a*16<=p/\p<(a+m)*16 then 3 else gf st p
 | 0,st,a,hl,hz=>⟨rfl,λp=>by rw[zA O];rfl⟩
 | m+1,st,a,hl,hz=>by
  obtain⟨i1,i2⟩:=Oh m (st:=st) (a:=a) O λp d g=>hz p d O;rw[NR];have b:gf (U2 st a m) (16*(a+m))=0:=by rw[i2,zA O];exact hz _ O O
  have ok:nU (U2 st a m) ((a+m:Nat):Int)=0:=by
   unfold nU;rw[UV (by rw[i1];omega),zB rfl,dE];unfold gf at b;rw[zB b]
  have e:kN (U2 st a m) ((a+m:Nat):Int)=fX (U2 st a m) (16*(a+m)) (16*(a+m)+16) 3:=by
   unfold kN;rw[zB ok,dE]
  rw[e];refine⟨by rw[Qp,i1],λp=>?_⟩;rw[HM (by rw[i1];omega),i2];by_cases h1:16*(a+m)<=p/\p<16*(a+m)+16
  ·rw[zB h1,zB O]
  ·rw[zA h1];by_cases h2:a*16<=p/\p<(a+m)*16
   ·rw[zB h2,zB O]
   ·rw[zA h2,zA O]
theorem DW {sp:Sp}{s m:Nat}(h:fI sp (s:Int) (m:Int)=0):1<=m/\s+m<=sp.st.length/\∀p,s<=p->p<s+m->gf sp.st p=0:=by
 unfold fI at h;split at h
 ·rename_i hr;obtain⟨d,b⟩:=Vx.1 hr;rw[dE,dE]at h;split at h
  ·cases h
  ·rename_i hn;refine⟨d,b,λp j g=>?_⟩;have a:p<sp.st.length:=by omega
   have e:sp.st[p]∈(sp.st.drop s).take m:=by
    refine zE (i:=p-s) ?_;rw[zb,zB O,zq,show s+(p-s)=p by omega,cM a]
   simp only[zw,not_exists,not_and]at hn;have:=hn _ e;unfold gf;rw[zL,cM a];simpa using this
 ·cases h
structure Grown (A B:AR) (sp sp':Sp) (s size:Nat):Prop where
 pg:PG B
 n:B.n=A.n
 tb:B.tb=A.tb
 room:B.room=A.room
 cE:B.cE=A.cE
 cB:B.cB=A.cB
 runs:B.runs=A.runs
 ow:B.ow=A.ow
 s16:s%16=0
 s1:16<=s
 sl:s+size<=A.n
 un:∀p,s<=p->p<s+size->gf sp.st p=0
 i:∀p,s<=p->p<s+size->B.f p=3/\gf sp'.st p=1
 o:∀p,¬(s<=p/\p<s+size)->B.f p=A.f p/\gf sp'.st p=gf sp.st p
 w:∀x,¬(s*32<=x/\x<(s+size)*32)->sp'.wd x=sp.wd x
 l:sp'.st.length=sp.st.length
 pk:sp'.pk=sp.pk
theorem U3 {sp:Sp}{size s:Nat}(h1:1<=size)(h:cZ sp size=some s):fI sp (s:Int) (size:Int)=0/\s≠0/\(∃j,s=j*size)/\∀j,j*size<s->1<=j->fI sp ((j*size:Nat):Int) (size:Int)≠0:=by
 unfold cZ at h;obtain⟨p,us,vs,u,A⟩:=List.find?_eq_some_iff_append.1 h;simp only[zG,bne_iff_ne,ne_eq,zY]at p;have e:s∈(List.range (sp.st.length/size)).map (· * size):=by rw[u];simp
 obtain⟨j,y,rfl⟩:=zC.1 e;rw[zQ]at y;refine⟨p.2,p.1,⟨j,rfl⟩,λi w x=>?_⟩;have z:i<j:=Nat.lt_of_mul_lt_mul_right w;have:i*size∈us:=by
  have g:i*size∈(List.range (sp.st.length/size)).map (· * size):=zC.2 ⟨i,zQ.2 O,rfl⟩;have d:((List.range (sp.st.length/size)).map (· * size)).Pairwise (· < ·):=by
   rw[py];exact List.pairwise_lt_range.imp λ{a b} m=>Nat.mul_lt_mul_of_pos_right m O
  rw[u]at g d;rcases zU.1 g with h|h
  ·exact h
  ·rcases zR.1 h with h|h
   ·have:=yB O h;omega
   ·have:=(pB.1 (tZ.1 d).2.1).1 _ h;omega
 have:=A _ this;have r:i*size≠0:=by
  have:=Nat.mul_pos (show 0<i by omega) (show 0<size by omega);omega
 simpa[r]using this
theorem Nt {sp:Sp}{s m:Nat}(h:fI sp (s:Int) (m:Int)=0):(gI sp (s:Int) (m:Int)).st.length=sp.st.length/\(∀p,gf (gI sp (s:Int) (m:Int)).st p=if s<=p/\p<s+m then 1 else gf sp.st p)/\(∀x,¬(s*32<=x/\x<(s+m)*32)->(gI sp (s:Int) (m:Int)).wd x=sp.wd x)/\(gI sp (s:Int) (m:Int)).pk=sp.pk:=by
 obtain⟨d,a,_⟩:=DW h;unfold gI;rw[zB h,dE,dE];refine⟨by simp[Sp.set,Qp],λp=>HM a,λx b=>?_,rfl⟩;show(if s*32<=x/\x<(s+m)*32 then 0 else sp.wd x)=_
 rw[zA b]
theorem O7 {A:AR}{sp:Sp}(h:PG A)(hl:sp.st.length=A.n)(hz:∀p,gf sp.st p=0->A.f p=0){size:Nat}(hs:size=16\/size=32\/size=64){B:AR}{sp':Sp}(hg:UZ A sp size=some (B,sp')) :
 ∃s,cZ sp size=some s/\Grown A B sp sp' s size:=by
 unfold UZ at hg;split at hg
 ·cases hg
 ·rename_i s hgs;cases hg;obtain⟨D,G,⟨j,M⟩,_⟩:=U3 O hgs;obtain⟨L,x,y⟩:=DW D;have r:s%16=0:=by rcases hs with rfl|rfl|rfl<;>omega
  have w:size%16=0:=by rcases hs with rfl|rfl|rfl<;>omega
  have C:s/16*16=s:=by omega
  have m:(s/16+size/16)*16=s+size:=by omega
  have e:∀p,s<=p->p<s+size->A.f p=0:=λp d b=>hz p (y p d b);obtain⟨H,i⟩:=Oh (size/16) (st:=A.st) (a:=s/16) (by rw[m,h.len,←hl];exact x) (by rw[C,m];exact e);rw[C,m]at i;obtain⟨K,E,F,J⟩:=Nt D;have g:s+size<=A.n:=by rw[←hl];exact x
  have z:QW A.n A.S (s:Int) (size:Int)=dK A.S s (s+size):=I2 L g λp d b=>by
   apply qd.2;intro hS;have:=(h.fr p).1 hS;have:=e p d b;omega
  refine⟨s,hgs,⟨?_,rfl,rfl,rfl,rfl,rfl,rfl,rfl,r,O,g,y,λp d b=>⟨?_,?_⟩,λp hp=>⟨?_,?_⟩,F,K,J⟩⟩
  ·have o:Out A {A with st:=U2 A.st (s/16) (size/16),S:=QW A.n A.S (s:Int) (size:Int)} s (s+size):=⟨rfl,H,λp hp=>by show gf _ p=_;rw[i,zA hp];rfl,λp hp=>rfl,λp hp=>by
    show QW A.n A.S (s:Int) (size:Int) p=A.S p;rw[z];unfold dK;have:(decide (s<=p)&&decide (p<s+size))=false:=by simp;omega
    rw[this,Bool.or_false]⟩
   have u:∀p,s<=p->p<s+size->AR.f {A with st:=U2 A.st (s/16) (size/16),S:=QW A.n A.S (s:Int) (size:Int)} p=3:=λp d b=>by show gf _ p=3;rw[i,zB ⟨d,b⟩]
   refine o.pg h (zD _) u (λp d b=>?_) (λp d b=>?_) λp=>?_
   ·have G:=e p d b;have:=h.us p;constructor
    ·intro hx;omega
    ·intro hx;have:=this.2 hx;omega
   ·show QW A.n A.S (s:Int) (size:Int) p=true↔_;rw[z,Kw];exact⟨λ_=>O,λ_=>.inr ⟨d,b⟩⟩
   ·by_cases hp:s<=p/\p<s+size
    ·rw[u p hp.1 hp.2,u (p/16*16) O O]
    ·rw[o.f p hp,o.f (p/16*16) O];exact h.hp p
  ·show gf (U2 A.st (s/16) (size/16)) p=3;rw[i,zB ⟨d,b⟩]
  ·rw[E,zB ⟨d,b⟩]
  ·show gf (U2 A.st (s/16) (size/16)) p=A.f p;rw[i,zA hp];rfl
  ·rw[E,zA hp]
end Go.Ar
namespace Go.Ar
open Go.Bu (Zg QW lU Zv uo iR Vs Uj dK take Kw Ku Bounded full can YQ VY ZM QY ZS Kx QZ Qc)
def Cl (A:AR)(k:Nat)(c:bY)(ss:List cH):Prop:=A.tb[k]?=some c/\A.cB[k]?=some ss
def fA (A:AR)(k:Nat)(x:Int):Prop:=∃c ss,Cl A k c ss/\Tk c ss x
def iI (A:AR)(k:Nat)(x:Int):Prop:=∃t,A.cE[k]?=some t/\x∈t.bs.flatten
structure GA (A:AR):Prop where
 pg:PG A
 tb:A.tb.length<=40
 lc:A.cB.length=A.tb.length
 lt:A.cE.length=A.tb.length
 cB:∀k c ss,Cl A k c ss->dC c ss
 one:∀k c ss,Cl A k c ss->∀s∈ss,s.st/16=(s.st+c.aF-1)/16
 ow:∀k c ss,Cl A k c ss->∀p,A.ow p=k+1↔wa c ss p
 kB:∀p,A.ow p=41↔jG A.runs p
 tE:∀p,A.ow p=41\/A.ow p<=A.tb.length
 gC:∀r∈A.runs,1<=r.2
 kM:A.runs.Pairwise λa b=>a.1+a.2<=b.1\/b.1+b.2<=a.1
 rQ:∀(k:Nat) (t:fT),A.cE[k]?=some t->t.bs.flatten.Nodup
 nV:∀(k:Nat) c ss (t:fT),Cl A k c ss->A.cE[k]?=some t->∀x∈t.bs.flatten,Tk c ss x
 rj:∀(k:Nat) (c:bY) (t:fT),A.tb[k]?=some c->A.cE[k]?=some t->∀xs∈t.bs,xs.length=c.batch
structure Kp (A B:AR):Prop where
 n:B.n=A.n
 tb:B.tb=A.tb
 room:B.room=A.room
 z:∀p,B.f p=0↔A.f p=0
 t:∀p,B.f p=3->A.f p=3
theorem Kp.refl (A:AR):Kp A A:=⟨rfl,rfl,rfl,λ_=>Iff.rfl,λ_=>id⟩
theorem Kp.trans {A B C:AR}(h:Kp A B)(k:Kp B C):Kp A C:=⟨k.n.trans h.n,k.tb.trans h.tb,k.room.trans h.room,λp=>(k.z p).trans (h.z p),λp a=>h.t p (k.t p a)⟩
theorem Kp.aF {A B:AR}(e1:B.n=A.n)(e2:B.tb=A.tb)(e3:B.room=A.room)(e4:B.st=A.st):Kp A B:=⟨e1,e2,e3,λp=>by unfold AR.f;rw[e4],λp=>by unfold AR.f;rw[e4];exact id⟩
variable {A:AR}{k:Nat}{c:bY}{ss:List cH}
theorem Cl.lt (h:Cl A k c ss):k<A.tb.length:=(cQ.1 h.1).1
theorem Cl.eq {c':bY}{ss':List cH}(h:Cl A k c ss)(h':Cl A k c' ss'):c=c'/\ss=ss':=⟨Option.some.inj (h.1.symm.trans h'.1),Option.some.inj (h.2.symm.trans h'.2)⟩
theorem GA.cl (h:GA A){k:Nat}(hk:k<A.tb.length):∃c ss t,Cl A k c ss/\A.cE[k]?=some t:=by
 have b:=h.lc;have a:=h.lt;exact⟨A.tb[k],A.cB[k],A.cE[k],⟨by simp,by simp⟩,by simp⟩
theorem GA.used (h:GA A)(hk:Cl A k c ss){s:cH}(hs:s∈ss){p:Nat}(h1:s.st<=p)(h2:p<s.st+c.aF):A.f p=1/\A.ow p=k+1:=by
 have:=(h.ow k c ss hk p).2 ⟨s,hs,h1,h2⟩;exact⟨(h.pg.us p).2 O,this⟩
theorem GA.kP (h:GA A){r:Nat×Nat}(hr:r∈A.runs){p:Nat}(h1:r.1<=p)(h2:p<r.1+r.2):A.f p=1/\A.ow p=41:=by
 have:=(h.kB p).2 ⟨r,hr,h1,h2⟩;exact⟨(h.pg.us p).2 O,this⟩
theorem GA.gN (h:GA A){r s:Nat×Nat}(hr:r∈A.runs)(hs:s∈A.runs){x:Nat}(h1:r.1<=x)(h2:x<r.1+r.2)(h3:s.1<=x)(h4:x<s.1+s.2):r=s:=by
 obtain⟨i,e⟩:=zM hr;obtain⟨j,d⟩:=zM hs;obtain⟨a,rfl⟩:=cQ.1 e;obtain⟨b,rfl⟩:=cQ.1 d;rcases ui i j with hl|hl|hl
 ·have:=nB.1 h.kM i j a b hl;omega
 ·subst hl;rfl
 ·have:=nB.1 h.kM j i b a hl;omega
theorem GA.fit (h:GA A){r:Nat×Nat}(hr:r∈A.runs):r.1+r.2<=A.n:=by
 have:=h.gC r hr;have:=h.pg.lt (p:=r.1+r.2-1) (by rw[(h.kP hr (p:=r.1+r.2-1) O O).1];omega);omega
theorem GA.tU (h:GA A):jR A:=by
 have w:=h.pg.n2;refine⟨λr b s m x g d i j=>h.gN b m g d i j,λx p a=>?_,λx p u a=>?_,λr b=>?_⟩
 ·obtain⟨r,b,g,d⟩:=(h.kB x).1 a;unfold vL;rw[Dq];exact⟨r,b,by simp[g,d]⟩
 ·rcases h.tE x with e|e
  ·exact(a e).elim
  ·exact e
 ·have:=h.fit b;omega
theorem Ux (hk:Cl A k c ss){ss':List cH}{j:Nat}{d:bY}{tt:List cH}(h:Cl {A with cB:=A.cB.set k ss'} j d tt):(j=k/\d=c/\tt=ss')\/(j≠k/\Cl A j d tt):=by
 obtain⟨b,a⟩:=h;by_cases hjk:j=k
 ·subst hjk;have e:=(cQ.1 hk.2).1;simp only[zO e]at a;exact .inl ⟨rfl,Option.some.inj (b.symm.trans hk.1),(Option.some.inj a).symm⟩
 ·simp only[zm (Ne.symm hjk)]at a;exact .inr ⟨hjk,b,a⟩
theorem Hm (hk:Cl A k c ss)(ss':List cH):Cl {A with cB:=A.cB.set k ss'} k c ss':=⟨hk.1,zO (cQ.1 hk.2).1⟩
theorem WiL {ss':List cH}{j:Nat}{d:bY}{tt:List cH}(hjk:j≠k)(h:Cl A j d tt):Cl {A with cB:=A.cB.set k ss'} j d tt:=⟨h.1,(zm (Ne.symm hjk)).trans h.2⟩
theorem GA.oL (h:GA A)(hk:Cl A k c ss){ss':List cH}(hC:dC c ss')(hst:ss'.map (·.st)=ss.map (·.st))(ht:∀t,A.cE[k]?=some t->∀x∈t.bs.flatten,Tk c ss' x):GA {A with cB:=A.cB.set k ss'}:=by
 refine⟨h.pg.same rfl rfl rfl rfl,h.tb,by simp[h.lc],h.lt,λj d b a=>?_,λj d b a s i=>?_,λj d b a p=>?_,h.kB,h.tE,h.gC,h.kM,h.rQ,λj d b t a g=>?_,h.rj⟩
 ·rcases Ux hk a with⟨rfl,rfl,rfl⟩|⟨hne,a⟩
  ·exact hC
  ·exact h.cB j d b a
 ·rcases Ux hk a with⟨rfl,rfl,rfl⟩|⟨hne,a⟩
  ·have:s.st∈ss.map (·.st):=by rw[←hst];exact zC.2 ⟨s,i,rfl⟩
   obtain⟨t,ht,e⟩:=zC.1 this;rw[←e];exact h.one _ _ _ hk t ht
  ·exact h.one j d b a s i
 ·rcases Ux hk a with⟨rfl,rfl,rfl⟩|⟨hne,a⟩
  ·rw[Wpv hst];exact h.ow _ _ _ hk p
  ·exact h.ow j d b a p
 ·rcases Ux hk a with⟨rfl,rfl,rfl⟩|⟨hne,a⟩
  ·exact ht t g
  ·exact h.nV j d b t a g
theorem CJ (hk:Cl A k c ss){ss':List cH}{j:Nat}{x:Int}:fA {A with cB:=A.cB.set k ss'} j x↔(j=k/\Tk c ss' x)\/(j≠k/\fA A j x):=by
 constructor
 ·rintro⟨d,tt,hj,hx⟩;rcases Ux hk hj with⟨rfl,rfl,rfl⟩|⟨hne,hj⟩
  ·exact .inl ⟨rfl,hx⟩
  ·exact .inr ⟨hne,d,tt,hj,hx⟩
 ·rintro(⟨rfl,hx⟩|⟨hne,d,tt,hj,hx⟩)
  ·exact⟨c,ss',Hm hk ss',hx⟩
  ·exact⟨d,tt,WiL hne hj,hx⟩
theorem KB (hk:Cl A k c ss){x:Int}:fA A k x↔Tk c ss x:=by
 constructor
 ·rintro⟨d,tt,hj,hx⟩;obtain⟨rfl,rfl⟩:=hk.eq hj;exact hx
 ·intro hx;exact⟨c,ss,hk,hx⟩
def swp (A:AR)(k:Nat)(c:bY)(ss:List cH):AR:=VZ {A with cB:=A.cB.set k (cK ss)} ((Z8 ss).map λs=>(s,c.aF))
theorem Dz {p:Nat}:jG ((Z8 ss).map λs=>(s,c.aF)) p↔∃x∈Z8 ss,x<=p/\p<x+c.aF:=by
 unfold jG;simp only[zC];constructor
 ·rintro⟨_,⟨x,hx,rfl⟩,h⟩;exact⟨x,hx,h⟩
 ·rintro⟨x,hx,h⟩;exact⟨_,⟨x,hx,rfl⟩,h⟩
theorem GA.mK (h:GA A)(hk:Cl A k c ss){x:Nat}(hx:x∈Z8 ss){p:Nat}(h1:x<=p)(h2:p<x+c.aF):A.f p=1/\A.ow p=k+1:=by
 obtain⟨s,a,_,rfl⟩:=E3.1 hx;exact h.used hk a h1 h2
theorem GA.tQ (h:GA A)(hk:Cl A k c ss):we {A with cB:=A.cB.set k (cK ss)} (swp A k c ss) ((Z8 ss).map λs=>(s,c.aF)):=by
 have g:=h.cB k c ss hk;refine Lu _ (h.pg.same rfl rfl rfl rfl) (λr e=>?_) (λr e p m i=>?_) ?_
 ·obtain⟨x,_,rfl⟩:=zC.1 e;exact g.pg
 ·obtain⟨x,j,rfl⟩:=zC.1 e;exact(h.mK hk j m i).1
 ·rw[py];exact(T0 g).imp λ{a b} d=>.inl d
theorem GA.swp (h:GA A)(hk:Cl A k c ss):GA (Go.Ar.swp A k c ss):=by
 have b:=h.tQ hk;have w:=h.cB k c ss hk;have B:=hk.lt;have F:=h.tb;have cl:∀{j d m},Cl (Go.Ar.swp A k c ss) j d m->(j=k/\d=c/\m=cK ss)\/(j≠k/\Cl A j d m):=λ{j d m} a=>Ux hk ⟨by rw[←b.tb];exact a.1,by rw[←b.cB];exact a.2⟩;have own:∀p,jG ((Z8 ss).map λs=>(s,c.aF)) p->A.ow p=k+1:=λp g=>by
  obtain⟨x,r,D,E⟩:=Dz.1 g;exact(h.mK hk r D E).2
 have cE:(Go.Ar.swp A k c ss).cE=A.cE:=b.cE;have tb:(Go.Ar.swp A k c ss).tb=A.tb:=b.tb;have runs:(Go.Ar.swp A k c ss).runs=A.runs:=b.runs;refine⟨b.pg,by rw[tb];exact h.tb,by rw[b.cB,tb];simp[h.lc],by rw[cE,tb];exact h.lt,λj d m a=>?_,λj d m a s y=>?_,λj d m a p=>?_,λp=>?_,λp=>?_,by rw[runs];exact h.gC,by rw[runs];exact h.kM,by rw[cE];exact h.rQ,λj d m t a u=>?_,by rw[cE,tb];exact h.rj⟩
 ·rcases cl a with⟨rfl,rfl,rfl⟩|⟨hne,a⟩
  ·exact w.cK
  ·exact h.cB j d m a
 ·rcases cl a with⟨rfl,rfl,rfl⟩|⟨hne,a⟩
  ·exact h.one _ _ _ hk s (zF.1 y).1
  ·exact h.one j d m a s y
 ·by_cases g:jG ((Z8 ss).map λs=>(s,c.aF)) p
  ·rw[(b.i p g).2];have z:=own p g;rcases cl a with⟨rfl,rfl,rfl⟩|⟨hne,a⟩
   ·rw[Ld w];constructor
    ·intro e;omega
    ·rintro⟨_,hn⟩;exact(hn (Dz.1 g)).elim
   ·rw[←h.ow j d m a p,z];omega
  ·rw[(b.o p g).2];rcases cl a with⟨rfl,rfl,rfl⟩|⟨hne,a⟩
   ·rw[Ld w];show A.ow p=_↔_;rw[h.ow _ _ _ hk p];exact⟨λr=>⟨r,λC=>g (Dz.2 C)⟩,λr=>r.1⟩
   ·exact h.ow j d m a p
 ·rw[runs];by_cases g:jG ((Z8 ss).map λs=>(s,c.aF)) p
  ·rw[(b.i p g).2,←h.kB,own p g];omega
  ·rw[(b.o p g).2];exact h.kB p
 ·rw[tb];by_cases g:jG ((Z8 ss).map λs=>(s,c.aF)) p
  ·rw[(b.i p g).2];omega
  ·rw[(b.o p g).2];exact h.tE p
 ·rw[cE]at u;rcases cl a with⟨rfl,rfl,rfl⟩|⟨hne,a⟩
  ·intro x r;exact(Ml w).2 (h.nV _ _ _ t hk u x r)
  ·exact h.nV j d m t a u
theorem GA.AU (h:GA A)(hk:Cl A k c ss):Kp A (Go.Ar.swp A k c ss):=by
 have b:=h.tQ hk;refine⟨b.n,b.tb,b.room,b.z,λp a=>?_⟩;by_cases hi:jG ((Z8 ss).map λs=>(s,c.aF)) p
 ·rw[(b.i p hi).1]at a;omega
 ·rw[(b.o p hi).1]at a;exact a
theorem GA.Bi (h:GA A)(hk:Cl A k c ss){j:Nat}{x:Int}:fA (Go.Ar.swp A k c ss) j x↔fA A j x:=by
 have b:=h.tQ hk;have a:=h.cB k c ss hk;have e:fA (Go.Ar.swp A k c ss) j x↔fA {A with cB:=A.cB.set k (cK ss)} j x:=by unfold fA Cl;rw[b.tb,b.cB]
 rw[e,CJ hk,Ml a];constructor
 ·rintro(⟨rfl,hx⟩|⟨_,hx⟩)
  ·exact(KB hk).2 hx
  ·exact hx
 ·intro hx;by_cases hjk:j=k
  ·subst hjk;exact .inl ⟨rfl,(KB hk).1 hx⟩
  ·exact .inr ⟨hjk,hx⟩
theorem HO {k:Int}:A.ck k=true↔∃j:Nat,k=j/\j<A.tb.length:=by
 unfold AR.ck;simp only[zG,zV];constructor
 ·intro h;exact⟨k.toNat,O,O⟩
 ·rintro⟨j,rfl,h⟩;omega
structure Ob (A B:AR):Prop where
 ga:GA B
 kp:Kp A B
 runs:B.runs=A.runs
theorem M7 (h:GA A)(k m:Int):Ob A (YR A k m)/\(YR A k m).cE=A.cE/\(Yu A k m).Nodup/\(Yu A k m≠[]->∃j:Nat,k=j/\j<A.tb.length)/\(∀x∈Yu A k m,¬fA A k.toNat (x:Int)) ∧
 ∀j y,fA (YR A k m) j y↔fA A j y\/(j=k.toNat/\∃x∈Yu A k m,y=((x:Nat):Int)):=by
 by_cases h0:QL A k m=0
 ·have p:A.ck k=true:=by
   unfold QL at h0;split at h0
   ·assumption
   ·cases h0
  obtain⟨j,rfl,u⟩:=HO.1 p;obtain⟨c,ss,t,b,E⟩:=h.cl u;have r:VQ A (j:Int) m=Ki c m.toNat ss:=by unfold VQ;rw[dE,b.1,b.2]
  have g:YR A (j:Int) m = {A with cB:=A.cB.set j (Ki c m.toNat ss).2}:=by unfold YR;rw[zB h0,r,dE]
  have d:Yu A (j:Int) m=(Ki c m.toNat ss).1:=by unfold Yu;rw[zB h0,r]
  rw[g,d];obtain⟨s1,w,D,C,z,s⟩:=GQ m.toNat (h.cB j c ss b);refine⟨⟨h.oL b s1 w λB e x a=>(s x).2 (.inr (h.nV j c ss B b e x a)),Kp.aF rfl rfl rfl rfl,rfl⟩,rfl,C,λ_=>⟨j,rfl,u⟩,λx a=>?_,λi y=>?_⟩
  ·rw[dE,KB b];exact z x a
  ·rw[CJ b,s,dE];by_cases hij:i=j
   ·subst hij;rw[KB b];constructor
    ·rintro(⟨_,a|a⟩|⟨a,_⟩)
     ·exact .inr ⟨rfl,a⟩
     ·exact .inl a
     ·exact(a rfl).elim
    ·rintro(a|⟨_,a⟩)
     ·exact .inl ⟨rfl,.inr a⟩
     ·exact .inl ⟨rfl,.inl a⟩
   ·constructor
    ·rintro(⟨a,_⟩|⟨_,a⟩)
     ·exact(hij a).elim
     ·exact .inl a
    ·rintro(a|⟨a,_⟩)
     ·exact .inr ⟨hij,a⟩
     ·exact(hij a).elim
 ·have g:YR A k m=A:=by unfold YR;rw[zA h0]
  have d:Yu A k m=[]:=by unfold Yu;rw[zA h0]
  rw[g,d];exact⟨⟨h,Kp.refl A,rfl⟩,rfl,uE,by simp,by simp,by simp⟩
theorem M3 {xs:List Int}(h:nK c ss xs):jM c ss xs=0:=by
 unfold jM;have b:xs.any (λx=>(eI c ss x).isNone)=false:=by
  rw[p8];intro x hx;rw[h.1 x hx];simp
 have a:xs.any (λx=>eI c ss x==some false)=false:=by
  rw[p8];intro x hx;rw[h.1 x hx];simp
 rw[b,a,zT h.2];rfl
theorem GH (h:GA A)(hk:Cl A k c ss)(xs:List Int):Q5 A (k:Int) xs=jM c ss xs:=by
 unfold Q5;rw[HO.2 ⟨k,rfl,hk.lt⟩,zB rfl,dE,hk.1,hk.2]
theorem ED (h:GA A){k:Int}{xs:List Int}(h0:Q5 A k xs=0):∃(j:Nat) (c:bY) (ss:List cH),k=j/\Cl A j c ss/\nK c ss xs:=by
 have a:A.ck k=true:=by
  unfold Q5 at h0;split at h0
  ·assumption
  ·cases h0
 obtain⟨j,rfl,d⟩:=HO.1 a;obtain⟨c,ss,t,b,e⟩:=h.cl d;rw[GH h b]at h0;exact⟨j,c,ss,rfl,b,J6 h0⟩
theorem Fs (h:GA A){k:Int}{xs:List Int}(hd:Q5 A k xs=0->∀x∈xs,¬iI A k.toNat x):Ob A (Zf A k xs)/\(Zf A k xs).cE=A.cE ∧
 (Q5 A k xs=0->∀j y,fA (Zf A k xs) j y↔fA A j y/\¬(j=k.toNat/\y∈xs))/\(Q5 A k xs≠0->Zf A k xs=A):=by
 by_cases h0:Q5 A k xs=0
 ·obtain⟨j,c,g,rfl,e,B⟩:=ED h h0;obtain⟨z,w,s⟩:=OA xs (h.cB j c g e) B;have p:=h.oL e z w λt u x a=>(s x).2 ⟨h.nV j c g t e u x a,λC=>hd h0 x C ⟨t,by rw[dE];exact u,a⟩⟩;have d:=Hm e (xs.foldl (fQ c) g);have r:Zf A (j:Int) xs=swp {A with cB:=A.cB.set j (xs.foldl (fQ c) g)} j c (xs.foldl (fQ c) g):=by
   unfold Zf swp;rw[zB h0,dE,e.1,e.2];simp only[rU]
  have b:=p.tQ d;rw[r];refine⟨⟨p.swp d,(Kp.aF rfl rfl rfl rfl:Kp A {A with cB:=A.cB.set j (xs.foldl (fQ c) g)}).trans (p.AU d),b.runs⟩,b.cE,λ_ i y=>?_,λD=>(D h0).elim⟩;rw[p.Bi d,CJ e,s,dE];by_cases hij:i=j
  ·subst hij;rw[KB e];constructor
   ·rintro(⟨_,a,hy⟩|⟨a,_⟩)
    ·exact⟨a,λm=>hy m.2⟩
    ·exact(a rfl).elim
   ·rintro⟨a,hy⟩;exact .inl ⟨rfl,a,λm=>hy ⟨rfl,m⟩⟩
  ·constructor
   ·rintro(⟨a,_⟩|⟨_,a⟩)
    ·exact(hij a).elim
    ·exact⟨a,λm=>hij m.1⟩
   ·rintro⟨a,_⟩;exact .inr ⟨hij,a⟩
 ·have r:Zf A k xs=A:=by unfold Zf;rw[zA h0]
  rw[r];exact⟨⟨h,Kp.refl A,rfl⟩,rfl,λa=>(h0 a).elim,λ_=>rfl⟩
theorem GA.mQ (h:GA A){k:Nat}{t':fT}(h1:t'.bs.flatten.Nodup)(h2:∀x∈t'.bs.flatten,fA A k x)(h3:∀c,A.tb[k]?=some c->∀xs∈t'.bs,xs.length=c.batch):GA {A with cE:=A.cE.set k t'}:=by
 have get:∀{j t},(A.cE.set k t')[j]?=some t->(j=k/\t=t')\/(j≠k/\A.cE[j]?=some t):=by
  intro j t a;by_cases hjk:j=k
  ·subst hjk;have g:j<A.cE.length:=by have:=(cQ.1 a).1;simpa using this
   rw[zO g]at a;exact .inl ⟨rfl,(Option.some.inj a).symm⟩
  ·rw[zm (Ne.symm hjk)]at a;exact .inr ⟨hjk,a⟩
 refine⟨h.pg.same rfl rfl rfl rfl,h.tb,h.lc,by simp[h.lt],h.cB,h.one,h.ow,h.kB,h.tE,h.gC,h.kM,λj t a=>?_,λj c e t b a x d=>?_,λj c t b a=>?_⟩
 ·rcases get a with⟨rfl,rfl⟩|⟨_,a⟩
  ·exact h1
  ·exact h.rQ j t a
 ·rcases get a with⟨rfl,rfl⟩|⟨_,a⟩
  ·exact(KB b).1 (h2 x d)
  ·exact h.nV j c e t b a x d
 ·rcases get a with⟨rfl,rfl⟩|⟨_,a⟩
  ·exact h3 c b
  ·exact h.rj j c t b a
theorem BL {t':fT}{j:Nat}{x:Int}(hk:k<A.cE.length):iI {A with cE:=A.cE.set k t'} j x↔(j=k/\x∈t'.bs.flatten)\/(j≠k/\iI A j x):=by
 by_cases hjk:j=k
 ·subst hjk;have a:(A.cE.set j t')[j]?=some t':=zO hk;constructor
  ·rintro⟨t,e,hx⟩;have e:(A.cE.set j t')[j]?=some t:=e;rw[a]at e;cases e;exact .inl ⟨rfl,hx⟩
  ·rintro(⟨_,hx⟩|⟨hx,_⟩)
   ·exact⟨_,a,hx⟩
   ·exact(hx rfl).elim
 ·have a:(A.cE.set k t')[j]?=A.cE[j]? := zm (Ne.symm hjk);constructor
  ·rintro⟨t,e,hx⟩;have e:(A.cE.set k t')[j]?=some t:=e;rw[a]at e;exact .inr ⟨hjk,t,e,hx⟩
  ·rintro(⟨hx,_⟩|⟨_,t,e,hx⟩)
   ·exact(hjk hx).elim
   ·exact⟨t,a.trans e,hx⟩
theorem UG {t:fT}(ht:A.cE[k]?=some t){x:Int}:iI A k x↔x∈t.bs.flatten:=by
 constructor
 ·rintro⟨t',e,hx⟩;rw[ht]at e;cases e;exact hx
 ·intro hx;exact⟨t,ht,hx⟩
theorem Ms (h:GA A)(k:Int):Ob A (ZR A k)/\(∀j y,fA (ZR A k) j y↔fA A j y)/\(∀x∈YN A k,iI A k.toNat x)/\(YN A k).Nodup/\(YN A k≠[]->∃j:Nat,k=j/\j<A.tb.length) ∧
 ∀j y,iI (ZR A k) j y↔iI A j y/\¬(j=k.toNat/\y∈YN A k):=by
 by_cases h0:Z9 A k=0
 ·have s:A.ck k=true:=by
   unfold Z9 at h0;split at h0
   ·assumption
   ·cases h0
  obtain⟨j,rfl,z⟩:=HO.1 s;obtain⟨c,G,t,E,g⟩:=h.cl z;have hne:t.bs≠[]:=by
   intro e;unfold Z9 at h0;rw[s,zB rfl,dE,g]at h0;simp[e]at h0
  have C:ZR A (j:Int) = {A with cE:=A.cE.set j t.rem}:=by unfold ZR;rw[zB h0,dE,Vn g]
  have u:YN A (j:Int)=t.bs.getLast?.getD []:=by unfold YN;rw[zB h0,dE,g]
  have D:t.bs=t.bs.dropLast++[t.bs.getLast hne]:=(List.dropLast_concat_getLast hne).symm;have F:YN A (j:Int)=t.bs.getLast hne:=by rw[u,List.getLast?_eq_some_getLast hne];rfl
  have d:t.bs.flatten=t.bs.dropLast.flatten++t.bs.getLast hne:=by
   conv=>lhs;rw[D]
   simp
  have p:=h.rQ j t g;rw[d]at p;have b:=qQ.1 p;have m:t.rem.bs=t.bs.dropLast:=rfl;rw[C,F];refine⟨⟨h.mQ (by rw[m];exact b.1) (λx a=>(KB E).2 (h.nV j c G t E g x (by rw[d];exact qP _ a))) λH w J B=>h.rj j H t w g J ((List.dropLast_sublist _).subset B),Kp.aF rfl rfl rfl rfl,rfl⟩,λ_ _=>Iff.rfl,λx a=>?_,b.2.1,λ_=>⟨j,rfl,z⟩,λi y=>?_⟩
  ·rw[dE,UG g,d];exact sY _ a
  ·rw[BL (by rw[h.lt];exact z),m,dE];by_cases hij:i=j
   ·subst hij;rw[UG g,d,zU];constructor
    ·rintro(⟨_,a⟩|⟨a,_⟩)
     ·exact⟨.inl a,λr=>b.2.2 y a y r.2 rfl⟩
     ·exact(a rfl).elim
    ·rintro⟨a|a,r⟩
     ·exact .inl ⟨rfl,a⟩
     ·exact(r ⟨rfl,a⟩).elim
   ·constructor
    ·rintro(⟨a,_⟩|⟨_,a⟩)
     ·exact(hij a).elim
     ·exact⟨a,λr=>hij r.1⟩
    ·rintro⟨a,_⟩;exact .inr ⟨hij,a⟩
 ·have C:ZR A k=A:=by unfold ZR;rw[zA h0]
  have u:YN A k=[]:=by unfold YN;rw[zA h0]
  rw[C,u];exact⟨⟨h,Kp.refl A,rfl⟩,λ_ _=>Iff.rfl,by simp,uE,by simp,by simp⟩
theorem Tm (h:GA A)(k:Int){xs:List Int}(hn:xs.Nodup)(hd:∀x∈xs,¬iI A k.toNat x):Ob A (Kh A k xs)/\(∀j y,fA (Kh A k xs) j y↔fA A j y) ∧
 (Vu A k xs=true->(∃j:Nat,k=j/\j<A.tb.length)/\(∀x∈xs,fA A k.toNat x)/\∀j y,iI (Kh A k xs) j y↔iI A j y\/(j=k.toNat/\y∈xs))/\(Vu A k xs=false->Kh A k xs=A):=by
 by_cases h0:Vu A k xs=true
 ·have B:HU A k xs=0:=by
   unfold Vu at h0;simp only[zG,zV]at h0;exact h0.1
  have z:A.ck k=true:=by
   unfold HU at B;split at B
   ·assumption
   ·cases B
  obtain⟨j,rfl,D⟩:=HO.1 z;obtain⟨c,G,t,s,u⟩:=h.cl D;have m:=B;unfold HU at m;rw[z,zB rfl,dE,s.1,s.2]at m;simp only at m;have p:xs.length=c.batch:=by
   apply Classical.byContradiction;intro d;rw[zA d]at m;cases m
  rw[zB p]at m;have w:∀x∈xs,fA A j x:=by
   intro x d;split at m
   ·rename_i C;rw[nD]at C;rw[KB s];simpa[Tk]using C x d
   ·cases m
  have E:Kh A (j:Int) xs = {A with cE:=A.cE.set j {t with bs:=t.bs++[xs]}}:=by unfold Kh;rw[zB h0,dE,Vn u]
  have r:(t.bs++[xs]).flatten=t.bs.flatten++xs:=by simp
  rw[E];refine⟨⟨h.mQ ?_ ?_ ?_,Kp.aF rfl rfl rfl rfl,rfl⟩,λ_ _=>Iff.rfl,λ_=>⟨⟨j,rfl,D⟩,by rw[dE];exact w,λi y=>?_⟩,λF=>by rw[F]at h0;cases h0⟩
  ·show(t.bs++[xs]).flatten.Nodup;rw[r,qQ];exact⟨h.rQ j t u,hn,λa C b H e=>hd b H (by subst e;rw[dE,UG u];exact C)⟩
  ·intro x d;have d:x∈(t.bs++[xs]).flatten:=d;rw[r,zU]at d;rcases d with d|d
   ·exact(KB s).2 (h.nV j c G t s u x d)
   ·exact w x d
  ·intro c' hc' ys g;have g:ys∈t.bs++[xs]:=g;rcases zU.1 g with g|g
   ·exact h.rj j c' t hc' u ys g
   ·simp only[zZ]at g;rw[s.1]at hc';cases hc';rw[g];exact p
  ·rw[BL (by rw[h.lt];exact D),dE];show(i=j/\y∈(t.bs++[xs]).flatten)\/_↔_;rw[r,zU];by_cases hij:i=j
   ·subst hij;rw[UG u];constructor
    ·rintro(⟨_,d|d⟩|⟨d,_⟩)
     ·exact .inl d
     ·exact .inr ⟨rfl,d⟩
     ·exact(d rfl).elim
    ·rintro(d|⟨_,d⟩)
     ·exact .inl ⟨rfl,.inl d⟩
     ·exact .inl ⟨rfl,.inr d⟩
   ·constructor
    ·rintro(⟨d,_⟩|⟨_,d⟩)
     ·exact(hij d).elim
     ·exact .inl d
    ·rintro(d|⟨d,_⟩)
     ·exact .inr ⟨hij,d⟩
     ·exact(hij d).elim
 ·have E:Kh A k xs=A:=by unfold Kh;rw[zA h0]
  rw[E];exact⟨⟨h,Kp.refl A,rfl⟩,λ_ _=>Iff.rfl,λd=>(h0 d).elim,λ_=>rfl⟩
end Go.Ar
namespace Go.Ar
open Go.Bu (Zg QW lU Zv uo iR Vs Uj dK take Kw Ku Bounded full can YQ VY ZM QY ZS Kx QZ Qc Ua U8 pn)
variable {A:AR}{sp:Sp}{k:Nat}{c:bY}{ss:List cH}
structure Ow (A:AR) (sp:Sp):Prop where
 l:sp.st.length=A.n
 own:∀p,A.f p≠0->gf sp.st p≠0
 cl:∀p,A.f p=3->gf sp.st p=1
 le:∀p,gf sp.st p<=2
structure St (A B:AR) (sp sp':Sp):Prop where
 ga:GA B
 ow:Ow B sp'
 n:B.n=A.n
 tb:B.tb=A.tb
 room:B.room=A.room
 same:∀p,A.f p=0->B.f p=0->gf sp'.st p=gf sp.st p
 gone:∀p,A.f p≠0->B.f p=0->gf sp'.st p=0
 new:∀p,A.f p=0->B.f p≠0->gf sp.st p=0/\16<=p
theorem St.refl (h:GA A)(hw:Ow A sp):St A A sp sp:=⟨h,hw,rfl,rfl,rfl,λ_ _ _=>rfl,λp b a=>(b a).elim,λp b a=>(a b).elim⟩
theorem Ow.len {B C:AR}{sp sp':Sp}(h:Ow B sp)(k:Ow C sp')(e:C.n=B.n):sp'.st.length=sp.st.length:=by rw[h.l,k.l,e]
theorem St.trans {B C:AR}{sp' sp'':Sp}(h:St A B sp sp')(k:St B C sp' sp''):St A C sp sp'':=by
 refine⟨k.ga,k.ow,k.n.trans h.n,k.tb.trans h.tb,k.room.trans h.room,λp a b=>?_,λp a b=>?_,λp a b=>?_⟩
 ·by_cases hB:B.f p=0
  ·rw[k.same p hB b,h.same p a hB]
  ·rw[k.gone p hB b,(h.new p a hB).1]
 ·by_cases hB:B.f p=0
  ·rw[k.same p hB b,h.gone p a hB]
  ·exact k.gone p hB b
 ·by_cases hB:B.f p=0
  ·have:=k.new p hB b;rw[h.same p a hB]at this;exact this
  ·exact h.new p a hB
theorem Ow.kp {B:AR}(hw:Ow A sp)(h:Kp A B):Ow B sp:=⟨hw.l.trans h.n.symm,λp a=>hw.own p λe=>a ((h.z p).2 e),λp a=>hw.cl p (h.t p a),hw.le⟩
theorem St.kp {B:AR}(hg:GA B)(hw:Ow A sp)(h:Kp A B):St A B sp sp:=
 ⟨hg,hw.kp h,h.n,h.tb,h.room,λ_ _ _=>rfl,λp b a=>(b ((h.z p).1 a)).elim,λp b a=>(a ((h.z p).2 b)).elim⟩
theorem Ob.st {B:AR}(o:Ob A B)(hw:Ow A sp):St A B sp sp:=St.kp o.ga hw o.kp
theorem GA.grown (h:GA A){B:AR}{sp':Sp}{s size:Nat}(g:Grown A B sp sp' s size):GA B:=by
 have e:∀{j d tt},Cl B j d tt↔Cl A j d tt:=λ{j d tt}=>by unfold Cl;rw[g.tb,g.cB]
 exact⟨g.pg,by rw[g.tb];exact h.tb,by rw[g.cB,g.tb];exact h.lc,by rw[g.cE,g.tb];exact h.lt,λj d tt a=>h.cB j d tt (e.1 a),λj d tt a=>h.one j d tt (e.1 a),λj d tt a p=>by rw[g.ow];exact h.ow j d tt (e.1 a) p,
  λp=>by rw[g.ow,g.runs];exact h.kB p,λp=>by rw[g.ow,g.tb];exact h.tE p,by rw[g.runs];exact h.gC,by rw[g.runs];exact h.kM,by rw[g.cE];exact h.rQ,λj d tt t a b=>h.nV j d tt t (e.1 a) (by rw[←g.cE];exact b),by rw[g.tb,g.cE];exact h.rj⟩
theorem Grown.st (h:GA A)(hw:Ow A sp){B:AR}{sp':Sp}{s size:Nat}(g:Grown A B sp sp' s size):St A B sp sp':=by
 have d:∀p,B.f p≠A.f p->s<=p/\p<s+size:=λp b=>by
  apply Classical.byContradiction;intro hn;exact b (g.o p hn).1
 refine⟨h.grown g,⟨g.l.trans (hw.l.trans g.n.symm),λp b=>?_,λp b=>?_,λp=>?_⟩,g.n,g.tb,g.room,λp j e=>?_,λp j e=>?_,λp j e=>?_⟩
 ·by_cases a:s<=p/\p<s+size
  ·rw[(g.i p a.1 a.2).2];omega
  ·rw[(g.o p a).2];rw[(g.o p a).1]at b;exact hw.own p b
 ·by_cases a:s<=p/\p<s+size
  ·rw[(g.i p a.1 a.2).2]
  ·rw[(g.o p a).2];rw[(g.o p a).1]at b;exact hw.cl p b
 ·by_cases a:s<=p/\p<s+size
  ·rw[(g.i p a.1 a.2).2];omega
  ·rw[(g.o p a).2];exact hw.le p
 ·refine(g.o p λa=>?_).2;rw[(g.i p a.1 a.2).1]at e;omega
 ·have:=d p O;rw[(g.i p this.1 this.2).1]at e;omega
 ·have:=d p O;exact⟨g.un p this.1 this.2,by have:=g.s1;omega⟩
theorem We6 {n:Nat}{S:Nat->Bool}(hb:Bounded S n)(hn:n<=1024){j q m a:Nat}(hf:full S j q=true)(hm:m<=2^j)(ha:a<=2^j):Zv n S m a≠none:=by
 intro h0;have r:S (q*2^j)=true:=YQ.1 hf _ (Ie _ (nM j));obtain⟨i,g⟩:=VY hb r;have e:j<=i:=by
  apply Classical.byContradiction;intro hlt;exact QY g hf rfl (Ie _ (nM j)) O
 have s:=ZS hb (ZM.1 g).1;have d:i<11:=by
  apply Classical.byContradiction;intro hge;have:2^11<=2^i:=sC O O;omega
 have p:2^j<=2^i:=sC O e;have:=U8 h0 i d O O;have b:=(QZ hb (k:=i)).2 ⟨_,rfl,g⟩;rw[this]at b;simp at b
theorem FV (m:Nat):Ke m=16\/Ke m=32\/Ke m=64:=by
 unfold Ke;split
 ·exact .inl rfl
 ·split
  ·exact .inr (.inl rfl)
  ·exact .inr (.inr rfl)
theorem Wkb {m:Nat}(h:m<=64):m<=Ke m:=by
 unfold Ke;split
 ·omega
 ·split<;>omega
theorem Nx (h:GA A)(hw:Ow A sp){m a no:Nat}(h1:1<=m)(h2:m<=64)(ha:1<=a/\a<=16) :
 (dA A sp m a no=(none,A,sp)/\Zv A.n A.S m a=none/\cZ sp (Ke (max m a))=none) ∨
 ∃x A1 sp1,dA A sp m a no=(some x,dU A1 x m no,sp1)/\Zv A1.n A1.S m a=some x/\(A1=A/\sp1=sp\/Zv A.n A.S m a=none/\∃s,cZ sp (Ke (max m a))=some s/\Grown A A1 sp sp1 s (Ke (max m a))):=by
 cases ht:Zv A.n A.S m a with
 | some x=>exact .inr ⟨x,A,sp,by unfold dA;rw[ht],ht,.inl ⟨rfl,rfl⟩⟩
 | none=>
  cases hg:UZ A sp (Ke (max m a))with
  | none=>
   refine .inl ⟨by unfold dA;rw[ht,hg],rfl,?_⟩;unfold UZ at hg;split at hg
   ·assumption
   ·cases hg
  | some r=>
   obtain⟨A1,sp1⟩:=r;obtain⟨s,u,g⟩:=O7 h.pg hw.l (λp b=>Classical.byContradiction λz=>hw.own p z b) (FV _) hg;have d:Zv A1.n A1.S m a≠none:=by
    have B:=Wkb (m:=max m a) O;obtain⟨_,_,⟨i,C⟩,_⟩:=U3 (by have:=FV (max m a);omega) u;have key:∃j,Ke (max m a)=2^j:=by
     rcases FV (max m a)with e|e|e
     ·exact⟨4,e⟩
     ·exact⟨5,e⟩
     ·exact⟨6,e⟩
    obtain⟨j,y⟩:=key;refine We6 g.pg.kU g.pg.n2 (j:=j) (q:=i) (YQ.2 λp b=>?_) O O;rw[g.pg.fr];rw[Qc,←y,←C]at b;rw[(g.i p b.1 b.2).1];omega
   obtain⟨x,w⟩:=Option.ne_none_iff_exists'.1 d;exact .inr ⟨x,A1,sp1,by unfold dA;rw[ht,hg];simp only;rw[w],w,.inr ⟨rfl,s,u,g⟩⟩
theorem JR (h:PG A){m a x:Nat}(hx:Zv A.n A.S m a=some x):∀p,x<=p->p<x+m->A.S p=true:=λp b d=>(pn h.kU hx).2 p b d
theorem ς (h:PG A){m a x:Nat}(h1:1<=m)(h4:m<=4)(hx:Zv A.n A.S m a=some x):x/16=(x+m-1)/16:=by
 obtain⟨j,_,b,_,d,_⟩:=Ua hx;obtain⟨q,rfl,g⟩:=(QZ h.kU).1 (List.mem_of_head? d)
 match j,b with
 | 0,b=>
  have:m=1:=by omega
  subst this;rfl
 | 1,b=>
  have:m<=2:=by omega
  simp only[Nat.pow_one]at *;omega
 | j+2,b=>
  have e:2^(j+2)=4*2^j:=by rw[Nat.pow_add];omega
  rw[e,←xm,Ab q 4,xm];generalize q*2^j=z;omega
theorem MD (h:PG A){a m no:Nat}(h1:1<=m)(hn:no≠0)(hS:∀p,a<=p->p<a+m->A.S p=true):Kp A (dU A a m no):=by
 obtain⟨o,g,e,d⟩:=Ib h h1 hn hS;refine⟨rfl,rfl,rfl,d,λp b=>?_⟩;by_cases hin:a<=p/\p<a+m
 ·rw[(g p hin.1 hin.2).1]at b;omega
 ·rw[o.f p hin]at b;exact b
theorem GA.uT (h:GA A)(hk:Cl A k c ss){x:Nat}(hS:∀p,x<=p->p<x+c.aF->A.S p=true)(h1:x/16=(x+c.aF-1)/16) :
 GA {dU A x c.aF (k+1)with cB:=(dU A x c.aF (k+1)).cB.set k (iQ c ss x)}/\(∀s∈ss,s.st+c.aF<=x\/x+c.aF<=s.st):=by
 have m:=h.cB k c ss hk;have i:=m.pg;have z:=hk.lt;have E:=h.tb;obtain⟨o,r,pg,F⟩:=Ib h.pg i (no:=k+1) O hS;have u:∀p,x<=p->p<x+c.aF->A.ow p=0:=λp B D=>by
  have C:=(h.pg.fr p).1 (hS p B D);apply Classical.byContradiction;intro hne;have:=(h.pg.us p).2 hne;omega
 have hd:∀s∈ss,s.st+c.aF<=x\/x+c.aF<=s.st:=λs b=>by
  apply Classical.byContradiction;intro hn;have C:=u (max x s.st) O O;have:=(h.used hk b (p:=max x s.st) O O).2;omega
 refine⟨?_,hd⟩;have e:Cl (dU A x c.aF (k+1)) k c ss:=hk;refine⟨pg.same rfl rfl rfl rfl,h.tb,by show(A.cB.set k _).length=_;simp[h.lc];rfl,h.lt,λj d g a=>?_,λj d g a s b=>?_,λj d g a p=>?_,λp=>?_,λp=>?_,h.gC,h.kM,h.rQ,λj d g t a w=>?_,h.rj⟩
 ·rcases Ux e a with⟨rfl,rfl,rfl⟩|⟨hne,a⟩
  ·exact NI m hd
  ·exact h.cB j d g a
 ·rcases Ux e a with⟨rfl,rfl,rfl⟩|⟨hne,a⟩
  ·rcases VH.1 b with rfl|b
   ·exact h1
   ·exact h.one _ _ _ hk s b
  ·exact h.one j d g a s b
 ·show(dU A x c.aF (k+1)).ow p=j+1↔_;by_cases hp:x<=p/\p<x+c.aF
  ·rw[(r p hp.1 hp.2).2];rcases Ux e a with⟨rfl,rfl,rfl⟩|⟨hne,a⟩
   ·exact⟨λ_=>⟨_,VH.2 (.inl rfl),hp.1,hp.2⟩,λ_=>rfl⟩
   ·rw[←h.ow j d g a p,u p hp.1 hp.2];omega
  ·rw[o.ow p hp];rcases Ux e a with⟨rfl,rfl,rfl⟩|⟨hne,a⟩
   ·rw[h.ow _ _ _ hk p];constructor
    ·rintro⟨s,b,h3⟩;exact⟨s,VH.2 (.inr b),h3⟩
    ·rintro⟨s,b,h3⟩;rcases VH.1 b with rfl|b
     ·exact(hp h3).elim
     ·exact⟨s,b,h3⟩
   ·exact h.ow j d g a p
 ·show(dU A x c.aF (k+1)).ow p=41↔jG A.runs p;by_cases hp:x<=p/\p<x+c.aF
  ·rw[(r p hp.1 hp.2).2,←h.kB,u p hp.1 hp.2];omega
  ·rw[o.ow p hp];exact h.kB p
 ·show(dU A x c.aF (k+1)).ow p=41\/(dU A x c.aF (k+1)).ow p<=A.tb.length;by_cases hp:x<=p/\p<x+c.aF
  ·rw[(r p hp.1 hp.2).2];omega
  ·rw[o.ow p hp];exact h.tE p
 ·rcases Ux e a with⟨rfl,rfl,rfl⟩|⟨hne,a⟩
  ·intro y hy;exact(Jt m hd).2 (h.nV _ _ _ t hk w y hy)
  ·exact h.nV j d g t a w
theorem GA.xl (h:GA A){x m:Nat}(hm:1<=m)(hS:∀p,x<=p->p<x+m->A.S p=true):GA {dU A x m 41 with runs:=A.runs++[(x,m)]}:=by
 have y:=h.tb;obtain⟨o,e,pg,B⟩:=Ib h.pg hm (no:=41) O hS;have g:∀p,x<=p->p<x+m->A.ow p=0:=λp z w=>by
  have u:=(h.pg.fr p).1 (hS p z w);apply Classical.byContradiction;intro hne;have:=(h.pg.us p).2 hne;omega
 refine⟨pg.same rfl rfl rfl rfl,h.tb,h.lc,h.lt,h.cB,h.one,λj d tt b p=>?_,λp=>?_,λp=>?_,λr a=>?_,?_,h.rQ,h.nV,h.rj⟩
 ·have b:Cl A j d tt:=b;have:=b.lt;show(dU A x m 41).ow p=j+1↔_;by_cases hp:x<=p/\p<x+m
  ·rw[(e p hp.1 hp.2).2,←h.ow j d tt b p,g p hp.1 hp.2];omega
  ·rw[o.ow p hp];exact h.ow j d tt b p
 ·show(dU A x m 41).ow p=41↔jG (A.runs++[(x,m)]) p;by_cases hp:x<=p/\p<x+m
  ·rw[(e p hp.1 hp.2).2];exact⟨λ_=>⟨(x,m),by simp,hp⟩,λ_=>rfl⟩
  ·rw[o.ow p hp,h.kB];constructor
   ·rintro⟨r,a,h3⟩;exact⟨r,by simp[a],h3⟩
   ·rintro⟨r,a,h3⟩;rcases zU.1 a with a|a
    ·exact⟨r,a,h3⟩
    ·simp only[zZ]at a;subst a;exact(hp h3).elim
 ·show(dU A x m 41).ow p=41\/(dU A x m 41).ow p<=A.tb.length;by_cases hp:x<=p/\p<x+m
  ·rw[(e p hp.1 hp.2).2];omega
  ·rw[o.ow p hp];exact h.tE p
 ·rcases zU.1 a with a|a
  ·exact h.gC r a
  ·simp only[zZ]at a;subst a;exact hm
 ·refine tZ.2 ⟨h.kM,by simp,λr a s i=>?_⟩;simp only[zZ]at i;subst i;apply Classical.byContradiction;intro hn;simp only at hn;have:=h.gC r a;have u:=g (max x r.1) O O;have:=(h.kP a (p:=max x r.1) O O).2;omega
theorem P8 {l:List (Nat×Nat)}{x m:Nat}(h:∀r∈l,r.1≠x):cD.mset2 l x m=l++[(x,m)]:=by
 unfold cD.mset2;rw[zA];simp only[zw,zY,not_exists,not_and];exact h
theorem Lc (h:GA A)(hw:Ow A sp)(k:Int) :
 ((cO A sp k=(A,sp))/\Va A sp k≠0) ∨
 ∃(j:Nat) (c:bY) (ss:List cH) (x:Nat) (A1:AR) (sp1:Sp),k=j/\Cl A j c ss/\Cl A1 j c ss/\Va A sp k=0/\cO A sp k=({dU A1 x c.aF (j+1)with cB:=(dU A1 x c.aF (j+1)).cB.set j (iQ c ss x)},sp1) ∧
  St A A1 sp sp1/\A1.runs=A.runs/\A1.cE=A.cE/\A1.cB=A.cB/\Zv A1.n A1.S c.aF 1=some x/\(∀s∈ss,s.st+c.aF<=x\/x+c.aF<=s.st)/\St A (cO A sp k).1 sp (cO A sp k).2:=by
 by_cases hck:A.ck k=true
 ·obtain⟨j,rfl,F⟩:=HO.1 hck;obtain⟨c,ss,t,b,H⟩:=h.cl F;have C:=h.cB j c ss b;have y:=C.ok;unfold bY.ok at y;have E:=b.lt;rcases Nx h hw (m:=c.aF) (a:=1) (no:=j+1) O O O with⟨hg,_⟩|⟨x,A1,sp1,hg,htk,hor⟩
  ·left;have w:Va A sp (j:Int)=6:=by unfold Va;rw[hck,zB rfl,dE,b.1,b.2];simp only;rw[hg]
   have G:cO A sp (j:Int)=(A,sp):=by unfold cO;rw[hck,zB rfl,dE,b.1,b.2];simp only;rw[hg]
   rw[G,w];exact⟨rfl,by simp⟩
  ·right;have w:Va A sp (j:Int)=G5 c ss x:=by unfold Va;rw[hck,zB rfl,dE,b.1,b.2];simp only;rw[hg]
   have u:GA A1:=by
    rcases hor with⟨rfl,rfl⟩|⟨_,s,_,g⟩
    ·exact h
    ·exact h.grown g
   have e:St A A1 sp sp1:=by
    rcases hor with⟨rfl,rfl⟩|⟨_,s,_,g⟩
    ·exact St.refl h hw
    ·exact g.st h hw
   have d:A1.runs=A.runs/\A1.cE=A.cE/\A1.cB=A.cB:=by
    rcases hor with⟨rfl,rfl⟩|⟨_,s,_,g⟩
    ·exact⟨rfl,rfl,rfl⟩
    ·exact⟨g.runs,g.cE,g.cB⟩
   have p:Cl A1 j c ss:=⟨by rw[e.tb];exact b.1,by rw[d.2.2];exact b.2⟩;have z:=JR u.pg htk;obtain⟨D,hd⟩:=u.uT p z (ς u.pg O O htk);have B:=Pj hd;have i:cO A sp (j:Int)=({dU A1 x c.aF (j+1)with cB:=(dU A1 x c.aF (j+1)).cB.set j (iQ c ss x)},sp1):=by
    unfold cO;rw[hck,zB rfl,dE,b.1,b.2];simp only;rw[hg];simp only;rw[zB B]
   refine⟨j,c,ss,x,A1,sp1,rfl,b,p,by rw[w];exact B,i,e,d.1,d.2.1,d.2.2,htk,hd,?_⟩;rw[i];have kp:=MD u.pg (no:=j+1) O O z;exact e.trans (St.kp D e.ow (kp.trans (Kp.aF rfl rfl rfl rfl)))
 ·left;have r:A.ck k=false:=by simpa using hck
  unfold cO Va;rw[r];exact⟨rfl,by simp⟩
theorem WlP (h:GA A)(hw:Ow A sp)(k:Int):St A (cO A sp k).1 sp (cO A sp k).2/\(cO A sp k).1.runs=A.runs/\(cO A sp k).1.cE=A.cE/\(∀j y,fA (cO A sp k).1 j y↔fA A j y)/\(Va A sp k≠0->cO A sp k=(A,sp)):=by
 rcases Lc h hw k with⟨e,_⟩|⟨j,c,ss,x,A1,sp1,rfl,hk,hk1,hE,e,hst,r1,r2,r3,_,hd,hS⟩
 ·rw[e];exact⟨St.refl h hw,rfl,rfl,λ_ _=>Iff.rfl,λ_=>rfl⟩
 ·refine⟨hS,by rw[e];exact r1,by rw[e];exact r2,λi y=>?_,λd=>(d hE).elim⟩;rw[e];have b:Cl (dU A1 x c.aF (j+1)) j c ss:=hk1;rw[CJ b,Jt (h.cB j c ss hk) hd];have g:fA (dU A1 x c.aF (j+1)) i y↔fA A i y:=by
   have:(dU A1 x c.aF (j+1)).tb=A.tb/\(dU A1 x c.aF (j+1)).cB=A.cB:=⟨hst.tb,r3⟩;unfold fA Cl;rw[this.1,this.2]
  rw[g];by_cases hij:i=j
  ·subst hij;rw[KB hk];exact⟨λa=>by rcases a with⟨_,a⟩|⟨a,_⟩;exact a;exact(a rfl).elim,λa=>.inl ⟨rfl,a⟩⟩
  ·exact⟨λa=>by rcases a with⟨a,_⟩|⟨_,a⟩;exact(hij a).elim;exact a,λa=>.inr ⟨hij,a⟩⟩
theorem To {m a:Int}(h:Ky m a=true):∃x y:Nat,m=x/\a=y/\1<=x/\x<=64/\(y=1\/y=2\/y=4\/y=8\/y=16):=by
 unfold Ky at h;simp only[zG,zV,rO,zY]at h;exact⟨m.toNat,a.toNat,O,O,O,O,O⟩
theorem Wd1 (h:GA A)(hw:Ow A sp)(m a:Int) :
 (cD A sp m a=(A,sp)/\QG A sp m a≠0/\(Ky m a=true->QG A sp m a=6/\Zv A.n A.S m.toNat a.toNat=none/\cZ sp (Ke (max m.toNat a.toNat))=none)) ∨
 ∃(x:Nat) (A1:AR) (sp1:Sp),Ky m a=true/\QG A sp m a=0/\Z7 A sp m a=x/\cD A sp m a=({dU A1 x m.toNat 41 with runs:=A.runs++[(x,m.toNat)]},sp1) ∧
  Zv A1.n A1.S m.toNat a.toNat=some x/\(A1=A/\sp1=sp\/Zv A.n A.S m.toNat a.toNat=none/\∃s,cZ sp (Ke (max m.toNat a.toNat))=some s/\Grown A A1 sp sp1 s (Ke (max m.toNat a.toNat))) ∧
  St A (cD A sp m a).1 sp (cD A sp m a).2/\(cD A sp m a).1.cE=A.cE/\(∀j y,fA (cD A sp m a).1 j y↔fA A j y):=by
 by_cases hp:Ky m a=true
 ·obtain⟨b,w,rfl,rfl,N,H,V⟩:=To hp;have G:QG A sp (b:Int) (w:Int)=if(dA A sp b w 41).1.isSome then 0 else 6:=by unfold QG;rw[zB hp,dE,dE]
  have J:Z7 A sp (b:Int) (w:Int)=(dA A sp b w 41).1.getD 0:=by unfold Z7;rw[zB hp,dE,dE]
  rcases Nx h hw (m:=b) (a:=w) (no:=41) N H O with⟨hg,hn1,hn2⟩|⟨x,A1,sp1,hg,htk,hor⟩
  ·left;have P:cD A sp (b:Int) (w:Int)=(A,sp):=by unfold cD;rw[zB hp,dE,dE,hg]
   rw[P,G,hg,dE,dE];exact⟨rfl,by simp,λ_=>⟨rfl,hn1,hn2⟩⟩
  ·right;have z:GA A1:=by
    rcases hor with⟨rfl,rfl⟩|⟨_,s,_,g⟩
    ·exact h
    ·exact h.grown g
   have u:St A A1 sp sp1:=by
    rcases hor with⟨rfl,rfl⟩|⟨_,s,_,g⟩
    ·exact St.refl h hw
    ·exact g.st h hw
   have d:A1.runs=A.runs/\A1.cE=A.cE/\A1.cB=A.cB:=by
    rcases hor with⟨rfl,rfl⟩|⟨_,s,_,g⟩
    ·exact⟨rfl,rfl,rfl⟩
    ·exact⟨g.runs,g.cE,g.cB⟩
   have E:=JR z.pg htk;have C:∀r∈A.runs,r.1≠x:=λr M e=>by
    have B:r∈A1.runs:=by rw[d.1];exact M
    have:=z.gC r B;have U:=(z.kP B (p:=x) O O).1;have R:=(z.pg.fr x).1 (E x O O);omega
   have i:cD A sp (b:Int) (w:Int)=({dU A1 x b 41 with runs:=A.runs++[(x,b)]},sp1):=by
    unfold cD;rw[zB hp,dE,dE,hg];show({dU A1 x b 41 with runs:=cD.mset2 A1.runs x b},sp1)=_;rw[d.1,P8 C]
   have F:=z.xl O E;rw[d.1]at F;have kp:=MD z.pg (no:=41) O O E;refine⟨x,A1,sp1,hp,by rw[G,hg];rfl,by rw[J,hg];rfl,by rw[dE];exact i,by rw[dE,dE];exact htk,by rw[dE,dE];exact hor,?_,by rw[i];exact d.2.1,λj y=>?_⟩
   ·rw[i];exact u.trans (St.kp F u.ow (kp.trans (Kp.aF rfl rfl rfl rfl)))
   ·rw[i];have Q:({dU A1 x b 41 with runs:=A.runs++[(x,b)]}:AR).tb=A.tb:=u.tb;have K:({dU A1 x b 41 with runs:=A.runs++[(x,b)]}:AR).cB=A.cB:=d.2.2;unfold fA Cl;rw[Q,K]
 ·left;have D:Ky m a=false:=by simpa using hp
  unfold cD QG;rw[D];exact⟨rfl,by simp,λL=>by cases L⟩
theorem Tq {x:Int}{r:Nat×Nat}(h:uz A x=some r):r∈A.runs/\x=(r.1:Int):=by
 unfold uz at h;exact⟨wq h,by have:=wk h;simpa using Eq.symm (by simpa using this)⟩
theorem Wis (h:GA A)(x:Int):(Kp A (QO A x)/\GA (QO A x))/\(QO A x).cE=A.cE/\(∀j y,fA (QO A x) j y↔fA A j y)/\(Ve A x≠0->QO A x=A) ∧
 (Ve A x=0->∃r∈A.runs,x=(r.1:Int)/\(QO A x).runs=A.runs.filter λq=>!(q==r)):=by
 cases hr:uz A x with
 | none=>
  have e:QO A x=A:=by unfold QO;rw[hr]
  have D:Ve A x=8:=by unfold Ve;rw[hr];rfl
  rw[e,D];exact⟨⟨Kp.refl A,h⟩,rfl,λ_ _=>Iff.rfl,λ_=>rfl,λi=>by cases i⟩
 | some r=>
  obtain⟨b,i⟩:=Tq hr;have u:=h.gC r b;have w:A.runs.filter (λq=>!((q.1:Int)==x))=A.runs.filter λq=>!(q==r):=by
   apply yE;intro q g;have:((q.1:Int)==x)=(q==r):=by
    rw[qN];simp only[zY];constructor
    ·intro e;have G:=h.gC q g;exact h.gN g b (x:=q.1) O O O O
    ·rintro rfl;exact i.symm
   rw[this]
  have e:QO A x=Ui {A with runs:=A.runs.filter λq=>!(q==r)} r:=by unfold QO;rw[hr];simp only;rw[w]
  have D:Ve A x=0:=by unfold Ve;rw[hr];rfl
  obtain⟨a,m⟩:=r;obtain⟨o,B,pg,H⟩:=Lw (A:={A with runs:=A.runs.filter λq=>!(q==(a,m))}) (h.pg.same rfl rfl rfl rfl) u (λp E F=>(h.kP b E F).1);have own:∀p,a<=p->p<a+m->A.ow p=41:=λp E F=>(h.kP b E F).2;have J:=h.tb;rw[e,D];refine⟨⟨⟨rfl,rfl,rfl,H,λp C=>?_⟩,?_⟩,rfl,λ_ _=>Iff.rfl,λi=>(i rfl).elim,λ_=>⟨_,b,i,rfl⟩⟩
  ·by_cases hin:a<=p/\p<a+m
   ·rw[(B p hin.1 hin.2).1]at C;omega
   ·rw[o.f p hin]at C;exact C
  ·refine⟨pg,h.tb,h.lc,h.lt,h.cB,h.one,λj d tt s p=>?_,λp=>?_,λp=>?_,λq g=>h.gC q (zF.1 g).1,h.kM.filter _,h.rQ,h.nV,h.rj⟩
   ·have s:Cl A j d tt:=s;have:=s.lt;by_cases hin:a<=p/\p<a+m
    ·rw[(B p hin.1 hin.2).2,←h.ow j d tt s p,own p hin.1 hin.2];omega
    ·rw[o.ow p hin];exact h.ow j d tt s p
   ·show _↔jG (A.runs.filter λq=>!(q==(a,m))) p;by_cases hin:a<=p/\p<a+m
    ·rw[(B p hin.1 hin.2).2];constructor
     ·intro i;omega
     ·rintro⟨q,g,q1,q2⟩;have z:=zF.1 g;have:=h.gN z.1 b q1 q2 hin.1 hin.2;subst this;simp at z
    ·rw[o.ow p hin];show A.ow p=41↔_;rw[h.kB];constructor
     ·rintro⟨q,g,q1⟩;refine⟨q,zF.2 ⟨g,?_⟩,q1⟩;have:q≠(a,m):=by rintro rfl;exact hin q1
      simpa using this
     ·rintro⟨q,g,q1⟩;exact⟨q,(zF.1 g).1,q1⟩
   ·by_cases hin:a<=p/\p<a+m
    ·rw[(B p hin.1 hin.2).2];omega
    ·rw[o.ow p hin];exact h.tE p
theorem Win (hk:Cl A k c ss):QV A k=swp A k c ss:=by unfold QV swp;rw[hk.1,hk.2]
theorem Np (h:GA A):∀m,m<=A.tb.length->Ob A ((List.range m).foldl QV A)/\((List.range m).foldl QV A).cE=A.cE/\∀j y,fA ((List.range m).foldl QV A) j y↔fA A j y
 | 0,_=>⟨⟨h,Kp.refl A,rfl⟩,rfl,λ_ _=>Iff.rfl⟩
 | m+1,hm=>by
  obtain⟨o,e,t⟩:=Np h m O;rw[mD,pY,oE,List.foldl_nil];generalize (List.range m).foldl QV A=B at o e t;obtain⟨c,d,_,a,_⟩:=o.ga.cl (k:=m) (by rw[o.kp.tb];omega);rw[Win a];have b:=o.ga.tQ a;exact⟨⟨o.ga.swp a,o.kp.trans (o.ga.AU a),b.runs.trans o.runs⟩,b.cE.trans e,λj y=>(o.ga.Bi a).trans (t j y)⟩
theorem UA (h:GA A):Ob A (YL A)/\(YL A).cE=A.cE/\∀j y,fA (YL A) j y↔fA A j y:=Np h _ (zD _)
theorem F6 (k:Nat):∀(outs:List (List Int)) {A:AR},GA A->outs.flatten.Nodup->(∀x∈outs.flatten,fA A k x/\¬iI A k x) →
 Ob A (outs.foldl (λA' xs=>Zf A' (k:Int) xs) A)/\(outs.foldl (λA' xs=>Zf A' (k:Int) xs) A).cE=A.cE/\∀j y,fA (outs.foldl (λA' xs=>Zf A' (k:Int) xs) A) j y↔fA A j y/\¬(j=k/\y∈outs.flatten)
 | [],A,h,_,_=>⟨⟨h,Kp.refl A,rfl⟩,rfl,by simp⟩
 | xs::outs,A,h,hn,ht=>by
  rw[yW]at hn ht;have hn':=qQ.1 hn;have m:∀x∈xs,fA A k x/\¬iI A k x:=λx i=>ht x (qP _ i);rw[oE];cases xs with
  | nil=>
   have s:Zf A (k:Int) []=A\/Q5 A (k:Int) []=0:=by
    by_cases w:Q5 A (k:Int) []=0
    ·exact .inr w
    ·exact .inl (by unfold Zf;rw[zA w])
   obtain⟨o,e,t,_⟩:=Fs h (k:=(k:Int)) (xs:=[]) (λ_=>by simp);have u:∀j y,fA (Zf A (k:Int) []) j y↔fA A j y:=λj y=>by
    rcases s with s|s
    ·rw[s]
    ·rw[t s];simp
   have p:∀j y,iI (Zf A (k:Int) []) j y↔iI A j y:=λj y=>by unfold iI;rw[e]
   obtain⟨o2,z,B⟩:=F6 k outs o.ga hn'.2.1 λx i=>by rw[u,p];exact ht x (sY _ i)
   exact⟨⟨o2.ga,o.kp.trans o2.kp,o2.runs.trans o.runs⟩,z.trans e,λj y=>by rw[B,u];simp⟩
  | cons x0 xs=>
   obtain⟨c,D,C,_⟩:=(m x0 aA).1;have w:Q5 A (k:Int) (x0::xs)=0:=by
    rw[GH h C];exact M3 ⟨λx i=>(KB C).1 (m x i).1,hn'.1⟩
   obtain⟨o,e,t,_⟩:=Fs h (k:=(k:Int)) (xs:=x0::xs) (λ_ x i=>by rw[dE];exact(m x i).2);have u:=t w;have p:∀j y,iI (Zf A (k:Int) (x0::xs)) j y↔iI A j y:=λj y=>by unfold iI;rw[e]
   obtain⟨o2,z,B⟩:=F6 k outs o.ga hn'.2.1 λx i=>by
    rw[u,p];have:=ht x (sY _ i);exact⟨⟨this.1,λg=>hn'.2.2 x g.2 x i rfl⟩,this.2⟩
   refine⟨⟨o2.ga,o.kp.trans o2.kp,o2.runs.trans o.runs⟩,z.trans e,λj y=>?_⟩;rw[B,u,dE,yW,zU];constructor
   ·rintro⟨⟨a,b⟩,d⟩;refine⟨a,λ⟨r,g⟩=>?_⟩;rcases g with g|g
    ·exact b ⟨r,g⟩
    ·exact d ⟨r,g⟩
   ·rintro⟨a,b⟩;exact⟨⟨a,λ⟨r,g⟩=>b ⟨r,.inl g⟩⟩,λ⟨r,g⟩=>b ⟨r,.inr g⟩⟩
structure xY (A B:AR):Prop where
 ob:Ob A B
 sub:∀j y,iI B j y->iI A j y
 tk:∀j y,fA B j y↔fA A j y/\(iI A j y->iI B j y)
theorem xY.trans {B C:AR}(h:xY A B)(k:xY B C):xY A C:=
 ⟨⟨k.ob.ga,h.ob.kp.trans k.ob.kp,k.ob.runs.trans h.ob.runs⟩,λj y g=>h.sub j y (k.sub j y g),λj y=>by
  rw[k.tk,h.tk];exact⟨λ⟨⟨a,b⟩,d⟩=>⟨a,λe=>d (b e)⟩,λ⟨a,b⟩=>⟨⟨a,λe=>k.sub j y (b e)⟩,λe=>b (h.sub j y e)⟩⟩⟩
theorem WiS (h:GA A)(hk:k<A.tb.length):xY A (KH A k):=by
 obtain⟨c,G,t,D,m⟩:=h.cl hk;have u:k<A.cE.length:=by rw[h.lt];exact hk
 have e:KH A k=t.out.foldl (λA' w=>Zf A' (k:Int) w) {A with cE:=A.cE.set k t.tick}:=by unfold KH;rw[m]
 have C:t.bs=t.out++t.tick.bs:=(qL ((t.low+1)/2) t.bs).symm;have i:t.bs.flatten=t.out.flatten++t.tick.bs.flatten:=by conv=>lhs;rw[C];rw[D7]
 have p:=h.rQ k t m;rw[i]at p;have g:=qQ.1 p;have s:∀x∈t.bs.flatten,fA A k x:=λx d=>(KB D).2 (h.nV k c G t D m x d);have J:GA {A with cE:=A.cE.set k t.tick}:=h.mQ g.2.1 (λx d=>s x (by rw[i];exact sY _ d)) λH z w B=>h.rj k H t z m w (t.pL w B);obtain⟨o,F,E⟩:=F6 k t.out J g.1 λx d=>by
  refine⟨s x (by rw[i];exact qP _ d),?_⟩;rw[BL u];rintro(⟨_,hy⟩|⟨hy,_⟩)
  ·exact g.2.2 x d x hy rfl
  ·exact hy rfl
 rw[←e]at o F E;have r:∀j y,iI (KH A k) j y↔(j=k/\y∈t.tick.bs.flatten)\/(j≠k/\iI A j y):=λj y=>by
  rw[←BL u];unfold iI;rw[F]
 refine⟨⟨o.ga,(Kp.aF rfl rfl rfl rfl:Kp A {A with cE:=A.cE.set k t.tick}).trans o.kp,o.runs⟩,λj y d=>?_,λj y=>?_⟩
 ·rcases(r j y).1 d with⟨rfl,hy⟩|⟨_,hy⟩
  ·rw[UG m,i];exact sY _ hy
  ·exact hy
 ·rw[E,r];show fA A j y/\_↔_;by_cases hjk:j=k
  ·subst hjk;rw[UG m,i,zU];constructor
   ·rintro⟨a,b⟩;refine⟨a,λd=>?_⟩;rcases d with d|d
    ·exact(b ⟨rfl,d⟩).elim
    ·exact .inl ⟨rfl,d⟩
   ·rintro⟨a,b⟩;refine⟨a,λ⟨_,d⟩=>?_⟩;rcases b (.inl d)with⟨_,hy⟩|⟨hy,_⟩
    ·exact g.2.2 y d y hy rfl
    ·exact hy rfl
  ·exact⟨λ⟨a,_⟩=>⟨a,λd=>.inr ⟨hjk,d⟩⟩,λ⟨a,_⟩=>⟨a,λ⟨d,_⟩=>hjk d⟩⟩
theorem J9 (h:GA A):∀m,m<=A.tb.length->xY A ((List.range m).foldl KH A)
 | 0,_=>⟨⟨h,Kp.refl A,rfl⟩,λ_ _=>id,λ_ _=>⟨λa=>⟨a,id⟩,λa=>a.1⟩⟩
 | m+1,hm=>by
  have t:=J9 h m O;rw[mD,pY,oE,List.foldl_nil];exact t.trans (WiS t.ob.ga (by rw[t.ob.kp.tb];omega))
theorem WkI (h:GA A):xY A (Hr A):=J9 h _ (by rw[h.lt];exact zD _)
end Go.Ar
namespace Go.Ar
open Go.Bu (Zg QW lU Zv uo iR Vs Uj dK take Kw Ku Bounded)
variable {A:AR}{sp:Sp}{k:Nat}{c:bY}{ss:List cH}
theorem EP {st:List Nat}{a m v:Nat}(hl:a+m<=st.length):v∈(st.drop a).take m↔∃p,a<=p/\p<a+m/\gf st p=v:=by
 constructor
 ·intro hm;obtain⟨i,b⟩:=zM hm;rw[zb]at b;split at b
  ·rename_i hlt;rw[zq]at b;refine⟨a+i,O,O,?_⟩;unfold gf;rw[zL,b];rfl
  ·cases b
 ·rintro⟨p,h1,h2,h3⟩;have d:p<st.length:=by omega
  unfold gf at h3;rw[zL,cM d]at h3;refine zE (i:=p-a) ?_;rw[zb,zB O,zq,show a+(p-a)=p by omega,cM d];exact congrArg some h3
theorem HB {st:List Nat}{a b v:Nat}(hab:a<=b)(hb:b<=st.length):gD st a b v=0↔∀p,a<=p->p<b->gf st p≠v:=by
 unfold gD;rw[yn,EP O];constructor
 ·intro h p e g d;exact h ⟨p,e,O,d⟩
 ·rintro h ⟨p,e,g,d⟩;exact h p e O d
theorem Og {s m v:Nat}(h1:1<=m)(h2:s+m<=sp.st.length)(h:∀p,s<=p->p<s+m->gf sp.st p≠0):dX sp (s:Int) (m:Int) v=sp.set s m v:=by
 unfold dX fE;rw[zB (Vx.2 ⟨h1,h2⟩),dE,dE,(Wiq h2).2 h];rfl
theorem JX {s m v:Nat}(h2:s+m<=sp.st.length)(p:Nat):gf (sp.set s m v).st p=if s<=p/\p<s+m then v else gf sp.st p:=HM h2
theorem I9 {s m v x:Nat}(h:¬(s<=x/32/\x/32<s+m)):(sp.set s m v).wd x=sp.wd x:=by
 show(if s*32<=x/\x<(s+m)*32 then 0 else sp.wd x)=_
 rw[zA O]
structure DG (A B:AR) (sp sp':Sp) (l:List Nat):Prop where
 st:St A B sp sp'
 f:∀p,B.f p=if p/16∈l then 0 else A.f p
 ow:B.ow=A.ow
 cE:B.cE=A.cE
 cB:B.cB=A.cB
 runs:B.runs=A.runs
 wd:∀x,x/32/16∉l->sp'.wd x=sp.wd x
 gf:∀p,p/16∉l->gf sp'.st p=gf sp.st p
 pk:sp'.pk=sp.pk
theorem Ry (h:GA A)(hw:Ow A sp){g:Nat}(hg:16*g+16<=A.n)(hi:∀p,p/16=g->2<=A.f p):DG A (VB (A,sp) g).1 sp (VB (A,sp) g).2 [g]:=by
 have w:∀p,16*g<=p/\p<16*g+16↔p/16=g:=λp=>by omega
 have E:(VB (A,sp) g).1.st=fX A.st (16*g) (16*g+16) 0:=by
  show lD A.st (g:Int)=_;have z:yu A.st g=true:=by
   unfold yu;have r:=hi (16*g) O;have i:=(HB (st:=A.st) (a:=16*g) (b:=16*g+16) (v:=1) O (by rw[h.pg.len];exact hg)).2 λp D F e=>by
    have:=hi p O;unfold AR.f at this;omega
   unfold AR.f gf at r;have B:A.st.getD (16*g) 0≠0:=by omega
   rw[i,bne_iff_ne.2 B];rfl
  unfold lD oY;rw[UV (by rw[h.pg.len];exact hg),zB rfl,dE,z];rfl
 have H:(VB (A,sp) g).1.S=take A.S (g*16) (g*16+16):=WmP (n:=A.n) (S:=A.S) (a:=g*16) (m:=16) O O λp D F=>by rw[h.pg.fr];exact hi p O
 have y:(VB (A,sp) g).2=sp.set (g*16) 16 0:=Og (sp:=sp) (s:=g*16) (m:=16) (v:=0) O (by rw[hw.l];omega) λp D F=>hw.own p (by have:=hi p O;omega);have C:g*16+16<=sp.st.length:=by rw[hw.l];omega
 have j:∀p,(VB (A,sp) g).1.f p=if p/16=g then 0 else A.f p:=λp=>by
  unfold AR.f;rw[E,HM (by rw[h.pg.len];exact hg)];by_cases hp:p/16=g
  ·rw[zB hp,zB ((w p).2 hp)]
  ·rw[zA hp,zA (λd=>hp ((w p).1 d))]
 have u:∀p,gf (VB (A,sp) g).2.st p=if p/16=g then 0 else gf sp.st p:=λp=>by
  rw[y,JX C];by_cases hp:p/16=g
  ·rw[zB hp,zB O]
  ·rw[zA hp,zA O]
 have pg:PG (VB (A,sp) g).1:=by
  refine⟨by rw[E,Qp];exact h.pg.len,h.pg.n1,h.pg.n2,h.pg.n16,λp=>?_,λp=>?_,λp=>?_,λp=>?_⟩
  ·rw[j];have:=h.pg.le p;split<;>omega
  ·rw[j];show _↔A.ow p≠0;have:=h.pg.us p;by_cases hp:p/16=g
   ·rw[zB hp];have:=hi p hp;constructor
    ·intro d;omega
    ·intro d;have:=(h.pg.us p).2 d;omega
   ·rw[zA hp];exact this
  ·rw[j,H,Ku];have:=h.pg.fr p;by_cases hp:p/16=g
   ·rw[zB hp];constructor
    ·rintro⟨_,d⟩;exact(d O).elim
    ·intro d;omega
   ·rw[zA hp];constructor
    ·rintro⟨d,_⟩;exact this.1 d
    ·intro d;exact⟨this.2 d,O⟩
  ·rw[j,j];have e:p/16*16/16=p/16:=by omega
   rw[e];split
   ·exact Iff.rfl
   ·exact h.pg.hp p
 have J:GA (VB (A,sp) g).1:=⟨pg,h.tb,h.lc,h.lt,h.cB,h.one,h.ow,h.kB,h.tE,h.gC,h.kM,h.rQ,h.nV,h.rj⟩;refine⟨⟨J,⟨by rw[y];show(fX _ _ _ _).length=A.n;rw[Qp];exact hw.l,λp hp=>?_,λp hp=>?_,λp=>?_⟩,rfl,rfl,rfl,λp r i=>?_,λp r i=>?_,λp r i=>?_⟩,λp=>?_,rfl,rfl,rfl,rfl,λx d=>?_,λp hp=>?_,?_⟩
 ·rw[j]at hp;rw[u];split at hp
  ·exact(hp rfl).elim
  ·rename_i hn;rw[zA hn];exact hw.own p hp
 ·rw[j]at hp;rw[u];split at hp
  ·cases hp
  ·rename_i hn;rw[zA hn];exact hw.cl p hp
 ·rw[u];have:=hw.le p;split<;>omega
 ·rw[u];by_cases hp:p/16=g
  ·have:=hi p hp;omega
  ·rw[zA hp]
 ·rw[j]at i;rw[u];split at i
  ·rename_i hp;rw[zB hp]
  ·exact(r i).elim
 ·rw[j]at i;split at i
  ·exact(i rfl).elim
  ·exact(i r).elim
 ·rw[j];simp
 ·rw[y];exact I9 λG=>d aE
 ·rw[u,zA (by simpa using hp)]
 ·rw[y];rfl
theorem LC:∀(l:List Nat) {A:AR} {sp:Sp},GA A->Ow A sp->l.Nodup->(∀g∈l,16*g+16<=A.n/\∀p,p/16=g->2<=A.f p)->DG A (l.foldl VB (A,sp)).1 sp (l.foldl VB (A,sp)).2 l
 | [],A,sp,h,hw,_,_=>⟨St.refl h hw,λp=>by simp,rfl,rfl,rfl,rfl,λ_ _=>rfl,λ_ _=>rfl,rfl⟩
 | g::l,A,sp,h,hw,hn,hi=>by
  have hn':=zr.1 hn;have t:=Ry h hw (hi g aA).1 (hi g aA).2;have k:=LC l (A:=(VB (A,sp) g).1) (sp:=(VB (A,sp) g).2) t.st.ga t.st.ow hn'.2 λe a=>by
   refine⟨by rw[t.st.n];exact(hi e (by simp[a])).1,λp b=>?_⟩;rw[t.f,zA (by simp;rintro rfl;exact hn'.1 (b▸a))];exact(hi e (by simp[a])).2 p b
  rw[oE];refine⟨t.st.trans k.st,λp=>?_,k.ow.trans t.ow,k.cE.trans t.cE,k.cB.trans t.cB,k.runs.trans t.runs,λx d=>?_,λp b=>?_,k.pk.trans t.pk⟩
  ·rw[k.f,t.f];by_cases h1:p/16∈l
   ·rw[zB h1,zB (by simp[h1])]
   ·rw[zA h1];by_cases h2:p/16=g
    ·rw[zB (by simp[h2]),zB (by simp[h2])]
    ·rw[zA (by simp[h2]),zA (by simp[h1,h2])]
  ·simp only[zR,not_or]at d;exact(k.wd x d.2).trans (t.wd x (by simpa using d.1))
  ·simp only[zR,not_or]at b;exact(k.gf p b.2).trans (t.gf p (by simpa using b.1))
theorem Ny (h:GA A){g:Nat}:g∈Kt A.st 0↔16*g+16<=A.n/\∀p,p/16=g->2<=A.f p:=by
 have u:=h.pg.n16;unfold Kt;rw[zF,zQ,h.pg.len];have m:∀(d:16*g+16<=A.n),(Vb A.st g==0)=true↔∀p,p/16=g->A.f p≠1:=λd=>by
  have i:=HB (st:=A.st) (a:=16*g) (b:=16*g+16) (v:=1) O (by rw[h.pg.len];exact d);have e:(Vb A.st g==0)=true↔gD A.st (16*g) (16*g+16) 1=0:=by
   unfold Vb;split
   ·rename_i hx;simp[hx]
   ·rename_i hx;constructor
    ·intro hy;split at hy<;>simp at hy
    ·intro hy;exact(hx hy).elim
  rw[e,i];constructor
  ·intro hx p j;exact hx p O O
  ·intro hx p p1 p2;exact hx p O
 simp only[zG,bne_iff_ne,ne_eq];constructor
 ·rintro⟨h1,i,h3⟩;have d:16*g+16<=A.n:=by omega
  refine⟨d,λp j=>?_⟩;have r:=(m d).1 h3 p j;have s:A.f p≠0:=λe=>i ((h.pg.mC (q:=16*g) O).1 e);omega
 ·rintro⟨d,i⟩;refine⟨O,λe=>?_,(m d).2 λp j e=>?_⟩
  ·have e:A.f (16*g)=0:=e;have:=i (16*g) O;omega
  ·have:=i p j;omega
theorem T2 (st:List Nat)(k:Nat):(Kt st k).Nodup:=List.nodup_range.filter _
theorem τ (h:GA A)(hw:Ow A sp):DG A (eL A sp).1 sp (eL A sp).2 (Kt A.st 0):=LC _ h hw (T2 _ _) λg a=>(Ny h).1 a
structure DJ (A B:AR) (sp sp':Sp) (rs:List (Nat×Nat)):Prop where
 st:St A B sp sp'
 i:∀p,jG rs p->A.f p=2/\B.f p=3/\gf sp'.st p=1
 o:∀p,¬jG rs p->B.f p=A.f p/\gf sp'.st p=gf sp.st p
 ow:B.ow=A.ow
 cE:B.cE=A.cE
 cB:B.cB=A.cB
 runs:B.runs=A.runs
 wd:∀x,¬jG rs (x/32)->sp'.wd x=sp.wd x
 pk:sp'.pk=sp.pk
theorem RJ (h:GA A)(hw:Ow A sp){a m:Nat}(h1:1<=m)(hi:∀p,a<=p->p<a+m->A.f p=2):DJ A (fF (A,sp) (a,m)).1 sp (fF (A,sp) (a,m)).2 [(a,m)]:=by
 have z:a+m<=A.n:=by have:=h.pg.lt (p:=a+m-1) (by rw[hi _ O O];omega);omega
 have d:∀p,jG [(a,m)] p↔a<=p/\p<a+m:=λp=>by simp[jG]
 have B:(fF (A,sp) (a,m)).1.st=fX A.st a (a+m) 3:=EK h1 (by rw[h.pg.len];exact z) λp w y=>by
  have:=hi p w y;unfold AR.f at this;rw[this];simp
 have j:a+m<=sp.st.length:=by rw[hw.l];exact z
 have s:(fF (A,sp) (a,m)).2=sp.set a m 1:=Og h1 j λp w y=>hw.own p (by rw[hi p w y];omega);have g:∀p,(fF (A,sp) (a,m)).1.f p=if a<=p/\p<a+m then 3 else A.f p:=λp=>by unfold AR.f;rw[B,HM (by rw[h.pg.len];exact z)]
 have i:∀p,gf (fF (A,sp) (a,m)).2.st p=if a<=p/\p<a+m then 1 else gf sp.st p:=λp=>by rw[s,JX j]
 have r:∀p,(fF (A,sp) (a,m)).1.f p=0↔A.f p=0:=λp=>by
  rw[g];split
  ·rename_i b;rw[hi p b.1 b.2];omega
  ·exact Iff.rfl
 have pg:PG (fF (A,sp) (a,m)).1:=by
  refine⟨by rw[B,Qp];exact h.pg.len,h.pg.n1,h.pg.n2,h.pg.n16,λp=>?_,λp=>?_,λp=>?_,IA h.pg r⟩
  ·rw[g];have:=h.pg.le p;split<;>omega
  ·rw[g];show _↔A.ow p≠0;rw[←h.pg.us p];split
   ·rename_i b;rw[hi p b.1 b.2];omega
   ·exact Iff.rfl
  ·rw[g];show A.S p=true↔_;rw[h.pg.fr p];split
   ·rename_i b;rw[hi p b.1 b.2];omega
   ·exact Iff.rfl
 have D:GA (fF (A,sp) (a,m)).1:=⟨pg,h.tb,h.lc,h.lt,h.cB,h.one,h.ow,h.kB,h.tE,h.gC,h.kM,h.rQ,h.nV,h.rj⟩;refine⟨⟨D,⟨by rw[s];show(fX _ _ _ _).length=A.n;rw[Qp];exact hw.l,λp b=>?_,λp b=>?_,λp=>?_⟩,rfl,rfl,rfl,λp h1 u=>?_,λp h1 u=>(h1 ((r p).1 u)).elim,λp h1 u=>(u ((r p).2 h1)).elim⟩,λp b=>?_,λp b=>?_,rfl,rfl,rfl,rfl,λx C=>?_,?_⟩
 ·rw[i];split
  ·omega
  ·rename_i hn;exact hw.own p λe=>b ((r p).2 e)
 ·rw[g]at b;rw[i];split at b
  ·rename_i hn;rw[zB hn]
  ·rename_i hn;rw[zA hn];exact hw.cl p b
 ·rw[i];have:=hw.le p;split<;>omega
 ·rw[i,zA λb=>by have:=hi p b.1 b.2;omega]
 ·rw[d]at b;rw[g,i,zB b,zB b];exact⟨hi p b.1 b.2,rfl,rfl⟩
 ·rw[d]at b;rw[g,i,zA b,zA b];exact⟨rfl,rfl⟩
 ·rw[d]at C;rw[s];exact I9 C
 ·rw[s];rfl
theorem Jm:∀(rs:List (Nat×Nat)) {A:AR} {sp:Sp},GA A->Ow A sp->(∀r∈rs,1<=r.2/\∀p,r.1<=p->p<r.1+r.2->A.f p=2)->rs.Pairwise (λa b=>a.1+a.2<=b.1\/b.1+b.2<=a.1) →
 DJ A (rs.foldl fF (A,sp)).1 sp (rs.foldl fF (A,sp)).2 rs
 | [],A,sp,h,hw,_,_=>⟨St.refl h hw,λp ⟨r,hr,_⟩=>by simp at hr,λp _=>⟨rfl,rfl⟩,rfl,rfl,rfl,rfl,λ_ _=>rfl,rfl⟩
 | (a,m)::rs,A,sp,h,hw,hi,hd=>by
  have hd':=pB.1 hd;have j:=hi (a,m) (nE ..);have t:=RJ h hw j.1 j.2;have e:∀p,jG [(a,m)] p↔a<=p/\p<a+m:=λp=>by simp[jG]
  have d:∀p,jG ((a,m)::rs) p↔(a<=p/\p<a+m)\/jG rs p:=λp=>by simp[jG]
  have k:=Jm rs (A:=(fF (A,sp) (a,m)).1) (sp:=(fF (A,sp) (a,m)).2) t.st.ga t.st.ow (λr hr=>by
   have:=hi r (mJ _ hr);refine⟨this.1,λp C B=>?_⟩;have w:=hd'.1 r hr;simp only at w;rw[(t.o p (by rw[e];omega)).1];exact this.2 p C B) hd'.2
  rw[oE];refine⟨t.st.trans k.st,λp u=>?_,λp u=>?_,k.ow.trans t.ow,k.cE.trans t.cE,k.cB.trans t.cB,k.runs.trans t.runs,λx w=>?_,k.pk.trans t.pk⟩
  ·by_cases s:jG rs p
   ·have:=k.i p s;refine⟨?_,this.2⟩;by_cases g:a<=p/\p<a+m
    ·exact j.2 p g.1 g.2
    ·rw[←(t.o p (by rw[e];exact g)).1];exact this.1
   ·have g:a<=p/\p<a+m:=((d p).1 u).resolve_right s;have y:=t.i p ((e p).2 g);have z:=k.o p s;exact⟨y.1,z.1.trans y.2.1,z.2.trans y.2.2⟩
  ·rw[d]at u;have s:¬jG rs p:=λh=>u (.inr h);have g:¬jG [(a,m)] p:=λh=>u (.inl ((e p).1 h));exact⟨(k.o p s).1.trans (t.o p g).1,(k.o p s).2.trans (t.o p g).2⟩
  ·rw[d]at w;exact(k.wd x λh=>w (.inr h)).trans (t.wd x λh=>w (.inl ((e _).1 h)))
theorem OL {st:List Nat}{p m:Nat}(hl:p+m<=st.length):gB st p m<=m/\(∀x,p<=x->x<p+gB st p m->gf st x=2)/\(gB st p m<m->gf st (p+gB st p m)≠2):=by
 have key:∀(l:List Nat),(l.takeWhile (· == 2)).length<=l.length/\(∀i,i<(l.takeWhile (· == 2)).length->l[i]?=some 2)/\((l.takeWhile (· == 2)).length<l.length->l[(l.takeWhile (· == 2)).length]?≠some 2):=by
  intro l
  induction l with
  | nil=>simp
  | cons x l ih=>
   rw[Ap];by_cases hx:x=2
   ·subst hx;simp only[beq_self_eq_true,zW,zN];refine⟨O,λi g=>?_,λa=>?_⟩
    ·cases i with
     | zero=>rfl
     | succ i=>simpa using ih.2.1 i O
    ·simpa using ih.2.2 O
   ·have:(x==2)=false:=by simpa using hx
    simp[this,hx]
 have k:=key ((st.drop p).take m);have d:((st.drop p).take m).length=m:=by simp;omega
 have get:∀i,i<m->((st.drop p).take m)[i]?=some (gf st (p+i)):=λi g=>by
  rw[zb,zB g,zq];unfold gf;rw[zL,cM O];rfl
 rw[d]at k;refine⟨k.1,λx s j=>?_,λa=>?_⟩
 ·have b:=k.2.1 (x-p) (by unfold gB at j;omega);have r:gB st p m<=m:=k.1;rw[get _ O,show p+(x-p)=x by omega]at b;exact Option.some.inj b
 ·have b:=k.2.2 a;have e:(((st.drop p).take m).takeWhile (· == 2)).length=gB st p m:=rfl;rw[e,get _ a]at b;exact λe=>b (congrArg some e)
theorem VI {st:List Nat}{e:Nat}(he:e<=st.length):∀(f p:Nat),(∀r∈Q7 st e f p,1<=r.2/\p<=r.1/\r.1+r.2<=e/\∀x,r.1<=x->x<r.1+r.2->gf st x=2)/\(Q7 st e f p).Pairwise (λa b=>a.1+a.2<=b.1) ∧
 (e-p<f->∀x,p<=x->x<e->gf st x=2->jG (Q7 st e f p) x)/\((Q7 st e f p).map (·.2)).sum<=e-p
 | 0,p=>⟨by simp[Q7],by simp[Q7],λh=>O,by simp[Q7]⟩
 | f+1,p=>by
  rw[Q7];split
  ·rename_i hp;exact⟨by simp,by simp,λ_ x h1 h2=>O,by simp⟩
  ·rename_i hp;have hr:=OL (st:=st) (p:=p) (m:=e-p) O;split
   ·rename_i h0;obtain⟨i,s,j,u⟩:=VI he f (p+1);refine⟨λr d=>?_,s,λy x h1 h2 g=>?_,O⟩
    ·have:=i r d;exact⟨this.1,O,this.2.2⟩
    ·by_cases hx:x=p
     ·subst hx;rw[h0]at hr;exact(hr.2.2 O (by simpa using g)).elim
     ·exact j O x O h2 g
   ·rename_i h0;obtain⟨i,s,j,u⟩:=VI he f (p+gB st p (e-p)+1);refine⟨λr d=>?_,pB.2 ⟨λr d=>?_,s⟩,λy x h1 h2 g=>?_,?_⟩
    ·rcases zR.1 d with rfl|d
     ·exact⟨by simp only;omega,zD _,by simp only;omega,hr.2.1⟩
     ·have:=i r d;exact⟨this.1,O,this.2.2⟩
    ·have:=i r d;simp only;omega
    ·by_cases hx:x<p+gB st p (e-p)
     ·exact⟨_,nE ..,h1,hx⟩
     ·by_cases hx2:x=p+gB st p (e-p)
      ·subst hx2;exact(hr.2.2 O g).elim
      ·obtain⟨r,d,w⟩:=j O x O h2 g;exact⟨r,mJ _ d,w⟩
    ·simp only[zH,zS];omega
theorem RN (st:List Nat)(l:List Nat)(h:Nat):(qE st l h).Perm (h::l):=by
 unfold qE;refine List.perm_middle.trans ?_;rw[FN]
theorem Ol (st:List Nat):(eN st).Perm ((List.range (st.length/16)).filter λh=>0<gD st (16*h) (16*h+16) 2):=by
 unfold eN;have key:∀(l m:List Nat),(l.foldl (qE st) m).Perm (l++m):=by
  intro l
  induction l with
  | nil=>intro m;exact List.Perm.refl _
  | cons x l ih=>
   intro m;rw[oE,oR];refine(ih _).trans ?_;refine((RN st m x).append_left l).trans ?_;exact List.perm_middle
 simpa using key _ []
theorem Ea (want:Int):∀(x:Nat) (l:List (Nat×Nat)),(gQ want x l).Sublist l
 | x,[]=>by simp[gQ]
 | x,r::l=>by
  rw[gQ];split
  ·exact List.nil_sublist _
  ·exact(Ea want (x+r.2) l).cons_cons r
theorem MQ {want:Int}:∀(x:Nat) (l:List (Nat×Nat)),(∀r∈l,1<=r.2)->((x+(l.map (·.2)).sum:Nat):Int)<=want->gQ want x l=l
 | x,[],_,_=>by simp[gQ]
 | x,r::l,hp,hs=>by
  have:=hp r aA;simp only[zH,zS]at hs;rw[gQ,zA O,MQ (x+r.2) l (λq a=>hp q (by simp[a])) O]
theorem ζ {st:List Nat}(h16:st.length%16=0):(∀r∈(eN st).flatMap (Vd st),1<=r.2/\∀x,r.1<=x->x<r.1+r.2->gf st x=2)/\((eN st).flatMap (Vd st)).Pairwise (λa b=>a.1+a.2<=b.1\/b.1+b.2<=a.1) ∧
 (∀x,gf st x=2->jG ((eN st).flatMap (Vd st)) x)/\(((eN st).flatMap (Vd st)).map (·.2)).sum<=st.length:=by
 have p:=Ol st;have d:∀h∈eN st,16*h+16<=st.length:=λh y=>by
  have:=(zF.1 (p.subset y)).1;rw[zQ]at this;omega
 have u:(eN st).Nodup:=p.nodup_iff.2 (List.nodup_range.filter _);have C:(eN st).length<=st.length/16:=by
  rw[p.length_eq];exact zJ (qB _ _) aA
 refine⟨λr j=>?_,?_,λx D=>?_,?_⟩
 ·obtain⟨h,y,j⟩:=tv.1 j;have:=(VI (d h y) 17 (16*h)).1 r j;exact⟨this.1,this.2.2.2⟩
 ·have key:∀l:List Nat,l.Nodup->(∀h∈l,16*h+16<=st.length)->(l.flatMap (Vd st)).Pairwise (λa b=>a.1+a.2<=b.1\/b.1+b.2<=a.1):=by
   intro l
   induction l with
   | nil=>intro _ _;simp
   | cons h l ih=>
    intro s hl;have s:=zr.1 s;rw[qb];refine tZ.2 ⟨(VI (hl h aA) 17 (16*h)).2.1.imp λ{a b} w=>.inl w,ih s.2 λg i=>hl g (by simp[i]),λa H b z=>?_⟩;obtain⟨g,i,z⟩:=tv.1 z;have m:=(VI (hl h aA) 17 (16*h)).1 a H;have G:=(VI (hl g (by simp[i])) 17 (16*g)).1 b z;have F:h≠g:=λe=>s.1 (e▸i);omega
  exact key _ u d
 ·have E:x<st.length:=J8 O;have B:x/16∈eN st:=p.symm.subset (zF.2 ⟨zQ.2 O,by
   have:gD st (16*(x/16)) (16*(x/16)+16) 2≠0:=λA=>by
    rw[HB O O]at A;exact A x O O D
   simp;omega⟩)
  obtain⟨r,j,m⟩:=(VI (d _ B) 17 (16*(x/16))).2.2.1 O x O O D;exact⟨r,tv.2 ⟨_,B,j⟩,m⟩
 ·have key:∀l:List Nat,(∀h∈l,16*h+16<=st.length)->((l.flatMap (Vd st)).map (·.2)).sum<=16*l.length:=by
   intro l
   induction l with
   | nil=>intro _;simp
   | cons h l ih=>
    intro hl;have m:=(VI (hl h aA) 17 (16*h)).2.2.2;have G:=ih λg i=>hl g (by simp[i]);rw[qb,zy,uv,zN];have m:((Vd st h).map (·.2)).sum<=16*h+16-16*h:=m;omega
  have:=key _ d;omega
theorem JD (h:GA A)(hw:Ow A sp){want:Int}(h0:0<=want):DJ (YL A) (dV A sp want).1 sp (dV A sp want).2 (Uo A want)/\(1024<=want->∀p,(dV A sp want).1.f p≠2):=by
 obtain⟨o,_,_⟩:=UA h;have d:(YL A).st.length%16=0:=by rw[o.ga.pg.len];exact o.ga.pg.n16
 obtain⟨s,x,u,w⟩:=ζ d;have a:=Ea want 0 ((eN (YL A).st).flatMap (Vd (YL A).st));have e:dV A sp want=(Uo A want).foldl fF (YL A,sp):=by unfold dV;rw[zA O]
 rw[e];have t:=Jm (Uo A want) o.ga (hw.kp o.kp) (λr j=>s r (a.subset j)) (x.sublist a);refine⟨t,λm p g=>?_⟩;have y:=o.ga.pg.n2;have b:Uo A want=(eN (YL A).st).flatMap (Vd (YL A).st):=MQ 0 _ (λr j=>(s r j).1) (by
  rw[o.ga.pg.len]at w;omega)
 by_cases hi:jG (Uo A want) p
 ·rw[(t.i p hi).2.1]at g;omega
 ·rw[(t.o p hi).1]at g;exact hi (by rw[b];exact u p g)
theorem Wnn (h:GA A)(hw:Ow A sp)(want:Int):St A (dV A sp want).1 sp (dV A sp want).2/\(dV A sp want).1.runs=A.runs/\(dV A sp want).1.cE=A.cE/\∀j y,fA (dV A sp want).1 j y↔fA A j y:=by
 by_cases h0:0<=want
 ·obtain⟨t,_⟩:=JD h hw h0;obtain⟨o,e,k⟩:=UA h;refine⟨(o.st hw).trans t.st,t.runs.trans o.runs,t.cE.trans e,λj y=>?_⟩;rw[←k];unfold fA Cl;rw[t.cB,t.st.tb]
 ·have e:dV A sp want=(A,sp):=by unfold dV;rw[zB O]
  rw[e];exact⟨St.refl h hw,rfl,rfl,λ_ _=>Iff.rfl⟩
end Go.Ar
namespace Go.Ar
structure Pc where
 k:Nat
 cls:Int
 addr:Nat
 size:Nat
 dF:Bool
 deriving DecidableEq
structure Wd where
 tb:List bY
 sp:Sp
 bT:List AR
 held:List Pc
structure Act where
 kd:Int
 ar:Int
 cl:Int
 a:Int
 b:Int
 l:List Int
abbrev Key:=Nat×Int×Nat
def Pc.key (p:Pc):Key:=(p.k,p.cls,p.addr)
def pG (k:Nat)(cls x:Int)(p:Pc):Bool:=p.k==k&&(p.cls==cls&&((p.addr:Int)==x && !p.dF))
def yA (held:List Pc)(k:Nat)(cls x:Int):Option Nat:=held.findIdx? (pG k cls x)
def lJ (held:List Pc)(k:Nat)(cls:Int)(l:List Int):Bool:=l.all (λx=>(yA held k cls x).isSome)&&decide l.Nodup
def pK (k:Nat)(cls:Int)(held:List Pc)(x:Int):List Pc:=match yA held k cls x with
 | some i=>held.take i++held.drop (i+1)
 | none=>held
def Ba (held:List Pc)(k:Nat)(cls:Int)(l:List Int):List Pc:=l.foldl (pK k cls) held
def eC (k:Nat)(cls:Int)(l:List Int)(p:Pc):Bool:=p.k==k&&(p.cls==cls&&l.contains (p.addr:Int))
def Ge (held:List Pc)(k:Nat)(cls:Int)(l:List Int)(m:Bool):List Pc:=held.map λp=>if eC k cls l p then{p with dF:=m}else p
def yZ (us:List AR)(held:List Pc):List Pc:=held.filter λp=>!p.dF||(match us[p.k]? with
 | some A=>A6 A (p.addr:Int)
 | none=>false)
def tg (tb:List bY)(k:Int):Nat:=((tb[k.toNat]?).map (·.size)).getD 0
def Wd.put (W:Wd)(k:Nat)(A:AR)(sp:Sp)(held:List Pc):Wd:={W with sp:=sp,bT:=W.bT.set k A,held:=held}
def Hd (A:AR)(p:Pc):Prop:=(p.cls = -1/\p.dF=false/\∃r∈A.runs,p.addr=r.1*256/\p.size=r.2*256) ∨
 ∃(j:Nat) (c:bY),p.cls=j/\A.tb[j]?=some c/\p.size=c.size/\fA A j (p.addr:Int)/\(p.dF=true↔iI A j (p.addr:Int))
structure WI (W:Wd):Prop where
 ga:∀(k:Nat) (A:AR),W.bT[k]?=some A->GA A
 ow:∀(k:Nat) (A:AR),W.bT[k]?=some A->Ow A W.sp
 tb:∀(k:Nat) (A:AR),W.bT[k]?=some A->A.tb=W.tb
 low:∀(k:Nat) (A:AR),W.bT[k]?=some A->∀p,p<16->A.f p=0
 own:∀p,gf W.sp.st p≠0->∃(k:Nat) (A:AR),W.bT[k]?=some A/\A.f p≠0
 one:∀p (k l:Nat) (A B:AR),W.bT[k]?=some A->W.bT[l]?=some B->A.f p≠0->B.f p≠0->k=l
 hk:(W.held.map Pc.key).Nodup
 hf:∀p∈W.held,∃A,W.bT[p.k]?=some A/\Hd A p
 ht:∀(k:Nat) (A:AR),W.bT[k]?=some A->∀(j:Nat) (y:Int),fA A j y->∃p∈W.held,p.k=k/\p.cls=j/\(p.addr:Int)=y
 hr:∀(k:Nat) (A:AR),W.bT[k]?=some A->∀r∈A.runs,∃p∈W.held,p.k=k/\p.cls = -1/\p.addr=r.1*256
variable {W:Wd}{k:Nat}{A:AR}
theorem Vr {α:Type}{l:List α}{k j:Nat}{x y:α}(h:(l.set k x)[j]?=some y):(j=k/\y=x/\k<l.length)\/(j≠k/\l[j]?=some y):=by
 by_cases hjk:j=k
 ·subst hjk;have a:j<l.length:=by have:=(cQ.1 h).1;simpa using this
  rw[zO a]at h;exact .inl ⟨rfl,(Option.some.inj h).symm,a⟩
 ·rw[zm (Ne.symm hjk)]at h;exact .inr ⟨hjk,h⟩
theorem WI.unique (h:WI W){p q:Pc}(hp:p∈W.held)(hq:q∈W.held)(e:p.key=q.key):p=q:=by
 obtain⟨i,g⟩:=zM hp;obtain⟨j,d⟩:=zM hq;obtain⟨a,rfl⟩:=cQ.1 g;obtain⟨b,rfl⟩:=cQ.1 d;have:=nB.1 h.hk;rcases ui i j with hl|hl|hl
 ·exact(this i j (by simpa using a) (by simpa using b) hl (by simpa using e)).elim
 ·subst hl;rfl
 ·exact(this j i (by simpa using b) (by simpa using a) hl (by simpa using e.symm)).elim
theorem WI.step (h:WI W)(hk:W.bT[k]?=some A){B:AR}{sp':Sp}{held':List Pc}(s:St A B W.sp sp')(h1:(held'.map Pc.key).Nodup)(h2:∀p∈held',p.k=k->Hd B p)(h3:∀p,p.k≠k->(p∈held'↔p∈W.held))
 (h4:∀(j:Nat) (y:Int),fA B j y->∃p∈held',p.k=k/\p.cls=j/\(p.addr:Int)=y) (h5:∀r∈B.runs,∃p∈held',p.k=k/\p.cls = -1/\p.addr=r.1*256):WI (W.put k B sp' held'):=by
 have G:=(cQ.1 hk).1;have m:(W.bT.set k B)[k]?=some B:=zO G;have L:∀{j:Nat} {C:AR},j≠k->W.bT[j]?=some C->(W.bT.set k B)[j]?=some C:=λa e=>(zm (Ne.symm a)).trans e;have g:∀{j:Nat} {C:AR},j≠k->W.bT[j]?=some C->∀p,C.f p≠0->A.f p=0/\B.f p=0/\gf sp'.st p=gf W.sp.st p:=by
  intro j C a e p b;have u:A.f p=0:=Classical.byContradiction λz=>a (h.one p j k C A e hk b z);have w:B.f p=0:=Classical.byContradiction λz=>by
   have:=(s.new p u z).1;exact(h.ow j C e).own p b this
  exact⟨u,w,s.same p u w⟩
 refine⟨λj C a=>?_,λj C a=>?_,λj C a=>?_,λj C a p b=>?_,λp b=>?_,λp j l C D a J e H=>?_,h1,λp b=>?_,λj C a i y K=>?_,λj C a r hr=>?_⟩
 ·rcases Vr a with⟨rfl,rfl,_⟩|⟨_,a⟩
  ·exact s.ga
  ·exact h.ga j C a
 ·rcases Vr a with⟨rfl,rfl,_⟩|⟨d,a⟩
  ·exact s.ow
  ·have o:=h.ow j C a;have M:=h.ow k A hk;refine⟨?_,λp b=>?_,λp b=>?_,s.ow.le⟩
   ·show sp'.st.length=C.n;rw[s.ow.l,s.n,←M.l,o.l]
   ·show gf sp'.st p≠0;rw[(g d a p b).2.2];exact o.own p b
   ·show gf sp'.st p=1;rw[(g d a p O).2.2];exact o.cl p b
 ·rcases Vr a with⟨rfl,rfl,_⟩|⟨_,a⟩
  ·exact s.tb.trans (h.tb _ A hk)
  ·exact h.tb j C a
 ·rcases Vr a with⟨rfl,rfl,_⟩|⟨_,a⟩
  ·apply Classical.byContradiction;intro z;have:=s.new p (h.low _ A hk p b) z;omega
  ·exact h.low j C a p b
 ·have b:gf sp'.st p≠0:=b;by_cases w:B.f p=0
  ·by_cases u:A.f p=0
   ·rw[s.same p u w]at b;obtain⟨j,C,a,e⟩:=h.own p b;have d:j≠k:=by
     rintro rfl;rw[hk]at a;cases a;exact e u
    exact⟨j,C,L d a,e⟩
   ·exact(b (s.gone p u w)).elim
  ·exact⟨k,B,m,w⟩
 ·rcases Vr a with⟨rfl,rfl,_⟩|⟨d,hj'⟩
  ·rcases Vr J with⟨rfl,rfl,_⟩|⟨hne2,hl'⟩
   ·rfl
   ·exact(e (g hne2 hl' p H).2.1).elim
  ·rcases Vr J with⟨rfl,rfl,_⟩|⟨hne2,hl'⟩
   ·exact(H (g d hj' p e).2.1).elim
   ·exact h.one p j l C D hj' hl' e H
 ·by_cases hpk:p.k=k
  ·exact⟨B,by rw[hpk];exact m,h2 p b hpk⟩
  ·obtain⟨C,e,N⟩:=h.hf p ((h3 p hpk).1 b);exact⟨C,L hpk e,N⟩
 ·rcases Vr a with⟨rfl,rfl,_⟩|⟨d,a⟩
  ·exact h4 i y K
  ·obtain⟨p,b,x,E,F⟩:=h.ht j C a i y K;exact⟨p,(h3 p (by rw[x];exact d)).2 b,x,E,F⟩
 ·rcases Vr a with⟨rfl,rfl,_⟩|⟨d,a⟩
  ·exact h5 r hr
  ·obtain⟨p,b,x,E,F⟩:=h.hr j C a r hr;exact⟨p,(h3 p (by rw[x];exact d)).2 b,x,E,F⟩
theorem Hd.to {B:AR}{p:Pc}(h:Hd A p)(e1:B.tb=A.tb)(e2:B.runs=A.runs)(e3:∀j y,fA A j y->fA B j y)(e4:∀j y,iI B j y↔iI A j y):Hd B p:=by
 rcases h with⟨h1,h2,r,hr,h3⟩|⟨j,c,h1,h2,h3,h4,h5⟩
 ·exact .inl ⟨h1,h2,r,by rw[e2];exact hr,h3⟩
 ·exact .inr ⟨j,c,h1,by rw[e1];exact h2,h3,e3 _ _ h4,by rw[e4];exact h5⟩
theorem WI.hd (h:WI W)(hk:W.bT[k]?=some A){p:Pc}(hp:p∈W.held)(e:p.k=k):Hd A p:=by
 obtain⟨C,a,b⟩:=h.hf p hp;rw[e,hk]at a;cases a;exact b
theorem WI.kL (h:WI W)(hk:W.bT[k]?=some A){B:AR}{sp':Sp}(s:St A B W.sp sp')(e2:B.runs=A.runs)(e3:∀j y,fA B j y↔fA A j y)(e4:B.cE=A.cE):WI (W.put k B sp' W.held):=
 h.step hk s h.hk (λp a e=>(h.hd hk a e).to s.tb e2 (λj y=>(e3 j y).2) λj y=>by unfold iI;rw[e4]) (λ_ _=>Iff.rfl) (λj y b=>h.ht k A hk j y ((e3 j y).1 b)) λr hr=>h.hr k A hk r (by rw[←e2];exact hr)
theorem WI.cls (h:WI W){p:Pc}(hp:p∈W.held){j:Nat}(e:p.cls=j)(hk:W.bT[p.k]?=some A):∃c,A.tb[j]?=some c/\p.size=c.size/\fA A j (p.addr:Int)/\(p.dF=true↔iI A j (p.addr:Int)):=by
 rcases h.hd hk hp rfl with⟨h1,_⟩|⟨i,c,h1,h2,h3,h4,h5⟩
 ·omega
 ·obtain rfl:i=j:=by omega
  exact⟨c,h2,h3,h4,h5⟩
theorem WI.run (h:WI W){p:Pc}(hp:p∈W.held)(e:p.cls = -1)(hk:W.bT[p.k]?=some A):p.dF=false/\∃r∈A.runs,p.addr=r.1*256/\p.size=r.2*256:=by
 rcases h.hd hk hp rfl with⟨_,h2⟩|⟨i,c,h1,_⟩
 ·exact h2
 ·omega
theorem KQ {k:Nat}{cls x:Int}{p:Pc}:pG k cls x p=true↔p.k=k/\p.cls=cls/\(p.addr:Int)=x/\p.dF=false:=by
 simp[pG]
theorem Z5 {k:Nat}{cls:Int}{l:List Int}{p:Pc}:eC k cls l p=true↔p.k=k/\p.cls=cls/\(p.addr:Int)∈l:=by
 simp[eC]
theorem Α {held:List Pc}{k:Nat}{cls x:Int}{i:Nat}(h:yA held k cls x=some i):∃p,held[i]?=some p/\pG k cls x p=true:=by
 obtain⟨a,b,_⟩:=rJ.1 h;exact⟨held[i],cM a,b⟩
theorem RA {held:List Pc}{k:Nat}{cls x:Int}{p:Pc}(hp:p∈held)(h:pG k cls x p=true):(yA held k cls x).isSome=true:=by
 unfold yA;rw[List.findIdx?_isSome,zw];exact⟨p,hp,h⟩
theorem KU {held:List Pc}{k:Nat}{cls:Int}{l:List Int}:lJ held k cls l=true↔(∀x∈l,∃p∈held,pG k cls x p=true)/\l.Nodup:=by
 unfold lJ;rw[zG,nD,zV];refine and_congr_left λ_=>forall_congr' λx=>imp_congr_right λa=>?_;unfold yA;rw[List.findIdx?_isSome,zw]
theorem TQ {held:List Pc}(hn:(held.map Pc.key).Nodup){i:Nat}{p:Pc}(hi:held[i]?=some p):held.take i++held.drop (i+1)=held.filter λq=>!(q.key==p.key):=by
 induction held generalizing i with
 | nil=>simp at hi
 | cons q l ih=>
  rw[zH,zr]at hn;cases i with
  | zero=>
   simp only[An,Option.some.injEq]at hi;subst hi;have:l.filter (λr=>!(r.key==q.key))=l:=by
    rw[rp];intro r hr;have:r.key≠q.key:=λe=>hn.1 (zC.2 ⟨r,hr,e⟩);simpa using this
   simp[this]
  | succ i=>
   have hi:l[i]?=some p:=by simpa using hi
   have a:q.key≠p.key:=λe=>hn.1 (zC.2 ⟨p,zE hi,e.symm⟩);rw[vK,CD,oR,ih hn.2 hi,sA];have:(!(q.key==p.key))=true:=by simpa using a
   rw[this];rfl
theorem Ub {held:List Pc}(hn:(held.map Pc.key).Nodup)(f:Pc->Bool):((held.filter f).map Pc.key).Nodup:=hn.sublist (List.filter_sublist.map _)
theorem N4 {k:Nat}{cls:Int}:∀(l:List Int) {held:List Pc},(held.map Pc.key).Nodup->(∀x∈l,∃p∈held,pG k cls x p=true)->l.Nodup->Ba held k cls l=held.filter λp=>!eC k cls l p
 | [],held,_,_,_=>by
  have:∀p,eC k cls [] p=false:=λp=>by simp[eC]
  exact(rp.2 λp _=>by rw[this];rfl).symm
 | x::l,held,hn,ho,hl=>by
  obtain⟨p,B,C⟩:=ho x aA;obtain⟨i,m⟩:=tf.1 (RA B C);obtain⟨q,A,j⟩:=Α m;have d:=zr.1 hl;have D:pK k cls held x=held.filter λr=>!(r.key==q.key):=by unfold pK;rw[m];exact TQ hn A
  obtain⟨F,E,J,G⟩:=KQ.1 j;have u:=N4 l (held:=held.filter λr=>!(r.key==q.key)) (Ub hn _) (λy s=>by
   obtain⟨r,w,g⟩:=ho y (by simp[s]);refine⟨r,zF.2 ⟨w,?_⟩,g⟩;have:r.key≠q.key:=λe=>by
    have H:r.addr=q.addr:=congrArg (λz:Key=>z.2.2) e;have:=(KQ.1 g).2.2.1;have:y=x:=by omega
    subst this;exact d.1 s
   simpa using this) d.2
  unfold Ba at u ⊢;rw[oE,D,u,Ir];apply yE;intro r w;have e:(r.key==q.key)=(r.k==k&&(r.cls==cls&&(r.addr:Int)==x)):=by
   rw[qN];simp only[Pc.key,zY,zG,Prod.mk.injEq];constructor
   ·rintro⟨a,b,c⟩;exact⟨O,O,O⟩
   ·rintro⟨a,b,c⟩;exact⟨O,O,O⟩
  rw[e];unfold eC;rw[List.contains_cons];cases r.k==k<;>cases r.cls==cls<;>cases((r.addr:Int)==x)<;>cases l.contains (r.addr:Int)<;>rfl
theorem QS {held:List Pc}{k:Nat}{cls:Int}{l:List Int}{m:Bool}{p:Pc}:p∈Ge held k cls l m↔∃q∈held,p=if eC k cls l q then{q with dF:=m}else q:=by
 unfold Ge;rw[zC];constructor
 ·rintro⟨q,hq,rfl⟩;exact⟨q,hq,rfl⟩
 ·rintro⟨q,hq,rfl⟩;exact⟨q,hq,rfl⟩
theorem Whk {held:List Pc}{k:Nat}{cls:Int}{l:List Int}{m:Bool}:(Ge held k cls l m).map Pc.key=held.map Pc.key:=by
 unfold Ge;rw[zk];apply ze;intro p _;simp only[Function.comp];split<;>rfl
theorem CT (hk:W.bT[k]?=some A)(h:WI W):WI (W.put k A W.sp W.held):=h.kL hk (St.refl (h.ga k A hk) (h.ow k A hk)) rfl (λ_ _=>Iff.rfl) rfl
theorem Wh0 (h:GA A){j:Nat}{c:bY}{ss:List cH}(hc:Cl A j c ss){l:Nat}{s:cH}{i:Nat}(hs:ss[l]?=some s)(hi:i<c.n){x:Nat}(h1:at_ c s i<=x)(h2:x<at_ c s i+c.size):Ha A (x:Int)=some ((j:Int),at_ c s i):=by
 have a:=h.cB j c ss hc;have b:=GM a.pos hi h1 h2;have d:=h.used hc (zE hs) b.1 b.2;have g:=h.pg.lt (p:=x/256) (by rw[d.1];omega);have r:=h.pg.n2;have m:=hc.lt;have e:=h.tb;unfold Ha;rw[zA O,dE];simp only;rw[zB (show x/256<1024 by omega),d.2,zA O,zA O,FD,hc.1,hc.2];simp only;rw[(NL a).2 ⟨l,s,i,hs,hi,rfl,O,O⟩];rfl
theorem Mj (h:GA A){r:Nat×Nat}(hr:r∈A.runs){x:Nat}(h1:r.1*256<=x)(h2:x<(r.1+r.2)*256):Ha A (x:Int)=some (-1,r.1*256):=by
 have a:=h.kP hr (p:=x/256) O O;have b:=h.pg.lt (p:=x/256) (by rw[a.1];omega);have d:=h.pg.n2;unfold Ha;rw[zA O,dE];simp only;rw[zB (show x/256<1024 by omega),a.2,zA O,zB rfl,DU h.tU hr O O];rfl
theorem RC (h:GA A){x:Int}{k:Int}{a:Nat}(hf:Ha A x=some (k,a)):(k = -1/\∃r∈A.runs,a=r.1*256/\((r.1*256:Nat):Int)<=x/\x<(((r.1+r.2)*256:Nat):Int)) ∨
 ∃(j:Nat) (c:bY) (ss:List cH) (l:Nat) (s:cH) (i:Nat),k=j/\Cl A j c ss/\ss[l]?=some s/\i<c.n/\a=at_ c s i/\((at_ c s i:Nat):Int)<=x/\x<((at_ c s i+c.size:Nat):Int):=by
 unfold Ha at hf;split at hf
 ·cases hf
 ·rename_i hx;obtain⟨y,rfl⟩:=zn (show 0<=x by omega);rw[dE]at hf;simp only at hf;by_cases hlt:y/256<1024
  ·rw[zB hlt]at hf;split at hf
   ·cases hf
   ·split at hf
    ·rename_i h0 h41;obtain⟨r,d,b⟩:=uK.1 hf;have p:=wq d;have m:=wk d;simp at m;cases b;exact .inl ⟨rfl,r,p,rfl,O,O⟩
    ·rename_i h0 h41;split at hf
     ·rename_i c ss h1 h2;obtain⟨C,B,b⟩:=uK.1 hf;cases b;have e:Cl A (A.ow (y/256)-1) c ss:=⟨h1,h2⟩;obtain⟨l,s,i,z,g,rfl,u,w⟩:=(NL (h.cB _ _ _ e)).1 B;exact .inr ⟨_,c,ss,l,s,i,rfl,e,z,g,rfl,u,w⟩
     ·cases hf
  ·rw[zA hlt,zB rfl]at hf;cases hf
theorem fA.find (h:GA A){j:Nat}{x:Int}(hx:fA A j x):∃y:Nat,x=y/\Ha A x=some ((j:Int),y):=by
 obtain⟨c,d,b,e⟩:=hx;have a:=h.cB j c d b;obtain⟨l,s,i,g,m,rfl,p⟩:=(VM a).1 e;exact⟨_,rfl,Wh0 h b g m (zD _) (by have:=a.pos;omega)⟩
theorem FR (h:GA A){x:Int}:A6 A x=true↔(∃j,fA A j x)\/∃r∈A.runs,x=((r.1*256:Nat):Int):=by
 constructor
 ·intro hx;unfold A6 at hx;split at hx
  ·rename_i k a e;split at hx
   ·rename_i he;rcases RC h e with⟨rfl,r,hr,rfl,_⟩|⟨j,c,d,l,s,i,rfl,b,hs,hi,rfl,_⟩
    ·exact .inr ⟨r,hr,he.symm⟩
    ·rw[zA O,dE,b.1,b.2]at hx;exact .inl ⟨j,c,d,b,by simpa[Tk]using hx⟩
   ·cases hx
  ·cases hx
 ·rintro(⟨j,hj⟩|⟨r,hr,rfl⟩)
  ·obtain⟨y,rfl,e⟩:=hj.find h;obtain⟨c,d,b,g⟩:=hj;unfold A6;rw[e];simp only;rw[zB True.intro,zA O,dE,b.1,b.2];unfold Tk at g;show(eI c d (y:Int)==some true)=true;rw[g];rfl
  ·unfold A6;have:=h.gC r hr;rw[Mj h hr (zD _) O];simp
theorem WI.Br (h:WI W)(hk:W.bT[k]?=some A){cl:Int}{l:List Int}(ho:lJ W.held k cl l=true){j:Nat}(e:cl=j):∀x∈l,¬iI A j x:=by
 intro x hx hin;obtain⟨p,m,a⟩:=(KU.1 ho).1 x hx;obtain⟨i,g,r,b⟩:=KQ.1 a;obtain⟨c,_,_,_,d⟩:=h.cls m (j:=j) (by rw[g,e]) (by rw[i];exact hk);rw[r]at d;rw[d.2 hin]at b;cases b
theorem WI.grow (h:WI W)(hk:W.bT[k]?=some A)(x:Int):WI (W.put k (cO A W.sp x).1 (cO A W.sp x).2 W.held):=by
 obtain⟨s,a,b,d,_⟩:=WlP (h.ga k A hk) (h.ow k A hk) x;exact h.kL hk s a d b
theorem WI.from (h:WI W)(hk:W.bT[k]?=some A)(cl m:Int):WI (W.put k (YR A cl m) W.sp (W.held++(Yu A cl m).map λy=>⟨k,cl,y,tg W.tb cl,false⟩)):=by
 obtain⟨o,E,N,G,F,C⟩:=M7 (h.ga k A hk) cl m;have tb:(YR A cl m).tb=A.tb:=o.kp.tb;have i:∀y∈Yu A cl m,∃j:Nat,cl=j/\j<A.tb.length:=λy g=>G (λe=>by rw[e]at g;simp at g);have s:∀y∈Yu A cl m,∀p∈W.held,¬(p.k=k/\p.cls=cl/\p.addr=y):=by
  rintro y g p d ⟨J,M,L⟩;obtain⟨j,rfl,_⟩:=i y g;obtain⟨c,_,_,ht,_⟩:=h.cls d M (by rw[J];exact hk);rw[L]at ht;exact F y g (by rw[dE];exact ht)
 refine h.step hk (o.st (h.ow k A hk)) ?_ (λp d e=>?_) (λp z=>?_) (λj y g=>?_) λr hr=>?_
 ·rw[zy,qQ];refine⟨h.hk,?_,λa P b Q e=>?_⟩
  ·rw[zk];exact List.Pairwise.map (R:=(· ≠ ·)) _ (λa b B e=>B (by simpa[Pc.key]using e)) N
  ·subst e;obtain⟨p,d,rfl⟩:=zC.1 P;obtain⟨q,H,e⟩:=zC.1 Q;obtain⟨y,g,rfl⟩:=zC.1 H;simp only[Pc.key,Prod.mk.injEq]at e;exact s y g p d ⟨e.1.symm,e.2.1.symm,e.2.2.symm⟩
 ·rcases zU.1 d with d|d
  ·exact(h.hd hk d e).to tb o.runs (λj y u=>(C j y).2 (.inl u)) λj y=>by unfold iI;rw[E]
  ·obtain⟨y,g,rfl⟩:=zC.1 d;obtain⟨j,rfl,u⟩:=i y g;refine .inr ⟨j,A.tb[j],rfl,by rw[tb];exact cM u,?_,(C j y).2 (.inr ⟨(dE j).symm,y,g,rfl⟩),?_⟩
   ·show tg W.tb (j:Int)=_;unfold tg;rw[dE,←h.tb k A hk,cM u];rfl
   ·constructor
    ·intro hx;cases hx
    ·rintro⟨t,ht,hx⟩;rw[E]at ht;obtain⟨c,K,S,D,w⟩:=(h.ga k A hk).cl u;rw[ht]at w;cases w;exact(F y g (by rw[dE];exact(KB D).2 ((h.ga k A hk).nV j c K t D ht _ hx))).elim
 ·rw[zU];constructor
  ·rintro(d|d)
   ·exact d
   ·obtain⟨y,_,rfl⟩:=zC.1 d;exact(z rfl).elim
  ·exact .inl
 ·rcases(C j y).1 g with g|⟨rfl,x,hx,rfl⟩
  ·obtain⟨p,d,q⟩:=h.ht k A hk j y g;exact⟨p,qP _ d,q⟩
  ·obtain⟨j,rfl,_⟩:=i x hx;exact⟨_,sY _ (zC.2 ⟨x,hx,rfl⟩),rfl,by simp,rfl⟩
 ·rw[o.runs]at hr;obtain⟨p,d,q⟩:=h.hr k A hk r hr;exact⟨p,qP _ d,q⟩
theorem WI.BQ (h:WI W){cl:Int}{l:List Int}(ho:lJ W.held k cl l=true):Ba W.held k cl l=W.held.filter λp=>!eC k cl l p:=
 N4 l h.hk (KU.1 ho).1 (KU.1 ho).2
theorem WI.toC (h:WI W)(hk:W.bT[k]?=some A){cl:Int}{l:List Int}(ho:lJ W.held k cl l=true):WI (W.put k (Zf A cl l) W.sp (if Q5 A cl l=0 then Ba W.held k cl l else W.held)):=by
 have ga:=h.ga k A hk;obtain⟨o,L,u,H⟩:=Fs ga (k:=cl) (xs:=l) λg x m=>by
  obtain⟨j,c,K,rfl,_⟩:=ED ga g;rw[dE];exact h.Br hk ho rfl x m
 by_cases g:Q5 A cl l=0
 ·rw[zB g,h.BQ ho];obtain⟨j,c,K,rfl,N,Q⟩:=ED ga g;have u:=u g;rw[dE]at u;refine h.step hk (o.st (h.ow k A hk)) (Ub h.hk _) (λp s e=>?_) (λp F=>?_) (λi y J=>?_) λr hr=>?_
  ·have w:=zF.1 s;have D:eC k (j:Int) l p=false:=by simpa using w.2
   rcases h.hd hk w.1 e with⟨h1,h2,r,hr,h3⟩|⟨i,d,h1,h2,h3,h4,h5⟩
   ·exact .inl ⟨h1,h2,r,by rw[o.runs];exact hr,h3⟩
   ·refine .inr ⟨i,d,h1,by rw[o.kp.tb];exact h2,h3,(u i _).2 ⟨h4,λ⟨a,b⟩=>?_⟩,by unfold iI at h5 ⊢;rw[L];exact h5⟩;have:eC k (j:Int) l p=true:=Z5.2 ⟨e,by rw[h1,a],b⟩;rw[D]at this;cases this
  ·rw[zF];have:eC k (j:Int) l p=false:=by
    apply qd.2;intro m;exact F (Z5.1 m).1
   rw[this];simp
  ·obtain⟨B,G⟩:=(u i y).1 J;obtain⟨p,s,C,E,z⟩:=h.ht k A hk i y B;refine⟨p,zF.2 ⟨s,?_⟩,C,E,z⟩;have:eC k (j:Int) l p=false:=by
    apply qd.2;intro m;obtain⟨_,P,M⟩:=Z5.1 m;exact G ⟨O,by rw[←z];exact M⟩
   rw[this];rfl
  ·rw[o.runs]at hr;obtain⟨p,s,C,E,z⟩:=h.hr k A hk r hr;refine⟨p,zF.2 ⟨s,?_⟩,C,E,z⟩;have:eC k (j:Int) l p=false:=by
    apply qd.2;intro m;have:=(Z5.1 m).2.1;omega
   rw[this];rfl
 ·rw[zA g,H g];exact CT hk h
theorem WI.move (h:WI W)(hk:W.bT[k]?=some A){B:AR}{j:Nat}{l:List Int}{m:Bool}(o:Ob A B)(e1:∀i y,fA B i y↔fA A i y)(e2:∀i y,iI B i y↔if i=j/\y∈l then m=true else iI A i y):WI (W.put k B W.sp (Ge W.held k (j:Int) l m)):=by
 refine h.step hk (o.st (h.ow k A hk)) (by rw[Whk];exact h.hk) (λp a e=>?_) (λp b=>?_) (λi y g=>?_) λr hr=>?_
 ·obtain⟨q,s,rfl⟩:=QS.1 a;have d:q.k=k:=by
   split at e<;>exact e
  rcases h.hd hk s d with⟨h1,h2,r,hr,h3⟩|⟨i,c,h1,h2,h3,h4,h5⟩
  ·have:eC k (j:Int) l q=false:=by
    apply qd.2;intro hx;have:=(Z5.1 hx).2.1;omega
   rw[this];exact .inl ⟨h1,h2,r,by rw[o.runs];exact hr,h3⟩
  ·by_cases hx:eC k (j:Int) l q=true
   ·rw[zB hx];obtain⟨_,D,C⟩:=Z5.1 hx;have x:i=j:=by omega
    refine .inr ⟨i,c,h1,by rw[o.kp.tb];exact h2,h3,(e1 _ _).2 h4,?_⟩;show m=true↔iI B i (q.addr:Int);rw[e2,zB ⟨x,C⟩]
   ·rw[zA hx];refine .inr ⟨i,c,h1,by rw[o.kp.tb];exact h2,h3,(e1 _ _).2 h4,?_⟩;rw[e2,zA λg=>hx (Z5.2 ⟨d,by rw[h1,g.1],g.2⟩)];exact h5
 ·rw[QS];constructor
  ·rintro⟨q,s,rfl⟩;have:eC k (j:Int) l q=false:=by
    apply qd.2;intro hx;rw[zB hx]at b;exact b (Z5.1 hx).1
   rw[this];exact s
  ·intro a;refine⟨p,a,?_⟩;have:eC k (j:Int) l p=false:=by
    apply qd.2;intro hx;exact b (Z5.1 hx).1
   rw[this];rfl
 ·obtain⟨p,a,u,z,w⟩:=h.ht k A hk i y ((e1 i y).1 g);refine⟨_,QS.2 ⟨p,a,rfl⟩,?_,?_,?_⟩
  ·split<;>exact u
  ·split<;>exact z
  ·split<;>exact w
 ·rw[o.runs]at hr;obtain⟨p,a,u,z,w⟩:=h.hr k A hk r hr;refine⟨_,QS.2 ⟨p,a,rfl⟩,?_,?_,?_⟩
  ·split<;>exact u
  ·split<;>exact z
  ·split<;>exact w
theorem Wh6 {held:List Pc}{k:Nat}{cls:Int}{m:Bool}:Ge held k cls [] m=held:=by
 unfold Ge;have:∀p,eC k cls [] p=false:=λp=>by simp[eC]
 simp[this]
theorem WI.Aq (h:WI W)(hk:W.bT[k]?=some A)(cl:Int):WI (W.put k (ZR A cl) W.sp (Ge W.held k cl (YN A cl) false)):=by
 obtain⟨o,b,u,w,g,a⟩:=Ms (h.ga k A hk) cl;by_cases hv:YN A cl=[]
 ·rw[hv,Wh6];have d:∀j y,iI (ZR A cl) j y↔iI A j y:=λj y=>by rw[a,hv];simp
  refine h.step hk (o.st (h.ow k A hk)) h.hk (λp m e=>(h.hd hk m e).to o.kp.tb o.runs (λj y=>(b j y).2) d) (λ_ _=>Iff.rfl) (λj y s=>h.ht k A hk j y ((b j y).1 s)) λr hr=>h.hr k A hk r (by rw[←o.runs];exact hr)
 ·obtain⟨j,rfl,_⟩:=g hv;rw[dE]at a;exact h.move hk o b λi y=>by
   rw[a];split
   ·rename_i hx;simp[hx]
   ·rename_i hx;simp[hx]
theorem WI.toT (h:WI W)(hk:W.bT[k]?=some A){cl:Int}{l:List Int}(ho:lJ W.held k cl l=true):WI (W.put k (Kh A cl l) W.sp (if Vu A cl l then Ge W.held k cl l true else W.held)):=by
 by_cases a:Vu A cl l=true
 ·have b:∃j:Nat,cl=j:=by
   have g:HU A cl l=0:=by
    unfold Vu at a;simp only[zG,zV]at a;exact a.1
   have b:A.ck cl=true:=by
    unfold HU at g;split at g
    ·assumption
    ·cases g
   obtain⟨j,m,_⟩:=HO.1 b;exact⟨j,m⟩
  obtain⟨j,rfl⟩:=b;obtain⟨o,p,d,_⟩:=Tm (h.ga k A hk) (j:Int) (xs:=l) (KU.1 ho).2 (by rw[dE];exact h.Br hk ho rfl);obtain⟨_,_,d⟩:=d a;rw[dE]at d;rw[a,zB rfl];exact h.move hk o p λi y=>by
   rw[d];split
   ·rename_i hx;simp[hx]
   ·rename_i hx;simp[hx]
 ·have a:Vu A cl l=false:=by simpa using a
  have e:Kh A cl l=A:=by unfold Kh;rw[a];rfl
  rw[a,e];exact CT hk h
theorem WI.AV (h:WI W)(hk:W.bT[k]?=some A)(m a:Int):WI (W.put k (cD A W.sp m a).1 (cD A W.sp m a).2 (if QG A W.sp m a=0 then W.held++[⟨k, -1,Z7 A W.sp m a*256,m.toNat*256,false⟩]else W.held)):=by
 rcases Wd1 (h.ga k A hk) (h.ow k A hk) m a with⟨e,hE,_⟩|⟨x,A1,sp1,g,hE,hV,e,htk,hor,s,et,ek⟩
 ·rw[zA hE,e];exact CT hk h
 ·rw[zB hE,hV];have z:(cD A W.sp m a).1.runs=A.runs++[(x,m.toNat)]:=by rw[e]
  have w:∀r∈A.runs,r.1≠x:=by
   have hd:=s.ga.kM;rw[z]at hd;intro r hr D;have u:=(tZ.1 hd).2.2 r hr (x,m.toNat) aA;have B:=(h.ga k A hk).gC r hr;have i:=s.ga.gC (x,m.toNat) (by rw[z];simp);simp only at u i;omega
  refine h.step hk s ?_ (λp g e=>?_) (λp C=>?_) (λj y E=>?_) λr hr=>?_
  ·rw[zy,qQ];refine⟨h.hk,by simp,λb F d hd D=>?_⟩;subst D;obtain⟨p,g,rfl⟩:=zC.1 F;simp only[zH,uB,zZ,Pc.key,Prod.mk.injEq]at hd;obtain⟨_,r,hr,i,_⟩:=h.run g hd.2.1 (A:=A) (by rw[hd.1];exact hk);exact w r hr O
  ·rcases zU.1 g with g|g
   ·rcases h.hd hk g e with⟨u,B,r,hr,i⟩|⟨j,c,u,B,i,h4,h5⟩
    ·exact .inl ⟨u,B,r,by rw[z];exact qP _ hr,i⟩
    ·exact .inr ⟨j,c,u,by rw[s.tb];exact B,i,(ek _ _).2 h4,by unfold iI at h5 ⊢;rw[et];exact h5⟩
   ·simp only[zZ]at g;subst g;exact .inl ⟨rfl,rfl,(x,m.toNat),by rw[z];simp,rfl,rfl⟩
  ·rw[zU];constructor
   ·rintro(g|g)
    ·exact g
    ·simp only[zZ]at g;subst g;exact(C rfl).elim
   ·exact .inl
  ·obtain⟨p,g,q⟩:=h.ht k A hk j y ((ek j y).1 E);exact⟨p,qP _ g,q⟩
  ·rw[z]at hr;rcases zU.1 hr with hr|hr
   ·obtain⟨p,g,q⟩:=h.hr k A hk r hr;exact⟨p,qP _ g,q⟩
   ·simp only[zZ]at hr;subst hr;exact⟨_,sY _ (zZ.2 rfl),rfl,rfl,rfl⟩
theorem WI.q9 (h:WI W)(hk:W.bT[k]?=some A){r:Nat×Nat}(hr:r∈A.runs):lJ W.held k (-1) [(r.1:Int)*256]=true:=by
 refine KU.2 ⟨λx b=>?_,by simp⟩;simp only[zZ]at b;subst b;obtain⟨p,a,d,e,g⟩:=h.hr k A hk r hr;exact⟨p,a,KQ.2 ⟨d,e,O,(h.run a e (by rw[d];exact hk)).1⟩⟩
theorem WI.AK (h:WI W)(hk:W.bT[k]?=some A)(x:Int):WI (W.put k (QO A x) W.sp (if Ve A x=0 then Ba W.held k (-1) [x*256]else W.held)):=by
 have ga:=h.ga k A hk;obtain⟨⟨kp,g⟩,L,J,N,K⟩:=Wis ga x;by_cases h0:Ve A x=0
 ·rw[zB h0];obtain⟨r,hr,rfl,G⟩:=K h0;rw[h.BQ (h.q9 hk hr)];have m:∀p:Pc,eC k (-1) [(r.1:Int)*256] p=true↔p.k=k/\p.cls = -1/\p.addr=r.1*256:=λp=>by
   rw[Z5];simp only[zZ];constructor
   ·rintro⟨a,b,c⟩;exact⟨a,b,O⟩
   ·rintro⟨a,b,c⟩;exact⟨a,b,O⟩
  refine h.step hk (St.kp g (h.ow k A hk) kp) (Ub h.hk _) (λp s e=>?_) (λp F=>?_) (λi y M=>?_) λq d=>?_
  ·have w:=zF.1 s;have z:¬eC k (-1) [(r.1:Int)*256] p=true:=by simpa using w.2
   rw[m]at z;rcases h.hd hk w.1 e with⟨h1,h2,q,d,u⟩|⟨j,c,h1,h2,u,H,B⟩
   ·refine .inl ⟨h1,h2,q,?_,u⟩;rw[G,zF];refine⟨d,?_⟩;have:q≠r:=by rintro rfl;exact z ⟨e,h1,u.1⟩
    simpa using this
   ·exact .inr ⟨j,c,h1,by rw[kp.tb];exact h2,u,(J _ _).2 H,by unfold iI at B ⊢;rw[L];exact B⟩
  ·rw[zF];have:eC k (-1) [(r.1:Int)*256] p=false:=by
    apply qd.2;intro hx;exact F (Z5.1 hx).1
   rw[this];simp
  ·obtain⟨p,s,C,E,D⟩:=h.ht k A hk i y ((J i y).1 M);refine⟨p,zF.2 ⟨s,?_⟩,C,E,D⟩;have:eC k (-1) [(r.1:Int)*256] p=false:=by
    apply qd.2;intro hx;have:=((m p).1 hx).2.1;omega
   rw[this];rfl
  ·rw[G,zF]at d;obtain⟨p,s,C,E,D⟩:=h.hr k A hk q d.1;refine⟨p,zF.2 ⟨s,?_⟩,C,E,D⟩;have:eC k (-1) [(r.1:Int)*256] p=false:=by
    apply qd.2;intro hx;have u:=((m p).1 hx).2.2;have H:=ga.gC q d.1;have B:=ga.gC r hr;have:q=r:=ga.gN d.1 hr (x:=q.1) O O O O;subst this;simp at d
   rw[this];rfl
 ·rw[zA h0,N h0];exact CT hk h
theorem WI.tick (h:WI W)(hk:W.bT[k]?=some A):WI (W.put k (Hr A) W.sp (yZ (W.bT.set k (Hr A)) W.held)):=by
 have ga:=h.ga k A hk;have t:=WkI ga;have u:=(cQ.1 hk).1;have d:(W.bT.set k (Hr A))[k]?=some (Hr A):=zO u;have bU:∀p∈W.held,p∈yZ (W.bT.set k (Hr A)) W.held↔(p.k=k->∀j:Nat,p.cls=j->fA (Hr A) j (p.addr:Int)):=by
  intro p a;unfold yZ;rw[zF];simp only[a,yb,rO,pZ];by_cases hpk:p.k=k
  ·rw[hpk,d];simp only[true_implies];rcases h.hd hk a hpk with⟨h1,h2,r,hr,h3⟩|⟨j,c,h1,h2,h3,h4,h5⟩
   ·exact⟨λ_ j z=>O,λ_=>.inl h2⟩
   ·constructor
    ·intro hx i F;obtain rfl:i=j:=by omega
     rcases hx with hx|hx
     ·refine(t.tk i _).2 ⟨h4,λm=>?_⟩;rw[h5.2 m]at hx;cases hx
     ·rcases(FR t.ob.ga).1 hx with⟨j',hj'⟩|⟨r,hr,e⟩
      ·obtain⟨y,e,hf⟩:=((t.tk j' _).1 hj').1.find ga;obtain⟨L,J,b⟩:=h4.find ga;rw[hf]at b;have:j'=i:=by
        have:=congrArg Prod.fst (Option.some.inj b);simp only at this;omega
       rw[←this];exact hj'
      ·rw[t.ob.runs]at hr;have:=ga.gC r hr;have H:=Mj ga hr (x:=r.1*256) (zD _) O;obtain⟨L,J,b⟩:=h4.find ga;rw[e,H]at b;have:=congrArg Prod.fst (Option.some.inj b);simp only at this;omega
    ·intro hx;by_cases hm:p.dF=true
     ·exact .inr ((FR t.ob.ga).2 (.inl ⟨j,hx j h1⟩))
     ·exact .inl (by simpa using hm)
  ·constructor
   ·intro _ hx;exact(hpk hx).elim
   ·intro _;obtain⟨C,E,K⟩:=h.hf p a;rw[zm (Ne.symm hpk),E];rcases K with⟨h1,h2,_⟩|⟨j,c,_,_,_,h4,_⟩
    ·exact .inl h2
    ·exact .inr ((FR (h.ga _ C E)).2 (.inl ⟨j,h4⟩))
 have sub:∀p,p∈yZ (W.bT.set k (Hr A)) W.held->p∈W.held:=λp a=>(zF.1 a).1;refine h.step hk (t.ob.st (h.ow k A hk)) (Ub h.hk _) (λp a e=>?_) (λp B=>⟨sub p,λa=>(bU p a).2 λe=>(B e).elim⟩) (λj y G=>?_) λr hr=>?_
 ·have s:=(bU p (sub p a)).1 a e;rcases h.hd hk (sub p a) e with⟨h1,h2,r,hr,h3⟩|⟨j,c,h1,h2,h3,h4,h5⟩
  ·exact .inl ⟨h1,h2,r,by rw[t.ob.runs];exact hr,h3⟩
  ·have z:=s j h1;refine .inr ⟨j,c,h1,by rw[t.ob.kp.tb];exact h2,h3,z,?_⟩;rw[h5];exact⟨((t.tk j _).1 z).2,t.sub j _⟩
 ·obtain⟨p,a,w,D,g⟩:=h.ht k A hk j y ((t.tk j y).1 G).1;refine⟨p,(bU p a).2 λ_ i F=>?_,w,D,g⟩;obtain rfl:i=j:=by omega
  rw[g];exact G
 ·rw[t.ob.runs]at hr;obtain⟨p,a,w,D,g⟩:=h.hr k A hk r hr;exact⟨p,(bU p a).2 λ_ i F=>O,w,D,g⟩
theorem WI.rK (h:WI W){p:Pc}(hp:p∈W.held)(hk:W.bT[p.k]?=some A){x:Nat}(h1:p.addr<=x)(h2:x<p.addr+p.size):A.f (x/256)=1:=by
 have ga:=h.ga _ A hk;rcases h.hd hk hp rfl with⟨_,_,r,hr,e1,e2⟩|⟨j,c,_,hc,e1,ht,_⟩
 ·exact(ga.kP hr O O).1
 ·obtain⟨b,m,a,d⟩:=ht;have:b=c:=Option.some.inj (a.1.symm.trans hc);subst this;have g:=ga.cB j b m a;obtain⟨l,s,i,u,w,e,_⟩:=(VM g).1 d;have y:p.addr=at_ b s i:=Int.ofNat.inj e;have:=GM g.pos w (s:=s) (x:=x) O O;exact(ga.used a (zE u) this.1 this.2).1
theorem fA.lt (h:GA A){j:Nat}{x:Int}(hx:fA A j x):∃y:Nat,x=y/\y<262144:=by
 obtain⟨c,e,b,g⟩:=hx;have a:=h.cB j c e b;obtain⟨l,s,i,m,r,rfl,u⟩:=(VM a).1 g;have d:=GM a.pos (s:=s) (x:=at_ c s i) r (zD _) (by have:=a.pos;omega);have w:=(h.used b (zE m) d.1 d.2).1;have:=h.pg.lt (p:=at_ c s i/256) O;have:=h.pg.n2;exact⟨_,rfl,O⟩
theorem GA.DT (h:GA A):pe A:=by
 intro t ht xs hxs x hx;obtain⟨k,b⟩:=zM ht;have a:k<A.tb.length:=by rw[←h.lt];exact(cQ.1 b).1
 obtain⟨c,e,g,d,_⟩:=h.cl a;obtain⟨y,rfl,i⟩:=fA.lt h ((KB d).2 (h.nV k c e t d b x (List.mem_flatten.2 ⟨xs,hxs,hx⟩)));unfold iX;omega
theorem WI.lY (h:WI W){p:Pc}(hp:p∈W.held):p.addr<262144/\p.addr+p.size<=270000:=by
 obtain⟨A,m,d⟩:=h.hf p hp;have ga:=h.ga _ A m;have w:=ga.pg.n2;rcases d with⟨_,_,r,hr,h1,h2⟩|⟨j,c,_,hc,h2,h3,_⟩
 ·have s:=ga.fit hr;have u:=ga.gC r hr;omega
 ·obtain⟨y,e,x⟩:=h3.lt ga;obtain⟨i,g,a,_⟩:=h3;have:i=c:=Option.some.inj (a.1.symm.trans hc);subst this;have b:=(ga.cB j _ g a).ok;unfold bY.ok at b;omega
theorem Fp:∀(N:Nat) (l:List Nat),l.Nodup->(∀x∈l,x<N)->l.length<=N
 | 0,l,_,h=>by
  cases l with
  | nil=>simp
  | cons x l=>have:=h x aA;omega
 | N+1,l,hn,h=>by
  have g:=Fp N (l.filter (· != N)) (hn.sublist vU) λx b=>by
   have b:=zF.1 b;have:=h x b.1;have:x≠N:=by simpa using b.2
   omega
  have d:=List.length_eq_countP_add_countP (l:=l) (p:=(· != N));have i:l.countP (λa=>¬(a != N)=true)<=1:=by
   have e:l.countP (λa=>¬(a != N)=true)=l.count N:=by
    unfold List.count;apply Ck;intro x _;simp
   rw[e];exact CR.1 hn N
  rw[Bp]at d;omega
theorem WI.apart (h:WI W){p q:Pc}(hp:p∈W.held)(hq:q∈W.held){x:Nat}(p1:p.addr<=x)(p2:x<p.addr+p.size)(q1:q.addr<=x)(q2:x<q.addr+q.size):p=q:=by
 obtain⟨A,y,J⟩:=h.hf p hp;obtain⟨B,m,D⟩:=h.hf q hq;have N:=h.rK hp y p1 p2;have M:=h.rK hq m q1 q2;have z:p.k=q.k:=h.one (x/256) p.k q.k A B y m O O;rw[←z,y]at m;cases m;have ga:=h.ga _ A y;have H:=ga.tb;have own:∀{r:Pc},Hd A r->r.addr<=x->x<r.addr+r.size->(r.cls = -1/\A.ow (x/256)=41/\∃u∈A.runs,r.addr=u.1*256/\u.1<=x/256/\x/256<u.1+u.2) ∨
  ∃(j:Nat) (c:bY) (b:List cH) (l:Nat) (s:cH) (i:Nat),r.cls=j/\A.ow (x/256)=j+1/\Cl A j c b/\b[l]?=some s/\i<c.n/\r.addr=at_ c s i/\r.size=c.size:=by
  intro r hr r1 r2;rcases hr with⟨c1,_,u,hu,c2,c3⟩|⟨j,c,c1,c2,c3,c4,_⟩
  ·exact .inl ⟨c1,(ga.kP hu O O).2,u,hu,c2,O,O⟩
  ·obtain⟨d,b,a,K⟩:=c4;have:d=c:=Option.some.inj (a.1.symm.trans c2);subst this;have C:=ga.cB j d b a;obtain⟨l,s,i,F,E,e,_⟩:=(VM C).1 K;have G:r.addr=at_ d s i:=Int.ofNat.inj e;have g:=GM C.pos (s:=s) (x:=x) E O O;exact .inr ⟨j,d,b,l,s,i,c1,(ga.used a (zE F) g.1 g.2).2,a,F,E,G,c3⟩
 refine h.unique hp hq ?_;rcases own J p1 p2 with⟨a1,a2,u,hu,a3,a4,a5⟩|⟨j,c,b,l,s,i,a1,a2,a3,a4,a5,a6,a7⟩
 ·rcases own D q1 q2 with⟨b1,b2,w,hw,b3,b4,b5⟩|⟨j',d,ss',l',s',i',b1,b2,b3,b4,b5,b6,b7⟩
  ·have:=ga.gN hu hw a4 a5 b4 b5;subst this;unfold Pc.key;rw[z,a1,b1,a3,b3]
  ·have:=b3.lt;omega
 ·rcases own D q1 q2 with⟨b1,b2,w,hw,b3,b4,b5⟩|⟨j',d,ss',l',s',i',b1,b2,b3,b4,b5,b6,b7⟩
  ·have:=a3.lt;omega
  ·have L:j=j':=by omega
   subst L;obtain⟨rfl,rfl⟩:=a3.eq b3;have:=Ut (ga.cB j c b a3) a4 b4 a5 b5 (x:=x) O O O O;unfold Pc.key;rw[z,a1,b1,a6,b6,this.2.1,this.2.2]
theorem WI.size_pos (h:WI W){p:Pc}(hp:p∈W.held):8<=p.size/\p.size%8=0:=by
 obtain⟨A,i,e⟩:=h.hf p hp;have ga:=h.ga _ A i;rcases e with⟨_,_,r,hr,h1,h2⟩|⟨j,c,_,hc,h2,h3,_⟩
 ·have m:=ga.gC r hr;omega
 ·obtain⟨g,d,a,_⟩:=h3;have:g=c:=Option.some.inj (a.1.symm.trans hc);subst this;have b:=(ga.cB j _ d a).ok;unfold bY.ok at b;omega
theorem WI.len (h:WI W):W.held.length<=262144:=by
 have w:(W.held.map (·.addr)).Nodup:=by
  have u:=nB.1 h.hk;refine nB.2 λi j r s d e=>?_;have a:i<W.held.length:=by simpa using r
  have b:j<W.held.length:=by simpa using s
  refine u i j (by simpa using a) (by simpa using b) d ?_;simp only[wc]at e ⊢;have s1:=(h.size_pos (zf a)).1;have y:=(h.size_pos (zf b)).1;rw[h.apart (zf a) (zf b) (x:=W.held[i].addr) (zD _) O O O]
 have:=Fp 262144 _ w λx g=>by
  obtain⟨p,m,rfl⟩:=zC.1 g;exact(h.lY m).1
 simpa using this
end Go.Ar
namespace Go.Ar
open Go.Vc (bW dG cR)
def pU (live:List (Int×Bk))(k x:Int):Nat:=live.countP λe=>e.2.2.2.1==k&&e.1==x
def nG (ls:List Li)(k x:Int):Nat:=if 0<=k then(ls.getD k.toNat gT).os.count x else 0
def pN (bs:List Bt)(k x:Int):Nat:=(bs.map λb=>if(b.1:Int)=k then b.2.count x else 0).sum
def lT (p:Option Ph)(k x:Int):Nat:=match p with
 | some (.dK s _)=>if k = -1/\x=s*256 then 1 else 0
 | _=>0
def gV (g:Th)(k x:Int):Nat:=nG g.ls k x+pN g.bP k x+lT g.ph k x
def tP (H:Hw)(k x:Int):Nat:=pU H.live k x+(H.bR.map λg=>gV g k x).sum
def Um (held:List Pc)(k x:Int):Prop:=∃p∈held,p.dF=false/\p.cls=k/\(p.addr:Int)=x
open Classical in
noncomputable def nN (held:List Pc)(k x:Int):Nat:=if Um held k x then 1 else 0
theorem MF (held:List Pc)(k x:Int):nN held k x<=1:=by unfold nN;split<;>omega
theorem C9 {held:List Pc}{k x:Int}(h:1<=nN held k x):Um held k x:=by
 unfold nN at h;split at h
 ·assumption
 ·omega
theorem KD {held:List Pc}{k x:Int}(h:Um held k x):nN held k x=1:=by unfold nN;rw[zB h]
theorem QM {held:List Pc}{k x:Int}(h:¬Um held k x):nN held k x=0:=by unfold nN;rw[zA h]
theorem Sv {held held':List Pc}(h:∀k x,Um held' k x↔Um held k x)(k x:Int):nN held' k x=nN held k x:=by
 by_cases hu:Um held k x
 ·rw[KD hu,KD ((h k x).2 hu)]
 ·rw[QM hu,QM λa=>hu ((h k x).1 a)]
theorem I3 {l:List Int}(hn:l.Nodup)(x:Int):l.count x=if x∈l then 1 else 0:=by
 split
 ·rename_i h;have b:=CR.1 hn x;have a:=AP.2 h;omega
 ·rename_i h;exact yn.2 h
theorem Ee {held held':List Pc}{cl:Int}{l:List Int}(hn:l.Nodup)(h0:∀x∈l,¬Um held cl x)(h:∀k x,Um held' k x↔Um held k x\/(k=cl/\x∈l))(k x:Int):nN held' k x=nN held k x+(if cl=k then l.count x else 0):=by
 by_cases hk:cl=k
 ·subst hk;rw[zB rfl,I3 hn];by_cases hx:x∈l
  ·rw[zB hx,QM (h0 x hx),KD ((h _ _).2 (.inr ⟨rfl,hx⟩))]
  ·rw[zA hx,zt];by_cases hu:Um held cl x
   ·rw[KD hu,KD ((h _ _).2 (.inl hu))]
   ·rw[QM hu,QM λa=>by rcases(h _ _).1 a with a|⟨_,a⟩;exact hu a;exact hx a]
 ·rw[zA hk,zt];by_cases hu:Um held k x
  ·rw[KD hu,KD ((h _ _).2 (.inl hu))]
  ·rw[QM hu,QM λa=>by rcases(h _ _).1 a with a|⟨a,_⟩;exact hu a;exact hk a.symm]
theorem NU {held held':List Pc}{cl:Int}{l:List Int}(hn:l.Nodup)(h0:∀x∈l,Um held cl x)(h:∀k x,Um held' k x↔Um held k x/\¬(k=cl/\x∈l))(k x:Int):nN held k x=nN held' k x+(if cl=k then l.count x else 0):=by
 by_cases hk:cl=k
 ·subst hk;rw[zB rfl,I3 hn];by_cases hx:x∈l
  ·rw[zB hx,KD (h0 x hx),QM λa=>((h _ _).1 a).2 ⟨rfl,hx⟩]
  ·rw[zA hx,zt];by_cases hu:Um held cl x
   ·rw[KD hu,KD ((h _ _).2 ⟨hu,λa=>hx a.2⟩)]
   ·rw[QM hu,QM λa=>hu ((h _ _).1 a).1]
 ·rw[zA hk,zt];by_cases hu:Um held k x
  ·rw[KD hu,KD ((h _ _).2 ⟨hu,λa=>hk a.1.symm⟩)]
  ·rw[QM hu,QM λa=>hu ((h _ _).1 a).1]
theorem Lx {α:Type}(f:α->Nat):∀{l:List α} {t:Nat} {g:α} (g':α),l[t]?=some g->((l.set t g').map f).sum+f g=(l.map f).sum+f g'
 | [],t,g,g',h=>by simp at h
 | a::l,0,g,g',h=>by
  simp only[An,Option.some.injEq]at h;subst h;simp only[List.set_cons_zero,zH,zS];omega
 | a::l,t+1,g,g',h=>by
  have:=Lx f (l:=l) (t:=t) g' (by simpa using h);simp only[vZ,zH,zS];omega
theorem IE {α:Type}(f:α->Nat){l:List α}{g:α}(h:g∈l):f g<=(l.map f).sum:=by
 induction l with
 | nil=>simp at h
 | cons a l ih=>
  simp only[zH,zS];rcases zR.1 h with rfl|h
  ·omega
  ·have:=ih h;omega
theorem Au (ls:List Li)(k:Nat)(x:Int):nG ls (k:Int) x=(ls.getD k gT).os.count x:=by
 unfold nG;rw[zB O,dE]
theorem Od {ls:List Li}{j:Nat}(l:Li)(k:Nat)(h:j<ls.length):(ls.set j l).getD k gT=if k=j then l else ls.getD k gT:=by
 rw[zL,sj];by_cases hkj:k=j
 ·subst hkj;simp[h]
 ·rw[zA hkj,zA (Ne.symm hkj),zL]
theorem Pb {ls:List Li}{j:Nat}(l:Li)(h:j<ls.length)(k x:Int):nG (ls.set j l) k x+(if(j:Int)=k then(ls.getD j gT).os.count x else 0)=nG ls k x+(if(j:Int)=k then l.os.count x else 0):=by
 by_cases hk:0<=k
 ·obtain⟨k,rfl⟩:=zn hk;rw[Au,Au,Od l k h];by_cases hjk:j=k
  ·subst hjk;simp;omega
  ·have:¬(j:Int)=(k:Int):=by omega
   rw[zA (Ne.symm hjk),zA this,zA this]
 ·unfold nG;rw[zA hk,zA hk,zA O,zA O]
theorem VV (k x:Int):pN [] k x=0:=rfl
theorem KO (b:Bt)(bs:List Bt)(k x:Int):pN (b::bs) k x=(if(b.1:Int)=k then b.2.count x else 0)+pN bs k x:=by
 unfold pN;rw[zH,zS]
theorem ND (a b:List Bt)(k x:Int):pN (a++b) k x=pN a k x+pN b k x:=by
 unfold pN;rw[zy,uv]
theorem L6 {f:bY->Li->List Int×Li}(hf:∀c l x,(f c l).1.count x+(f c l).2.os.count x=l.os.count x){tb:List bY}{ls:List Li}(hl:ls.length=tb.length)(k x:Int):pN (Ko f tb ls) k x+nG (Kl f tb ls) k x=nG ls k x:=by
 have key:∀n,n<=tb.length->pN ((List.range n).filterMap λk=>match tb[k]?,ls[k]? with
  | some c,some l=>if(f c l).1=[]then none else some (k,(f c l).1)
  | _,_=>none) k x=if 0<=k/\k<(n:Int)then(match tb[k.toNat]?,ls[k.toNat]? with
  | some c,some l=>(f c l).1.count x
  | _,_=>0)else 0:=by
  intro n
  induction n with
  | zero=>intro _;rw[zA O];rfl
  | succ n i=>
   intro hn;have i:=i O;rw[mD,yJ,ND,i];have d:tb[n]?=some tb[n]:=cM O;have a:ls[n]?=some ls[n]:=cM O;have e:pN ([n].filterMap λk=>match tb[k]?,ls[k]? with
    | some c,some l=>if(f c l).1=[]then none else some (k,(f c l).1)
    | _,_=>none) k x=if(n:Int)=k then(f tb[n] ls[n]).1.count x else 0:=by
    rw[DK,d,a];simp only;by_cases he:(f tb[n] ls[n]).1=[]
    ·rw[zB he,he];simp[VV]
    ·rw[zA he];simp only[List.filterMap_nil,KO,VV,zt]
   rw[e];by_cases b:0<=k/\k<(n:Int)
   ·rw[zB b,zA (show ¬(n:Int)=k by omega),zt,zB (show 0<=k/\k<((n+1:Nat):Int)from⟨b.1,O⟩)]
   ·rw[zA b,zI];by_cases g:(n:Int)=k
    ·subst g;rw[zB rfl,zB (show(0:Int)<=(n:Int)/\(n:Int)<((n+1:Nat):Int)from⟨O,O⟩),dE,d,a]
    ·rw[zA g,zA O]
 have b:=key tb.length (zD _);have e:Ko f tb ls=(List.range tb.length).filterMap λk=>match tb[k]?,ls[k]? with
  | some c,some l=>if(f c l).1=[]then none else some (k,(f c l).1)
  | _,_=>none:=rfl
 rw[e,b];by_cases hk:0<=k
 ·obtain⟨k,rfl⟩:=zn hk;rw[Au,Au,dE];by_cases hkl:k<tb.length
  ·have d:tb[k]?=some tb[k]:=cM hkl;have a:ls[k]?=some ls[k]:=cM O;rw[zB ⟨O,O⟩,d,a];simp only;have:(Kl f tb ls).getD k gT=(f tb[k] ls[k]).2:=by
    unfold Kl;rw[zL,FQ,d,a];rfl
   rw[this,zL,a];exact hf _ _ _
  ·rw[zA O,zI];have b:(Kl f tb ls).getD k gT=gT:=by
    unfold Kl;rw[zL,za (by rw[List.length_zipWith];omega)];rfl
   have g:ls.getD k gT=gT:=by rw[zL,za O];rfl
   rw[b,g]
 ·rw[zA O,zI];unfold nG;rw[zA hk,zA hk]
theorem Iw (m:Nat)(l:Li)(x:Int):(gX m l).1.count x+(gX m l).2.os.count x=l.os.count x:=by
 show(l.os.take m).count x+(l.os.drop m).count x=_;rw[←wP,qL]
theorem Wmc (c:bY)(l:Li)(x:Int):(KY c l).1.count x+(KY c l).2.os.count x=l.os.count x:=Iw _ l x
theorem Wic (c:bY)(l:Li)(x:Int):(ZZ c l).1.count x+(ZZ c l).2.os.count x=l.os.count x:=Iw _ l x
theorem T1 (c:bY)(y:Int)(l:Li)(hl:l.os.length<=255)(x:Int):(dR c y l).1.count x+(dR c y l).2.os.count x=l.os.count x + [y].count x:=by
 have a:(eM [y] l).os=l.os++[y]:=by
  unfold eM;rw[zA aE]
 unfold dR;rw[zA O];split
 ·rw[a,List.count_nil,zI,wP]
 ·rw[Iw];have:(qi c (eM [y] l)).os=(eM [y] l).os:=by unfold qi;split<;>rfl
  rw[this,a,wP]
theorem OE {c:bY}{l l':Li}{y:Int}(h:Km c l=(some y,l'))(x:Int):l.os.count x=l'.os.count x + [y].count x:=by
 unfold Km at h;split at h
 ·simp at h
 ·rename_i z hz;cases h;have:l.os=l.os.dropLast++[y]:=by
   obtain⟨b,a⟩:=List.getLast?_eq_some_iff.1 hz;rw[a];simp
  conv=>lhs;rw[this]
  rw[wP]
theorem Wjq {c:bY}{l l':Li}(h:Km c l=(none,l')):l.os=[]/\l'.os=[]:=by
 unfold Km at h;split at h
 ·rename_i hz;have:l.os=[]:=by simpa using hz
  cases h;refine⟨this,?_⟩;split<;>exact this
 ·simp at h
theorem EL {live:List (Int×Bk)}{x:Int}(b:Bk)(h:bW live x=none)(k y:Int):pU (dG live x b) k y=pU live k y+(if b.2.2.1=k then[x].count y else 0):=by
 have a:live.any (λe=>e.1==x)=false:=by
  rw[p8];intro e he hx;unfold bW at h;rw[uN,se]at h;exact h e he hx
 unfold dG;rw[a,zA aA];unfold pU;rw[yl]
 congr 1
 rw[ud,List.countP_nil,zI];by_cases h1:b.2.2.1=k
 ·by_cases h2:x=y
  ·subst h2;simp[h1]
  ·simp[h1,h2]
 ·simp[h1]
theorem F0 {live:List (Int×Bk)}{x:Int}{b:Bk}(h:bW live x=none){e:Int×Bk}:e∈dG live x b↔e∈live\/e=(x,b):=by
 have a:live.any (λe=>e.1==x)=false:=by
  rw[p8];intro e he hx;unfold bW at h;rw[uN,se]at h;exact h e he hx
 unfold dG;rw[a,zA aA,zU,zZ]
theorem EI {live:List (Int×Bk)}{x:Int}{e:Int×Bk}:e∈cR live x↔e∈live/\e.1≠x:=by
 unfold cR;rw[zF];simp
theorem D5:∀{live:List (Int×Bk)} {x:Int} {b:Bk},(live.map (·.1)).Nodup->bW live x=some b->∀k y,pU live k y=pU (cR live x) k y+(if b.2.2.1=k then[x].count y else 0)
 | [],x,b,_,h,_,_=>by simp[bW]at h
 | e::l,x,b,hn,h,k,y=>by
  rw[zH,zr]at hn;by_cases he:e.1=x
  ·have hb:e.2=b:=by
    unfold bW at h;rw[List.find?_cons_of_pos (by simpa using he)]at h;simpa using h
   have hd:cR (e::l) x=l:=by
    unfold cR;rw[wH (by simpa using he),rp];intro a ha;have:a.1≠x:=λi=>hn.1 (zC.2 ⟨a,ha,i.trans he.symm⟩);simpa using this
   rw[hd];unfold pU;rw[ud,hb,he]
   congr 1
   by_cases h1:b.2.2.1=k
   ·by_cases h2:x=y
    ·subst h2;simp[h1]
    ·simp[h1,h2]
   ·simp[h1]
  ·have g:bW l x=some b:=by
    unfold bW at h ⊢
    rwa [List.find?_cons_of_neg (by simpa using he)]at h
   have d:=D5 hn.2 g k y;have hd:cR (e::l) x=e::cR l x:=by
    unfold cR;rw[wE (by simpa using he)]
   rw[hd];unfold pU at d ⊢;rw[ud,ud,d];omega
theorem L3 {live:List (Int×Bk)}{e:Int×Bk}(h:e∈live):1<=pU live e.2.2.2.1 e.1:=by
 unfold pU;exact List.countP_pos_iff.2 ⟨e,h,by simp⟩
end Go.Ar