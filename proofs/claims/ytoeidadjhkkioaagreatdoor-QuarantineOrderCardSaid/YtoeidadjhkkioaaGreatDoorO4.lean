/- Texts joined. -/
import Derived.Test.YtoeidadjhkkioaaGreatDoorO3
set_option linter.unusedVariables false
set_option linter.unusedSimpArgs false
namespace Go.Vc
open Go
def xj (h:Hp)(it r:Nat):Nat:=
 match h[it]?,h[r]? with
 | some (.mapIter _ _ seen _),some (.map es _)=>(es.toList.filter λe=>!seen.contains e.born).length
 | _,_=>0
variable {U:Hp}{k:IntKind}{c:CK}{l todo:List (Int×c.T)}{cur:Option (Int×c.T)}{r it:Nat}
theorem It.num {h:Hp}(hi:It h it k c (some r) l todo cur):xj h it r=todo.length:=by
 obtain⟨m,b,a,i,g,p,j,u,w,d,s⟩:=hi;unfold xj;rw[i,g];have:=congrArg List.length d;simpa using this
theorem It.bT {h h':Hp}(hi:It h it k c (some r) l todo cur)(h1:h'[it]?=h[it]?)(h2:h'[r]?=h[r]?):It h' it k c (some r) l todo cur:=by
 obtain⟨j,d,a,i,g,b⟩:=hi;exact⟨j,d,a,h1.trans i,h2.trans g,b⟩
theorem DM {A:aP}{body:Int->c.T->Hp->(Hp->Prop)->Prop}(hm:dK U r k c l)(I:List (Int×c.T)->Hp->Prop)
 (h0:∀v,v.size=U.size+1->aG U v->I l v)
 (hend:∀v,I [] v->A v)
 (hstep:∀todo n x v v' (J:aP),I todo v->(n,x)∈todo->Q3 v v' U.size->U.size<v.size->(∀w,w[U.size]?=v'[U.size]?->w[r]?=v'[r]?->I (todo.filter λy=>!(y.1==n)) w->J w)->body n x v' J) :
 pL k c (some r) U λit v3=>Yb [] (λI=>I v3) λJ1 v4=>pJ k c it v4 (A v4) λ_ _ v5=>pY k c it v5 λkey1 val1=>body key1 val1 v5 J1:=by
 refine⟨l,hm,λv L M hi=>?_⟩;have N:aG U v:=⟨O,λb j _=>M b j⟩;refine Ie (λw=>∃todo d,It w U.size k c (some r) l todo d/\I todo w/\U.size<w.size) (λw=>xj w U.size r) ⟨l,none,hi,h0 v L N,O⟩ ?_;rintro w ⟨todo,d,i,B,s⟩;refine⟨rfl,some r,l,todo,d,i,λG=>?_,λn x C K F g=>?_⟩
 ·subst G;exact hend w B
 ·refine⟨rfl,some r,l,_,n,x,g,hstep todo n x w K _ B C F s λu z p m=>?_⟩;have a:=g.bT z p;refine⟨⟨_,_,a,m,?_⟩,?_⟩
  ·obtain⟨P,E,D,H,_⟩:=a;exact(j9.1 H).1
  ·rw[a.num,i.num];exact Bi.2 ⟨(n,x),C,by simp⟩
theorem xG {a:CK}{x0:a.T}{A:a.T->Hp->Prop}{body:Int->c.T->a.T->Hp->(a.T->Hp->Prop)->Prop}(hm:dK U r k c l)(I:List (Int×c.T)->a.T->Hp->Prop)
 (h0:∀v,v.size=U.size+1->aG U v->I l x0 v)
 (hend:∀z v,I [] z v->A z v)
 (hstep:∀todo n x z v v' (J:a.T->Hp->Prop),I todo z v->(n,x)∈todo->Q3 v v' U.size->U.size<v.size->(∀z' w,w[U.size]?=v'[U.size]?->w[r]?=v'[r]?->I (todo.filter λy=>!(y.1==n)) z' w->J z' w)->body n x z v' J) :
 pL k c (some r) U λit v3=>Yb [a] (λI=>I x0 v3) λJ1 z v4=>pJ k c it v4 (A z v4) λ_ _ v5=>pY k c it v5 λkey1 val1=>body key1 val1 z v5 J1:=by
 refine⟨l,hm,λv N P hi=>?_⟩;have Q:aG U v:=⟨O,λb m _=>P b m⟩;refine Qp (a:=a) (λz w=>∃todo g,It w U.size k c (some r) l todo g/\I todo z w/\U.size<w.size) (λ_ w=>xj w U.size r) ⟨l,none,hi,h0 v N Q,O⟩ ?_;rintro z w ⟨todo,g,j,D,B⟩;refine⟨rfl,some r,l,todo,g,j,λK=>?_,λn x E M H i=>?_⟩
 ·subst K;exact hend z w D
 ·refine⟨rfl,some r,l,_,n,x,i,hstep todo n x z w M _ D E H B λz' u C s p=>?_⟩;have d:=i.bT C s;refine⟨⟨_,_,d,p,?_⟩,?_⟩
  ·obtain⟨R,G,F,L,_⟩:=d;exact(j9.1 L).1
  ·rw[d.num,j.num];exact Bi.2 ⟨(n,x),E,by simp⟩
end Go.Vc
namespace Go.Ar
open Go Go.Vc Go.Proofs
open Go.Bu (Zx)
variable {U:Hp}{F:Rg}{p q r:Nat}{sp:Sp}{l:List (Int×Sl)}{B:Nat->Nat}
theorem Z6 {α:Type}{l:List (Int×α)}(hn:(l.map (·.1)).Nodup){n:Int}{x:α}(h:(n,x)∈l):bU l n=some x:=by
 induction l with
 | nil=>simp at h
 | cons y l ih=>
  rw[KU];simp only[zR,zr]at hn;rcases zW.1 h with h1|h1
  ·subst h1;rw[zC rfl]
  ·have:¬y.1=n:=λe=>hn.1 (zE.2 ⟨_,h1,e.symm⟩);rw[zB this];exact ih hn.2 h1
end Go.Ar
namespace Go.Bu
open Go Go.Vc Go.Proofs
variable {U:Hp}{p n sb:Nat}{S:Nat->Bool}{ms:List Nat}
def kR (ms:List Nat):List Value:=ms.map λm=>Value.map (some m)
structure Part (B:Nat) (h:Hp) (p n:Nat) (j:Nat) (s:Sl) (ms:List Nat):Prop where
 len:ms.length=j
 sl:s.len=j
 hd:bZ h p [.int .i64 n,.slice s.a s.len s.cap]
 own:Go.Vc.Own (λb=>B<=b/\b≠p/\b∉ms) h s 1 (kR ms)
 new:∀m∈ms,B<=m/\m≠p/\m<h.size
 nd:ms.Nodup
theorem Part.done {B:Nat}{h:Hp}{j:Nat}{s:Sl}(hp:Part B h p n j s ms)(hB:B<=p)(hj:0<j)(n1:1<=n)(n2:n<=1024)(lo:2^j<=2*n)(hi:n<2^j)(jD:Bounded S n)
 (maps:∀k m,ms[k]?=some m->∃B:List (Int×Bool),dK h m .i64 .b B/\Keys S k B):∃sb,BH h p n S sb ms/\∀b,fp p sb ms b->B<=b:=by
 rcases hp.own.2 with⟨_,hl,_⟩|⟨sb,cs,⟨hq,hqp,hqm⟩,ha,hb,hle,hcl,ht⟩
 ·have:=hp.sl;omega
 ·refine⟨sb,⟨?_,?_,maps,?_,n1,n2,?_,?_,jD⟩,?_⟩
  ·refine⟨s.cap,?_⟩;have:=hp.hd;rw[ha,hp.sl,←hp.len]at this;exact this
  ·refine⟨cs.drop (kR ms).length,?_⟩;have:kR ms++cs.drop (kR ms).length=cs:=by
    conv=>lhs;lhs;rw[←ht]
    exact n4 _ _
   show bZ h sb (kR ms++_);rw[this];exact hb
  ·simp only[zr,zW,not_or];exact⟨⟨λe=>hqp e.symm,λa=>(hp.new p a).2.1 rfl⟩,hqm,hp.nd⟩
  ·rw[hp.len];exact lo
  ·rw[hp.len];exact hi
  ·intro b hb;simp only[fp,zW]at hb;rcases hb with rfl|rfl|h
   ·exact hB
   ·exact hq
   ·exact(hp.new b h).1
theorem Part.Nv {B:Nat}{h:Hp}{j:Nat}{s:Sl}(hp:Part B h p n j s ms):cell h ⟨p,1,none⟩=some (.slice s.a s.len s.cap):=by rw[hp.hd.cell];rfl
theorem Part.bP {B:Nat}{h h':Hp}{j:Nat}{s:Sl}(hp:Part B h p n j s ms)(e:aG h h'):Part B h' p n j s ms:=
 ⟨hp.len,hp.sl,e.bV hp.hd id,hp.own.bP e,λm a=>⟨(hp.new m a).1,(hp.new m a).2.1,vo (hp.new m a).2.2 e.1⟩,hp.nd⟩
theorem Part.step {B:Nat}{h:Hp}{j m e t bytes:Nat}{s:Sl}{zs:List Value}{K:Sl->Hp->Prop}(hp:Part B h p n j s ms)(hj:j<=1000)(hbt:bytes<=1000)(hz:zs.length=1)(hm:B<=m)(hmp:m≠p)(hml:m<h.size)(hmn:m∉ms)(hms:¬HO s m)
 (hpB:p<h.size) (hBh:B<=h.size)
 (hgo:∀s' h',Ext (HO s) h h'->s'.len=j+1->bZ h' p [.int .i64 n,.slice s.a s.len s.cap] →
  (∀h2,Q3 h' h2 p->bZ h2 p [.int .i64 n,.slice s'.a s'.len s'.cap]->Part B h2 p n (j+1) s' (ms++[m]))->K s' h') :
 App s 1 bytes e zs ⟨some ⟨h.size,0,none⟩,1,1⟩ (h.push (.cells #[.map (some m)] t (0,0))) K:=by
 have E:=hp.sl;have y:Go.Vc.Own (λb=>B<=b/\b≠p/\b∉ms++[m]) (h.push (.cells #[.map (some m)] t (0,0))) s 1 (kR ms):=by
  have d:=hp.own;have h2:Go.Vc.Own (λb=>B<=b/\b≠p/\b∉ms++[m]) h s 1 (kR ms):=by
   refine⟨d.1,d.2.imp id ?_⟩;rintro⟨b,cs,⟨q1,q2,q3⟩,ha,r⟩;refine⟨b,cs,⟨q1,q2,?_⟩,ha,r⟩;simp only[zM,zN,not_or];exact⟨q3,λe=>hms ⟨0,by rw[ha,e]⟩⟩
  exact h2.bP (H6 _ _)
 have D:(h.push (.cells #[.map (some m)] t (0,0))).size=h.size+1:=by simp
 refine y.app (ys:=[.map (some m)]) ?_ hz rfl Wne (by simp[dU]) ?_ ?_ nu λs' h' z J G M=>?_
 ·intro b i;rw[D]at i;refine⟨O,O,?_⟩;simp only[zM,zN,not_or];exact⟨λw=>by have:=(hp.new b w).2.2;omega,O⟩
 ·simp only;have:(s.len+1)*bytes<=1001*1000:=mo O hbt;omega
 ·simp only;omega
 ·simp only at z;have g:Ext (HO s) h h':=(H6 h _).to.trans J;have A:¬HO s p:=λi=>(hp.own.jy i).1.2.1 rfl;refine hgo s' h' g O (g.bV hp.hd A) λh2 u C=>⟨by simp[hp.len],O,C,?_,?_,?_⟩
  ·have:kR (ms++[m])=kR ms++[.map (some m)]:=by simp[kR]
   rw[this];exact G.bT (Ext.eV (F:=(· = p)) u rfl) (λb L _ H=>L.2.1 H)
  ·intro x hx;have N:h2.size=h'.size:=u.1;have:=g.1;rcases zM.1 hx with d|d
   ·have:=hp.new x d;exact⟨this.1,this.2.1,O⟩
   ·simp at d;subst d;exact⟨hm,hmp,O⟩
  ·rw[nr];refine⟨hp.nd,by simp,?_⟩;intro a ha b i;simp at i;subst i;rintro rfl;exact hmn ha
def iz:Nat->Bool:=λ_=>false
theorem NA (k:Nat):Keys iz k []:=by
 refine⟨by simp,λq a=>?_⟩;have:=Uu a (Vi k q);simp[iz]at this
theorem uU (aF:Int){R:Option Addr->Int->Hp->Prop}(hbad:¬(1<=aF/\aF<=1024)->R none 1 U)
 (hR:∀(n:Nat),aF=(n:Int)->1<=n->n<=1024->∀σ' sb ms,aG U σ'->BH σ' U.size n iz sb ms->(∀b,fp U.size sb ms b->U.size<=b)->R (some ⟨U.size,0,none⟩) 0 σ'):Kv.c aF U R:=by
 refine Kv.o ?_;unfold Kv.v;refine bX.intro (cP (λg=>cF rfl (hbad O)) λg=>?_);refine cP (λh2=>hbad O) λh2=>?_;obtain⟨n,rfl⟩:=zc (show 0<=aF by omega);have K:1<=n:=by omega
 have L:n<=1024:=by omega
 unfold Nw;have e0:=H6 U (.cells #[.int .i64 (n:Int),.slice none 0 0] 52 (0,0));refine Qp (a:=bO) (λt h=>∃(j:Nat) (s:Sl) (ms:List Nat),t=((2^j:Nat):Int)/\2^j<=2*n/\aG U h/\U.size<h.size/\Part U.size h U.size n j s ms/\∀m∈ms,dK h m .i64 .b []) (λt _=>2*n+1-t.toNat)
  ⟨0,⟨none,0,0⟩,[],rfl,by simp;omega,Ext.push _ _ _,by simp,⟨rfl,rfl,bZ.push _ _ _,Own.nil _ _ _,by simp,by simp⟩,by simp⟩ ?_
 rintro t h ⟨j,s,ms,rfl,G,M,aa,d,w⟩;have hj:j<=11:=by
  apply Classical.byContradiction;intro hc;have:2^12<=2^j:=pZ aB O;omega
 have ab:=kS j;refine cP (λZ=>?_) (λA=>?_)
 ·refine bL ?_;rw[add_lit,zH];refine oE d.Nv ?_;have e1:=H6 h (.map #[] 0);have W:(h.push (.map #[] 0)).size=h.size+1:=by simp
  have D:=d.bP e1;refine D.step (m:=h.size) O O rfl O O O (λy=>by have:=(d.new _ y).2.2;omega) (λr=>by have:=(d.own.jy r).2;omega) O O λQ h' E hl r p=>?_;refine bL (r.OB aA λh2 z H=>?_);have C:=p h2 z H;have B:aG U h2:=by
   refine Ext.fresh (Ext.fresh (M.trans e1) E λi hi=>(d.own.jy hi).1.1) (Ext.eV (F:=(· = U.size)) z rfl) λi hi=>?_;rw[hi];exact zD _
  refine cT (m:=2^(j+1)) (by rw[mO];omega) (by rw[mO];omega) ⟨⟨j+1,Q,ms++[h.size],rfl,by rw[mO];omega,B,?_,C,?_⟩,by rw[mO];omega⟩
  ·have:=z.1;have:=E.1;omega
  ·intro m y;have po:∀{m:Nat},dK (h.push (.map #[] 0)) m .i64 .b []->¬HO s m->m≠U.size->dK h2 m .i64 .b []:=λX P J=>HV z (E.fX X P) J;rcases zM.1 y with g|g
   ·exact po (e1.fX (w m g) id) (λr=>(d.own.jy r).1.2.2 g) (d.new m g).2.1
   ·simp at g;subst g;exact po (dK.push _ _ _) (λr=>by have:=(d.own.jy r).2;omega) O
 ·have u:0<j:=by
   rcases Cr j with e|e
   ·subst e;simp at A;omega
   ·exact e
  obtain⟨sb,N,V⟩:=d.done (S:=iz) (zD _) u K L G O (λx Y=>by simp[iz]at Y) λk m y=>⟨[],w m (zG y),NA k⟩;exact hR n rfl K L h sb ms M N V
end Go.Bu
namespace Go.Proofs
open Go.Vc
set_option maxRecDepth 100000
def Xt.h:Hn:=.q .o1 (.q (.cU (.seq [.op,.op,.op,.cW true 5 (RI.ops 5),.op])) .l)
def Xt.v (a:R2)(b:Hp)(c:aO):Prop:=bX (λd e=>c d e) λf=>If (!a.isNone) (bG a 1 b λh=>f (!h.isNone) b) (f false b)
theorem Xt.o {a b c}(d:Xt.v a b c):Xt.c a b c:=Wa Tryz.func133 (x:=Xt.h) (R0 d)
def Ku.h:Hn:=.q .o2 (.q (.q .o3 .aJ) (.q .o3 (.q (.q (.cU (.seq [.op,.op,.op,.cW false 3 (RI.ops 3),.op,.cW false 2 [.op,.op],.op,.cW false 2 [.op,.op]])) .aJ) (.q .o8 (.q .o9 (.q .o9 (.q (.q .o3 (.k (.loop [(61,.I)] (.q .o1 (.q (.c .l .l) (.q (.k (.q .o4 (.q .o7 (.q .o9 (.cU (.gI true [18,21] [] (.tk [0,1,2,3,4,5,6,9,10,11,12,13] (.all [(7,.all [(8,.all [(14,.all [(15,.take 16 (.take 17 (.all [(18,.take 19 (.take 20 (.all [(21,.done)])))])))])]),(14,.all [(8,.all [(15,.take 16 (.take 17 (.all [(18,.take 19 (.take 20 (.all [(21,.done)])))])))])])]),(14,.all [(7,.all [(8,.all [(15,.take 16 (.take 17 (.all [(18,.take 19 (.take 20 (.all [(21,.done)])))])))])])])])))))))) .o2)))))) (.q .o3 .l))))))))
def Ku.v (a:Sl)(b:R2)(c:Int)(d:Hp)(e:Option Addr->Int->Hp->Prop):Prop:=ZU.c a d λf g=>If (!f) (e none 2 g) (X2.c b g λh i=>bX (λj k=>bX (λl m=>bX (λn o=>If n (e none 1 o) (Wn.c a o λp q=>QG.c q λr s=>Nw (.map #[] 0) s λt u=>aV #[.slice p.a p.len p.cap,.pointer b,.pointer none,.pointer none,.pointer r,.slice none 0 0,.slice none 0 0,.map (some t.block)] 199 u λv w=>Kv.c h w λx y z=>bW (some v) λaa=>aR aa 2 (.pointer x) z λab=>Ve.c h ab λac ad ae=>bW (some v) λaf=>aR af 3 (.pointer ac) ae λag=>Yb [bO] (λah=>ah 0 ag) λai (aj:Int) ak=>If (aj<((a.len:Nat):Int)) (Ix a.a a.len aj 3 λal=>aQ al 0 ak λam=>aQ al 1 ak λan=>aQ al 2 ak λao=>aV #[.I 0,.I 0,.I 0] 149 ak λap aq=>aR ap 0 (.I am) aq λar=>aR ap 1 (.I an) ar λau=>aR ap 2 (.I ao) au λav=>aQ ap 0 av λaw=>aQ ap 1 av λax=>aQ ap 2 av λay=>QI.c aw ax ay av λaz a0 a1=>aQ ap 2 a1 λa2=>Qg.c a2 c a1 λa3 a4 a5=>Jn [] (λa6=>bM (aj+1) λa7=>ai a7 a6) λa8=>dV a5 λa9=>bW (some v) λba=>aT a9 ba 5 λbb=>bW (some v) λbc=>aT a9 bc 6 λbd=>(aV #[.pointer az] 202 a5 λbe bf=>And (a9 bf) <| (App bb 1 8 202 [.pointer none] ⟨some be,1,1⟩ bf λbg bh=>And (a9 bh) <| aV #[.pointer a3] 204 bh λbi bj=>And (a9 bj) <| App bd 1 8 204 [.pointer none] ⟨some bi,1,1⟩ bj λbk bl=>And (a9 bl) <|
 bW (some v) λbm=>aR bm 5 (.slice bg.a bg.len bg.cap) bl λbn=>bW (some v) λbo=>aR bo 6 (.slice bk.a bk.len bk.cap) bn λbp=>a8 bp) ∧ (aV #[.pointer a3] 204 bf λbq br=>And (a9 br) <| App bb 1 8 202 [.pointer none] ⟨some be,1,1⟩ br λbs bt=>And (a9 bt) <| App bd 1 8 204 [.pointer none] ⟨some bq,1,1⟩ bt λbu bv=>And (a9 bv) <| bW (some v) λbw=>aR bw 5 (.slice bs.a bs.len bs.cap) bv λbx=>bW (some v) λbz=>aR bz 6 (.slice bu.a bu.len bu.cap) bx λb0=>a8 b0)) ∧ (aV #[.pointer a3] 204 a5 λb1 b2=>And (a9 b2) <| aV #[.pointer az] 202 b2 λb3 b4=>And (a9 b4) <| App bb 1 8 202 [.pointer none] ⟨some b3,1,1⟩ b4 λb5 b6=>And (a9 b6) <| App bd 1 8 204 [.pointer none] ⟨some b1,1,1⟩ b6 λb7 b8=>And (a9 b8) <| bW (some v) λb9=>aR b9 5 (.slice b5.a b5.len b5.cap) b8 λca=>bW (some v) λcb=>aR cb 6 (.slice b7.a b7.len b7.cap) ca λcc=>a8 cc)) (e (some v) 0 ak))) λcd=>If l (cd true m) (cd (decide (c>8)) m)) λce=>If j (ce true k) (ce (decide (c<0)) k)) λcf=>If (h<32) (cf true i) (Nz 16 <| cf ((h.tmod 16) != 0) i))
theorem Ku.o {a b c d e}(f:Ku.v a b c d e):Ku.c a b c d e:=Wa Tryz.func154 (x:=Ku.h) (R0 f)
def WU.h:Hn:=.q .o2 (.q (.q .o4 (.q .o2 (.c (.q .o3 .l) .l))) (.q (.o 12) .l))
def WU.v (a:R2)(b:Int)(c:Hp)(d:Sl->Int->Hp->Prop):Prop:=Xg.c a b c λe f=>If (e != 0) (d ⟨none,0,0⟩ e f) (bF a 6 f λh=>Ix h.a h.len b 1 λi=>fY i f λj=>WT.c j f λk l m=>d k l m)
theorem WU.o {a b c d}(e:WU.v a b c d):WU.c a b c d:=Wa Tryz.func169 (x:=WU.h) (R0 e)
def WX.h:Hn:=.q .o2 (.q (.q .o4 (.q .o2 (.c (.q .o3 .l) .l))) (.q (.o 13) .l))
def WX.v (a:R2)(b c:Int)(d:Hp)(e:Sl->Int->Hp->Prop):Prop:=Xg.c a b d λf g=>If (f != 0) (e ⟨none,0,0⟩ f g) (bF a 5 g λi=>Ix i.a i.len b 1 λj=>fY j g λk=>Xs.c k c g λl m n=>e l m n)
theorem WX.o {a b c d e}(f:WX.v a b c d e):WX.c a b c d e:=Wa Tryz.func171 (x:=WX.h) (R0 f)
def Yj.h:Hn:=.q .o1 (.q (.q .o4 (.q .o2 .aJ)) (.q (.o 17) (.q (.q .o2 .aJ) (.q .gC .l))))
def Yj.v (a:R2)(b:Int)(c:Hp)(d:aN):Prop:=Xg.c a b c λe f=>If (e != 0) (d e f) (bF a 0 f λh=>Ix h.a h.len b 3 λi=>aQ i 1 f λj=>bM (b+1) λk=>YU.c a j 1 k f λl m n=>If (m != 0) (d m n) (bF a 5 n λp=>Ix p.a p.len b 1 λq=>fY q n λr=>Y5.c r l n λs t=>d s t))
theorem Yj.o {a b c d}(e:Yj.v a b c d):Yj.c a b c d:=Wa Tryz.func172 (x:=Yj.h) (R0 e)
def Xa.h:Hn:=.q .o2 (.q (.k (.q .o4 (.c .aL (.q (.cU (.seq [.op,.op,.op,.cW false 2 [.op,.op],.op,.cW false 2 [.op,.op],.op,.cW false 2 [.op,.op],.op,.cW false 5 (RI.ops 5),.op])) .aJ)))) (.q .o9 (.q (.q .o2 (.c (.q .o3 .l) .l)) (.q .o7 (.q .o3 .l)))))
def Xa.v (a:R2)(b c:Int)(d:Hp)(e:Int->Int->Hp->Prop):Prop:=Xt.c a d λf g=>If (!f) (e 0 5 g) (bX (λh i=>bX (λj k=>bX (λl m=>bX (λn o=>If n (e 0 1 o) (YU.c a b c 41 o λp q r=>If (q != 0) (e 0 q r) (bJ a 7 r λt=>kQ .i64 bO t p b r λu=>e p 0 u))) λv=>If l (v true m) (bM (c-1) λw=>v ((bits .and .i64 c w) != 0) m)) λx=>If j (x true k) (x (decide (c>16)) k)) λy=>If h (y true i) (y (decide (c<1)) i)) λz=>If (b<1) (z true g) (z (decide (b>64)) g))
theorem Xa.o {a b c d e}(f:Xa.v a b c d e):Xa.c a b c d e:=Wa Tryz.func174 (x:=Xa.h) (R0 f)
def Xd.h:Hn:=.q .o1 (.q (.q .o3 .aK) (.q (.o 11) (.q (.q .o2 .aK) (.q .o6 (.q .o6 .aM)))))
def Xd.v (a:R2)(b:Int)(c:Hp)(d:aN):Prop:=Xt.c a c λe f=>If (!e) (d 5 f) (bJ a 7 f λh=>Lk .i64 bO h b f λi=>If (!i.isSome) (d 8 f) (bJ a 7 f λk=>l6 .i64 bO k b f λl=>aV #[.I b,.I (i.getD 0)] 268 l λm n=>Yg.c a ⟨some m,1,1⟩ n λo=>d 0 o))
theorem Xd.o {a b c d}(e:Xd.v a b c d):Xd.c a b c d:=Wa Tryz.func182 (x:=Xd.h) (R0 e)
def Yg.h:Hn:=.q .o3 (.k (.loop [(8,.I)] (.q .o1 (.q (.c .l .l) (.q (.k (.q .o4 (.q (.cU (.tail 8 (RI.ops 8) [.op])) (.q (.cU (.tail 8 (RI.ops 8) [.op])) (.cU (.tail 8 (RI.ops 8) [.op])))))) .o2)))))
def Yg.v (a:R2)(b:Sl)(c:Hp)(d:aP):Prop:=Yb [bO] (λe=>e 0 c) λf (g:Int) h=>If (g<((b.len:Nat):Int)) (Ix b.a b.len g 2 λi=>aQ i 0 h λj=>aQ i 1 h λk=>aV #[.I 0,.I 0] 268 h λl m=>aR l 0 (.I j) m λn=>aR l 1 (.I k) n λo=>bG a 4 o λq=>aQ l 0 o λr=>aQ l 1 o λs=>X4.c q r s o λt u=>bG a 3 u λw=>aQ l 0 u λx=>aQ l 1 u λy=>XJ.c w x y u λz aa=>bG a 2 aa λac=>aQ l 0 aa λad=>aQ l 1 aa λae=>Ym.c ac ad ae aa λaf ag=>bM (g+1) λah=>f ah ag) (d h)
theorem Yg.o {a b c d}(e:Yg.v a b c d):Yg.c a b c d:=Wa Tryz.func184 (x:=Yg.h) (R0 e)
def Xb.h:Hn:=.q .o1 (.q (.q .o4 (.q .o2 .aJ)) (.q (.o 14) (.q (.q .o2 .aJ) (.q .o3 .aM))))
def Xb.v (a:R2)(b:Int)(c:Sl)(d:Hp)(e:aN):Prop:=Xg.c a b d λf g=>If (f != 0) (e f g) (bF a 5 g λi=>Ix i.a i.len b 1 λj=>fY j g λk=>Y4.c k c g λl m n=>If (m != 0) (e m n) (Yg.c a l n λo=>e 0 o))
theorem Xb.o {a b c d e}(f:Xb.v a b c d e):Xb.c a b c d e:=Wa Tryz.func194 (x:=Xb.h) (R0 f)
def Xg.h:Hn:=.q .o1 (.q (.k (.q .o4 (.c .aM (.q (.cU (.seq [.op,.op,.op,.cW false 7 (RI.ops 7),.op])) .aK)))) .aM)
def Xg.v (a:R2)(b:Int)(c:Hp)(d:aN):Prop:=Xt.c a c λe f=>If (!e) (d 5 f) (bX (λg h=>If g (d 1 h) (d 0 h)) λi=>If (b<0) (i true f) (bF a 0 f λk=>i (decide (b≥((k.len:Nat):Int))) f))
theorem Xg.o {a b c d}(e:Xg.v a b c d):Xg.c a b c d:=Wa Tryz.func231 (x:=Xg.h) (R0 e)
def YU.h:Hn:=.q .o2 (.q (.o 12) (.kK [(10,.I),(11,.I)] (.q .o2 (.c (.q .o1 (.q (.k (.loop [(12,.I)] (.q (.q .o5 (.c .l .l)) (.k .o3)))) (.q (.q .o4 .aJ) (.o 12)))) .l)) (.q (.q .o2 (.c (.q .o3 .l) .l)) (.q .o7 (.q .o8 (.q .o3 .l))))))
def YU.v (a:R2)(b c d:Int)(e:Hp)(f:Int->Int->Hp->Prop):Prop:=bG a 2 e λh=>X1.c h b c e λi j k=>Jn [bO,bO] (λ(l:Int) (m:Int) n=>If (m != 0) (f 0 m n) (bG a 3 n λp=>XP.c p l b n λq r=>bG a 4 r λt=>Yn.c t l b d r λu v=>f l 0 v)) λw=>If (j==6) (Yb [bO] (λx=>x 16 k) λy (z:Int) aa=>If (z<(if c>b then c else b)) (bM (z*2) λab=>y ab aa) (YZ.c a z aa λac ad=>If (!ac) (f 0 6 ad) (bG a 2 ad λaf=>X1.c af b c ad λag ah ai=>w ag ah ai))) (w i j k)
theorem YU.o {a b c d e f}(g:YU.v a b c d e f):YU.c a b c d e f:=Wa Tryz.func234 (x:=YU.h) (R0 g)
def Y7.h:Hn:=.q .o3 (.q (.q .o3 (.c (.q .o3 .l) .l)) (.q (.q .o2 (.c (.q .o3 .l) .l)) (.q .o8 (.q (.q .o2 (.c (.q .o3 .l) .l)) (.kK [] (.q .o2 (.c (.q .o5 (.k (.loop [] (.q (.cU (.seq [.it .i64 bO,.op])) (.q (.c .l .l) (.k (.q (.cU (.seq [.it .i64 bO,.op,.op,.op,.op])) (.q .o3 (.q (.cU (.seq [.op,.op,.op,.op,.cW true 5 (RI.ops 5)])) (.c (.q .o5 .l) .l)))))))))) .l)) (.q (.o 15) (.q (.q .o2 (.c (.q .o4 .l) .l)) (.q .o6 .l))))))))
def Y7.v (a:R2)(b:Int)(c:Hp)(d:Int->Int->Int->Hp->Prop):Prop:=Xt.c a c λe f=>If (!e) (d 0 0 5 f) (If (b<0) (d 0 0 8 f) (bG a 4 f λh=>Nz 256<|bM (b.tdiv 256) λi=>Zn.c h i f λj k=>If (j==0) (d 0 0 8 k) (Jn [] (λl=>bF a 5 l λn=>bM (j-1) λo=>Ix n.a n.len o 1 λp=>fY p l λq=>YE.c q b l λr s t=>If (s != 0) (d 0 0 s t) (bM (j-1) λu=>d u r 0 t)) λv=>If (j==41) (bJ a 7 k λx=>pL .i64 bO x k λy z=>Yb [] (λaa=>aa z) λab ac=>pJ .i64 bO y ac (v ac) (λad ae af=>pY .i64 bO y af λag ah=>Nz 256<|bM (b.tdiv 256) λai=>bX (λaj ak=>If aj (bM (ag*256) λal=>d (-1) al 0 ak) (ab ak)) λam=>If (ag<=ai) (bM (ag+ah) λan=>am (decide (ai<an)) af) (am false af))) (v k))))
theorem Y7.o {a b c d}(e:Y7.v a b c d):Y7.c a b c d:=Wa Tryz.func238 (x:=Y7.h) (R0 e)
def W5.h:Hn:=.q .o2 (.q (.q .o4 (.q .o2 (.c (.q .o3 .l) .l))) (.q (.q (.o 11) .aJ) (.q (.q .o3 (.k (.loop [(32,.I)] (.q .o1 (.q (.c .l .l) (.q (.k (.q .o3 (.q (.o 14) (.q (.cU (.seq [.op,.op,.op,.cW false 2 [.op,.op]])) .aJ)))) .o2)))))) (.q (.o 13) .l))))
def W5.v (a:R2)(b:Int)(c:Sl)(d:Hp)(e:Bool->Int->Hp->Prop):Prop:=Xg.c a b d λf g=>If (f != 0) (e false f g) (bF a 0 g λi=>Ix i.a i.len b 3 λj=>aQ j 2 g λk=>If (((c.len:Nat):Int) != k) (e false 1 g) (Yb [bO] (λl=>l 0 g) λm (n:Int) o=>If (n<((c.len:Nat):Int)) (Ix c.a c.len n 1 λp=>bN p o λq=>bF a 5 o λs=>Ix s.a s.len b 1 λt=>fY t o λu=>Xo.c u q o λv w x=>bX (λy z=>If y (e false 8 z) (bM (n+1) λaa=>m aa z)) λab=>If (w != 0) (ab true x) (ab (!v) x)) (bF a 6 o λad=>Ix ad.a ad.len b 1 λae=>fY ae o λaf=>Xq.c af c o λag ah ai=>e ag ah ai)))
theorem W5.o {a b c d e}(f:W5.v a b c d e):W5.c a b c d e:=Wa Tryz.func242 (x:=W5.h) (R0 f)
def Y3.h:Hn:=.q .o1 (.q (.cU (.seq [.op,.op,.op,.cW true 7 (RI.ops 7),.op])) .l)
def Y3.v (a:R2)(b:Int)(c:Hp)(d:aO):Prop:=Xt.c a c λe f=>bX (λg h=>d g h) λi=>If e (bG a 3 f λk=>X7.c k b f λl m=>i (decide (l>0)) m) (i false f)
theorem Y3.o {a b c d}(e:Y3.v a b c d):Y3.c a b c d:=Wa Tryz.func284 (x:=Y3.h) (R0 e)
def YZ.h:Hn:=.q .o1 (.q (.q .o2 (.k (.loop [(5,.I)] (.q (.q .o9 (.c .l .l)) (.q (.k (.q (.q .o8 (.c .l .l)) (.q (.q .o3 (.k (.loop [(6,.I)] (.q (.q .o6 (.c .l .l)) (.q (.k .o6) .o3))))) (.q .o7 .aM)))) .o4))))) .aM)
def YZ.v (a:R2)(b:Int)(c:Hp)(d:aO):Prop:=Yb [bO] (λe=>e b c) λf (g:Int) h=>bM (g+b) λi=>bG a 1 h λk=>X2.c k h λl m=>If (i<=l) (bG a 1 m λo=>Zl.c o g b m λp q=>If (p != 0) (bM (g+b) λr=>f r q) (Nz 16<|bM (g.tdiv 16) λs=>Yb [bO] (λt=>t s q) λu (v:Int) w=>bM (g+b) λx=>Nz 16<|bM (x.tdiv 16) λy=>If (v<y) (bG a 3 w λaa=>Yh.c aa v w λab ac=>bM (v+1) λad=>u ad ac) (bG a 2 w λaf=>Ym.c af g b w λag ah=>d true ah))) (d false m)
theorem YZ.o {a b c d}(e:YZ.v a b c d):YZ.c a b c d:=Wa Tryz.func287 (x:=YZ.h) (R0 e)
end Go.Proofs
namespace Go.Ar
open Go Go.Vc Go.Proofs
open Go.Bu (Zx Kf Zv)
inductive Lb where
 | hd|dF|free|ot|own|dQ|cS|runs
 | cG (k:Nat)
 | cR (k:Nat)
 deriving DecidableEq
structure Lay where
 p:Nat
 hs:Nat
 fr:Nat
 tr:Nat
 op:Nat
 rn:Nat
 dF:Sl
 dQ:Sl
 cS:Sl
 fL:List Nat
 gD:List Nat
def kW (Y:Lay):List Value:=[.slice Y.dF.a Y.dF.len Y.dF.cap,.pointer (some ⟨Y.hs,0,none⟩),.pointer (some ⟨Y.fr,0,none⟩),.pointer (some ⟨Y.tr,0,none⟩),.pointer (some ⟨Y.op,0,none⟩),.slice Y.dQ.a Y.dQ.len Y.dQ.cap,.slice Y.cS.a Y.cS.len Y.cS.cap,.map (some Y.rn)]
def gJ (tb:List cA):List Value:=tb.flatMap λc=>[.int .i64 (c.size:Int),.int .i64 (c.aF:Int),.int .i64 (c.batch:Int)]
def fR (l:List Nat):List Value:=l.map λb=>.pointer (some ⟨b,0,none⟩)
def iR (l:List (Nat×Nat)):List (Int×Int):=l.map λr=>((r.1:Int),(r.2:Int))
def ux (p n:Nat)(S:Nat->Bool):Hp->Rg->Prop:=λU F=>∃sb ms,Go.Bu.BH U p n S sb ms/\∀b,Go.Bu.fp p sb ms b->F b
def mE (p:Nat)(st:List Nat):Hp->Rg->Prop:=λU F=>∃q,iv U p q st/\F p/\F q
def j7 (p:Option Nat)(c:Option cA)(ss:Option (List cH)):Hp->Rg->Prop:=λU F=>match p,c,ss with
 | some p,some c,some ss=>∃ps,fH U F p c ps ss
 | _,_,_=>True
def lp (p:Option Nat)(c:Option cA)(room:Nat)(t:Option gQ):Hp->Rg->Prop:=λU F=>match p,c,t with
 | some p,some c,some t=>iV U F p c.batch room t
 | _,_,_=>True
def AC (A:AR)(Y:Lay)(T:Nat->Hp->Rg->Prop):Lb->Hp->Rg->Prop
 | .hd=>iD Y.p (kW Y)
 | .dF=>cV Y.dF 3 (gJ A.tb)
 | .free=>ux Y.fr A.n A.S
 | .ot=>mE Y.tr A.st
 | .own=>λU F=>jm U F Y.op A.ow
 | .dQ=>bS Y.dQ 1 (fR Y.fL)
 | .cS=>bS Y.cS 1 (fR Y.gD)
 | .runs=>jL Y.rn .i64 bO (iR A.runs)
 | .cG k=>j7 Y.fL[k]? A.tb[k]? A.cG[k]?
 | .cR k=>T k
def cM (A:AR)(Y:Lay)(k:Nat):Hp->Rg->Prop:=lp Y.gD[k]? A.tb[k]? A.room A.cR[k]?
theorem ux.loc (p n:Nat)(S:Nat->Bool):dN (ux p n S):=by
 rintro U σ' F G ⟨i,m,h,s⟩ x r;have j:∀b,Go.Bu.fp p i m b->b<U.size:=λb a=>by
  unfold Go.Bu.fp at a;rcases zW.1 a with h1|h1
  ·obtain⟨c,d⟩:=h.hd;rw[h1];exact d.lt
  rcases zW.1 h1 with h2|h2
  ·obtain⟨c,d⟩:=h.row;rw[h2];exact d.lt
  ·obtain⟨k,w⟩:=zP h2;obtain⟨B,u,_⟩:=h.maps k b w;exact u.lt
 have e:Ext (λb=>¬Go.Bu.fp p i m b) U σ':=⟨x,λb a g=>(r b a (s b (Classical.not_not.1 g))).2⟩;exact⟨i,m,h.bT e λb a y=>y a,λb a=>(r b (j b a) (s b a)).1⟩
theorem mE.loc (p:Nat)(st:List Nat):dN (mE p st):=by
 rintro U σ' F G ⟨q,h,j,i⟩ s a;have e:Ext (λb=>b≠p/\b≠q) U σ':=⟨s,λb m r=>by
  by_cases h1:b=p
  ·subst h1;exact(a b m j).2
  ·have d:b=q:=Classical.byContradiction λd=>r ⟨h1,d⟩;subst d;exact(a b m i).2⟩
 exact⟨q,h.bT e (λg=>g.1 rfl) (λg=>g.2 rfl),(a p h.lt.1 j).1,(a q h.lt.2 i).1⟩
theorem j7.loc (p:Option Nat)(c:Option cA)(ss:Option (List cH)):dN (j7 p c ss):=by
 rintro U g F G h a d;unfold j7 at *;split
 ·simp only at h;obtain⟨b,h⟩:=h;exact⟨b,fH.loc _ _ _ _ h a d⟩
 ·trivial
theorem lp.loc (p:Option Nat)(c:Option cA)(room:Nat)(t:Option gQ):dN (lp p c room t):=by
 rintro U d F G h a b;unfold lp at *;split
 ·exact iV.loc _ _ _ _ h a b
 ·trivial
theorem AC.loc {A:AR}{Y:Lay}{T:Nat->Hp->Rg->Prop}(hT:∀k,dN (T k)):∀i,dN (AC A Y T i)
 | .hd=>iD.loc _ _
 | .dF=>cV.loc _ _ _
 | .free=>ux.loc _ _ _
 | .ot=>mE.loc _ _
 | .own=>jm.loc
 | .dQ=>bS.loc _ _ _
 | .cS=>bS.loc _ _ _
 | .runs=>jL.loc _ _ _ _
 | .cG k=>j7.loc _ _ _
 | .cR k=>hT k
theorem cM.loc {A:AR}{Y:Lay}(k:Nat):dN (cM A Y k):=lp.loc _ _ _ _
structure fC (A:AR) (Y:Lay):Prop where
 c:Y.fL.length=A.tb.length
 t:Y.gD.length=A.tb.length
 cG:A.cG.length=A.tb.length
 cR:A.cR.length=A.tb.length
 nW:1<=A.tb.length
 r4:A.tb.length<=40
 n1:32<=A.n
 n2:A.n<=1024
 n3:A.n%16=0
 st:A.st.length=A.n
 room:A.room<=8
 ok:∀c∈A.tb,c.ok
structure dJ (U:Hp) (F:Rg) (Y:Lay) (A:AR) (T:Nat->Hp->Rg->Prop):Prop where
 lay:fC A Y
 tl:∀k,dN (T k)
 sep:Sep (AC A Y T) U F
def AH (U:Hp)(F:Rg)(p hs:Nat)(A:AR):Prop:=∃Y:Lay,Y.p=p/\Y.hs=hs/\dJ U F Y A (cM A Y)
variable {U:Hp}{F:Rg}{p hs:Nat}{A:AR}{Y:Lay}{T:Nat->Hp->Rg->Prop}
theorem dJ.loc:dN λU F=>dJ U F Y A T:=λU d F G h a b=>⟨h.lay,h.tl,Sep.loc (AC.loc h.tl) _ _ _ _ h.sep a b⟩
theorem AH.loc:dN λU F=>AH U F p hs A:=λU g F G ⟨Y,d,b,h⟩ a hs=>⟨Y,d,b,dJ.loc _ _ _ _ h a hs⟩
theorem dJ.bP {σ':Hp}(h:dJ U F Y A T)(e:aG U σ'):dJ σ' F Y A T:=dN.bP dJ.loc h e
theorem AH.bP {σ':Hp}(h:AH U F p hs A)(e:aG U σ'):AH σ' F p hs A:=dN.bP AH.loc h e
theorem dJ.hd (h:dJ U F Y A T):bZ U Y.p (kW Y):=by
 obtain⟨G,d,b,a⟩:=h.sep.get .hd;exact a
theorem Uq (tb:List cA):(gJ tb).length=tb.length*3:=by
 induction tb with
 | nil=>rfl
 | cons x l ih=>simp only[gJ,pE,zK,zS,k9]at *;omega
theorem yC {tb:List cA}{i:Nat}{c:cA}(h:tb[i]?=some c):(gJ tb)[3*i]?=some (.int .i64 (c.size:Int))/\(gJ tb)[3*i+1]?=some (.int .i64 (c.aF:Int))/\(gJ tb)[3*i+2]?=some (.int .i64 (c.batch:Int)):=by
 induction tb generalizing i with
 | nil=>simp at h
 | cons x l ih=>
  have e:gJ (x::l)=[.int .i64 (x.size:Int),.int .i64 (x.aF:Int),.int .i64 (x.batch:Int)]++gJ l:=by simp[gJ]
  rw[e];cases i with
  | zero=>simp at h;subst h;simp
  | succ i=>
   have:=ih (i:=i) (by simpa using h);rw[show 3*(i+1)=3*i+3 by omega];simpa using this
theorem dJ.pH (h:dJ U F Y A T):Y.dF.len=A.tb.length:=by
 obtain⟨G,b,a⟩:=h.sep.get .dF;have:=a.1;rw[Uq]at this;omega
theorem ur {s:Sl}{tb:List cA}(h:cV s 3 (gJ tb) U F){k d:Nat}{c:cA}(hc:tb[k]?=some c)(hd:d<3){K:Int->Prop}(hK:K (if d=0 then c.size else if d=1 then c.aF else c.batch:Nat)) :
 Ix s.a s.len (k:Int) 3 λa=>gN .i64 (a.add d) U K:=by
 have i:=yC hc;have j:(gJ tb)[3*k+d]?=some (.int .i64 ((if d=0 then c.size else if d=1 then c.aF else c.batch:Nat):Int)):=by
  match d,hd with
  | 0,_=>exact i.1
  | 1,_=>exact i.2.1
  | 2,_=>exact i.2.2
 have r:=(cY.1 hc).1;obtain⟨b,o,p,g⟩:=h.cell j;have m:=h.1;rw[Uq]at m;rw[p];refine ix O O ?_;rw[add_lit,add_lit];refine oy ?_ hK;rw[show o+(k:Int).toNat*3+d=o+(3*k+d) by omega];exact g
theorem dJ.yj (h:dJ U F Y A T){k d:Nat}{c:cA}(hc:A.tb[k]?=some c)(hd:d<3){K:Int->Prop}(hK:K (if d=0 then c.size else if d=1 then c.aF else c.batch:Nat)) :
 Ix Y.dF.a Y.dF.len (k:Int) 3 λa=>gN .i64 (a.add d) U K:=by
 obtain⟨G,g,b⟩:=h.sep.get .dF;exact ur b hc hd hK
theorem Dk {s:Sl}{l:List Nat}(h:cV s 1 (fR l) U F){k q:Nat}(hq:l[k]?=some q){K:Option Addr->Prop}(hK:K (some ⟨q,0,none⟩)):Ix s.a s.len (k:Int) 1 λa=>fY a U K:=by
 have m:=(cY.1 hq).1;obtain⟨b,o,i,d⟩:=h.cell (j:=k) (v:=.pointer (some ⟨q,0,none⟩)) (by simp[fR,hq]);have g:=h.1;simp[fR]at g;rw[i];refine ix O O ?_;rw[add_lit];exact wc (by rw[show o+(k:Int).toNat*1=o+k by omega];exact d) hK
theorem dJ.lX (h:dJ U F Y A T){k q:Nat}(hq:Y.fL[k]?=some q){K:Option Addr->Prop}(hK:K (some ⟨q,0,none⟩)):Ix Y.dQ.a Y.dQ.len (k:Int) 1 λa=>fY a U K:=by
 obtain⟨G,d,b⟩:=h.sep.get .dQ;exact Dk (bS.fW b) hq hK
theorem dJ.sB (h:dJ U F Y A T){k q:Nat}(hq:Y.gD[k]?=some q){K:Option Addr->Prop}(hK:K (some ⟨q,0,none⟩)):Ix Y.cS.a Y.cS.len (k:Int) 1 λa=>fY a U K:=by
 obtain⟨G,d,b⟩:=h.sep.get .cS;exact Dk (bS.fW b) hq hK
theorem dJ.at_ (h:dJ U F Y A T){k:Nat}(hk:k<A.tb.length):∃c ss q t r,A.tb[k]?=some c/\A.cG[k]?=some ss/\Y.fL[k]?=some q/\A.cR[k]?=some t/\Y.gD[k]?=some r/\c.ok:=by
 have g:=h.lay.c;have a:=h.lay.t;have b:=h.lay.cG;have d:=h.lay.cR;exact⟨A.tb[k],A.cG[k],Y.fL[k],A.cR[k],Y.gD[k],by simp,by simp,by simp,by simp,by simp,h.lay.ok _ (kv hk)⟩
theorem FU {k q:Nat}{c:cA}{ss:List cH}{G:Rg}(h1:Y.fL[k]?=some q)(h2:A.tb[k]?=some c)(h3:A.cG[k]?=some ss)(h:AC A Y T (.cG k) U G):∃ps,fH U G q c ps ss:=by
 simp only[AC]at h;rw[h1,h2,h3]at h;exact h
theorem dJ.cG (h:dJ U F Y A T){k q:Nat}{c:cA}{ss:List cH}(h1:Y.fL[k]?=some q)(h2:A.tb[k]?=some c)(h3:A.cG[k]?=some ss):∃G ps,(∀b,G b->F b)/\fH U G q c ps ss:=by
 obtain⟨G,a,d⟩:=h.sep.get (.cG k);obtain⟨ps,g⟩:=FU h1 h2 h3 d;exact⟨G,ps,a,g⟩
theorem HU (h:dJ U F Y A T){R:aO}(hR:R true U):Xt.c (aW Y.p) U R:=by
 refine Xt.o ?_;unfold Xt.v;exact bX.intro (cF rfl (bL (h.hd.rP rfl hR)))
theorem UK (h:dJ U F Y A T)(k:Int){R:aN}(h1:A.ck k=false->R 1 U)(h0:∀x:Nat,k=x->x<A.tb.length->R 0 U):Xg.c (aW Y.p) k U R:=by
 refine Xg.o ?_;unfold Xg.v;have i:=h.pH;have a:¬(0<=k/\k<A.tb.length)->R 1 U:=λg=>h1 (by unfold AR.ck;rw[←wh];exact zJ g);refine HU h (cD rfl (bX.intro (cP (λd=>cF rfl (a O)) λd=>bL (h.hd.rS rfl (cP (λb=>?_) λb=>?_)))))
 ·simp only at b;exact a O
 ·simp only at b;exact h0 k.toNat O O
theorem N7 (h:dJ U F Y A T)(x:Int){R:aO}(hR:R (pK A x) U):Y3.c (aW Y.p) x U R:=by
 refine Y3.o ?_;unfold Y3.v;obtain⟨G,b,q,a,_⟩:=h.sep.get .ot;refine HU h (bX.intro (cF rfl (bL (h.hd.rP rfl (Rb a x ?_)))));have:decide (Al A.st x>0)=pK A x:=by
  unfold Al pK;by_cases hx:0<=x
  ·by_cases hl:x<A.st.length
   ·rw[zC ⟨hx,hl⟩,zI hx,qU,decide_eq_decide];omega
   ·rw[zB O,zI hx,qU,zQ,zX O];rfl
  ·rw[zB O,zJ hx];rfl
 rw[this];exact hR
structure iQ (A:AR):Prop where
 tM:∀r∈A.runs,∀s∈A.runs,∀x,r.1<=x->x<r.1+r.2->s.1<=x->x<s.1+s.2->r=s
 yv:∀x,x<1024->A.ow x=41->(sA A x).isSome=true
 cls:∀x,x<1024->A.ow x≠0->A.ow x≠41->A.ow x<=A.tb.length
 fit:∀r∈A.runs,r.1+r.2<=1024
theorem Di (h:iQ A){x:Nat}{r:Nat×Nat}(hr:r∈A.runs)(h1:r.1<=x)(h2:x<r.1+r.2):sA A x=some r:=by
 cases hf:sA A x with
 | none=>
  unfold sA at hf;rw[og]at hf;have:=hf r hr;simp[h1,h2]at this
 | some s=>
  unfold sA at hf;have b:=tK hf;have a:=uV hf;simp at a;rw[h.tM r hr s b x h1 h2 a.1 a.2]
theorem ML (h:dJ U F Y A T)(hr:iQ A)(x:Int)(hx:iN x){R:Int->Int->Int->Hp->Prop}(h1:∀σ' k a,aG U σ'->Hu A x=some (k,a)->R k (a:Int) 0 σ')(h0:∀σ',aG U σ'->Hu A x=none->R 0 0 8 σ') :
 Y7.c (aW Y.p) x U R:=by
 refine Y7.o ?_;unfold Y7.v;refine HU h (cD rfl (cP (λZ=>h0 U (Ext.refl _ _) (by unfold Hu;rw[zC Z])) λZ=>bL (h.hd.rP rfl (nz aB ?_))));obtain⟨y,rfl⟩:=zc (show 0<=x by omega);have hy:y<=9223372036854775807:=by unfold iN at hx;omega
 have S:((y:Int).tdiv 256)=((y/256:Nat):Int):=by rw[YO O];simp
 refine ar (by rw[S];omega) (by rw[S];omega) ?_;rw[S];obtain⟨G,hG,hP⟩:=h.sep.get .own;refine Oj hP _ ?_;have eo:rR A.ow ((y/256:Nat):Int)=if y/256<1024 then A.ow (y/256)else 0:=by
  unfold rR;by_cases hl:y/256<1024
  ·rw[zC O,zC hl];rfl
  ·rw[zB O,zB hl]
 have g:Hu A (y:Int)=(let no:=if y/256<1024 then A.ow (y/256)else 0
  if no=0 then none else if no=41 then(sA A (y/256)).map λr=>(-1,r.1*256)else
  match A.tb[no-1]?,A.cG[no-1]? with
  | some c,some ss=>(rJ c ss (y:Int)).map λa=>(((no-1:Nat):Int),a)
  | _,_=>none):=by
  unfold Hu;rw[zB Z];rfl
 rw[eo];generalize hno:(if y/256<1024 then A.ow (y/256)else 0)=no at *
 simp only at g;rw[xV];refine cN (λW=>h0 U (Ext.refl _ _) (by rw[g,zC (by simpa using W)])) λW=>?_;have D:no≠0:=by simpa using W
 rw[zB D]at g;have E:y/256<1024:=by
  rcases kg (y/256) 1024 with h|h
  ·exact h
  ·rw[zB O]at hno;exact absurd hno.symm D
 rw[zC E]at hno;refine Jn.intro ?_;have aa:(((no:Nat):Int)==41)=(no==41):=mi no 41;rw[aa];refine cN (λc2=>?_) λc2=>?_
 ·have w:no=41:=by simpa using c2
  subst w;rw[zC rfl]at g;obtain⟨r,L⟩:=pw.1 (hr.yv _ E hno);have j:=tK L;have C:=uV L;simp at C;obtain⟨G,hG,K⟩:=h.sep.get .runs;refine bL (h.hd.rM rfl ?_);refine DM K.2 (λd v=>aG U v/\(∀z∈d,z∈iR A.runs)/\((r.1:Int),(r.2:Int))∈d) (λv hz e=>⟨e,λz hz=>hz,zE.2 ⟨r,j,rfl⟩⟩) (λv hv=>absurd hv.2.2 aA) ?_;rintro d n z v v' J ⟨e,b,B⟩ hm ho hlt2 hJ;have V:aG U v':=Ext.fresh e ho.ext λi hi=>by omega
  obtain⟨s,P,X⟩:=zE.1 (b _ hm);cases X;have hfit:=hr.fit s P;refine nz aB (ar O O ?_);refine bX.intro (cP (λc3=>ar O O (cP (λc4=>?_) λc4=>?_)) λc3=>cD rfl ?_)
  ·have ab:=Di hr P (x:=y/256) O O;refine ar O O ?_;have:=h1 v' (-1) (s.1*256) V (by rw[g,ab];rfl);simpa using this
  ·refine hJ v' rfl rfl ⟨V,λu hu=>b u (zL.1 hu).1,zL.2 ⟨B,?_⟩⟩;have:¬(r.1:Int)=(s.1:Int):=λe=>by
    have:=Di hr j C.1 C.2;have e1:r.1=s.1:=by omega
    by_cases h2:r.2=0
    ·omega
    by_cases h3:s.2=0
    ·have:=K.2.nodup;have M:=Z6 this (zE.2 ⟨r,j,rfl⟩);have H:=Z6 this (zE.2 ⟨s,P,rfl⟩);rw[e1,H]at M;have:s.2=r.2:=by
      have:(s.2:Int)=(r.2:Int):=Option.some.inj M;omega
     omega
    ·have:=hr.tM r j s P r.1 O O O O;subst this;omega
   simpa using this
  ·refine hJ v' rfl rfl ⟨V,λu hu=>b u (zL.1 hu).1,zL.2 ⟨B,?_⟩⟩;have:¬(r.1:Int)=(s.1:Int):=λe=>by omega
   simpa using this
 ·have w:no≠41:=by simpa using c2
  rw[zB w]at g;have hcl:=hr.cls _ E (by rw[hno];exact D) (by rw[hno];exact w);rw[hno]at hcl;obtain⟨c,ss,q,t,r,hc,N,hq,_,_,hok⟩:=h.at_ (k:=no-1) O;obtain⟨G,ps,hG,hC⟩:=h.cG hq hc N;rw[hc,N]at g;simp only at g;refine bL (h.hd.rS rfl (cT (m:=no-1) O (by have:=h.lay.r4;omega) (h.lX hq (RX hC _ hx (λa Q=>?_) λQ=>?_))))
  ·refine cD rfl (cT (m:=no-1) O (by have:=h.lay.r4;omega) (h1 U _ a (Ext.refl _ _) ?_));rw[g,Q];rfl
  ·refine cF rfl (h0 U (Ext.refl _ _) ?_);rw[g,Q];rfl
end Go.Ar
namespace Go.Ar
open Go Go.Vc Go.Proofs
open Go.Bu (Zx Kf Zv)
open Classical in
theorem _root_.Go.Vc.Sep.j3 {L:Type}{C:L->Hp->Rg->Prop}{U:Hp}{F:Rg}(hC:∀i,dN (C i))(h:Sep C U F)(i:L):∃G:Rg,(∀b,G b->F b)/\C i U G/\(∀j,j≠i->∃H:Rg,(∀b,H b->F b)/\(∀b,H b->¬G b)/\C j U H)/\∀(σ':Hp) (C':L->Hp->Rg->Prop) (G':Rg),
 (∀j,j≠i->C' j=C j)->Ext G U σ'->(∀b,G' b->G b\/U.size<=b)->C' i σ' G'->dN (C' i)->Sep C' σ' λb=>F b/\b<U.size/\¬G b\/G' b:=by
 obtain⟨ρ,h⟩:=h;refine⟨_,λb a=>a.1,h i,λj s=>⟨_,λb a=>a.1,λb m w=>s (m.2.symm.trans w.2),h j⟩,λσ' C' G' s e u hi x=>⟨λb=>if G' b then i else ρ b,λj=>?_⟩⟩
 by_cases hji:j=i
 ·subst hji;exact x.mono hi λb _ a=>⟨.inr a,zC a⟩
 ·rw[s j hji];refine hC j _ _ _ _ (h j) e.1 λb a r=>?_;have d:¬(F b/\ρ b=i):=λp=>hji (r.2.symm.trans p.2);have g:¬G' b:=λp=>by
   rcases u b p with m|m
   ·exact d m
   ·omega
  exact⟨⟨.inl ⟨r.1,a,d⟩,(zB g).trans r.2⟩,e.2 b a d⟩
variable {U:Hp}{F:Rg}{p hs:Nat}{A:AR}{Y:Lay}{T:Nat->Hp->Rg->Prop}
theorem dJ.step (h:dJ U F Y A T)(i:Lb):∃G:Rg,(∀b,G b->F b)/\AC A Y T i U G/\(∀j,j≠i->∃H:Rg,(∀b,H b->F b)/\(∀b,H b->¬G b)/\AC A Y T j U H)/\∀(σ':Hp) (A':AR) (Y':Lay) (T':Nat->Hp->Rg->Prop) (G' H:Rg),
 fC A' Y'->(∀k,dN (T' k))->(∀j,j≠i->AC A' Y' T' j=AC A Y T j)->Ext G U σ'->(∀b,G' b->G b\/U.size<=b)->AC A' Y' T' i σ' G'->(∀b,(F b/\b<U.size/\¬G b\/G' b)->H b)->dJ σ' H Y' A' T':=by
 obtain⟨G,s,hi,hd,a⟩:=h.sep.j3 (AC.loc h.tl) i;refine⟨G,s,hi,hd,λσ' A' Y' T' G' H p g w e m d r=>⟨p,g,?_⟩⟩;exact(Sep.loc (AC.loc g)).mono (a σ' _ G' w e m d (AC.loc g i)) λb _ u=>r b u
theorem Gr {U:Hp}{F G G':Rg}(hG:∀b,G b->F b)(hg:∀b,G' b->G b\/U.size<=b):∀b,(F b/\b<U.size/\¬G b\/G' b)->Grow F U b:=λb a=>by
 rcases a with a|a
 ·exact .inl a.1
 ·exact(hg b a).imp (hG b) id
theorem A9 {U:Hp}{F G G':Rg}(hG:∀b,G b->F b)(hg:∀b,G' b->G b):∀b,(F b/\b<U.size/\¬G b\/G' b)->F b:=λb a=>by
 rcases a with a|a
 ·exact a.1
 ·exact hG b (hg b a)
theorem II {U:Hp}{F G:Rg}(hG:∀b,G b->F b):∀b,(F b/\b<U.size/\¬G b\/Cut G U b)->Cut F U b:=λb a=>by
 rcases a with a|a
 ·exact⟨a.1,a.2.1⟩
 ·exact⟨hG b a.1,a.2⟩
theorem Ij {ow:Nat->Nat}:∀j,j≠Lb.own->AC {A with ow:=ow} Y T j=AC A Y T j:=by
 intro j hj;cases j<;>first|rfl|exact absurd rfl hj
theorem OP {st:List Nat}:∀j,j≠Lb.ot->AC {A with st:=st} Y T j=AC A Y T j:=by
 intro j hj;cases j<;>first|rfl|exact absurd rfl hj
theorem Co {S:Nat->Bool}:∀j,j≠Lb.free->AC {A with S:=S} Y T j=AC A Y T j:=by
 intro j hj;cases j<;>first|rfl|exact absurd rfl hj
theorem Μ {rs:List (Nat×Nat)}:∀j,j≠Lb.runs->AC {A with runs:=rs} Y T j=AC A Y T j:=by
 intro j hj;cases j<;>first|rfl|exact absurd rfl hj
theorem Wns {k:Nat}{ss:List cH}:∀j,j≠Lb.cG k->AC {A with cG:=A.cG.set k ss} Y T j=AC A Y T j:=by
 intro j hj;cases j<;>first|rfl|skip
 rename_i k';have a:k≠k':=λe=>hj (by rw[e]);simp only[AC];rw[zh a]
theorem fC.ow {ow:Nat->Nat}(h:fC A Y):fC {A with ow:=ow} Y:=⟨h.c,h.t,h.cG,h.cR,h.nW,h.r4,h.n1,h.n2,h.n3,h.st,h.room,h.ok⟩
theorem fC.Cv {S:Nat->Bool}(h:fC A Y):fC {A with S:=S} Y:=⟨h.c,h.t,h.cG,h.cR,h.nW,h.r4,h.n1,h.n2,h.n3,h.st,h.room,h.ok⟩
theorem fC.rY {rs:List (Nat×Nat)}(h:fC A Y):fC {A with runs:=rs} Y:=⟨h.c,h.t,h.cG,h.cR,h.nW,h.r4,h.n1,h.n2,h.n3,h.st,h.room,h.ok⟩
theorem fC.xl {st:List Nat}(h:fC A Y)(hl:st.length=A.st.length):fC {A with st:=st} Y:=⟨h.c,h.t,h.cG,h.cR,h.nW,h.r4,h.n1,h.n2,h.n3,hl.trans h.st,h.room,h.ok⟩
theorem fC.lb {k:Nat}{ss:List cH}(h:fC A Y):fC {A with cG:=A.cG.set k ss} Y:=⟨h.c,h.t,by simpa using h.cG,h.cR,h.nW,h.r4,h.n1,h.n2,h.n3,h.st,h.room,h.ok⟩
theorem Lh (st:List Nat)(a m:Int)(v:Nat)(fr:List Nat):(UE st a m v fr).length=st.length:=by
 unfold UE;split<;>simp[Vl]
theorem ε (st:List Nat)(k:Int):(je st k).length=st.length:=by
 unfold je;split<;>simp[Vl]
theorem dJ.Clear (h:dJ U F Y A T)(a m:Nat)(ha:a<=1000000){R:aN}(hR:∀σ' t,Ext F U σ'->dJ σ' (Grow F U) Y {A with ow:=jO A.ow a m 0} T->R t σ'):X4.c (aW Y.op) a m U R:=by
 obtain⟨G,i,hi,_,d⟩:=h.step .own;refine MX hi a m ha λσ' e j=>hR σ' _ (e.sub i) ?_;exact d σ' _ _ T (Grow G U) _ h.lay.ow h.tl Ij e (λb g=>g) j (Gr i λb g=>g)
theorem dJ.Set (h:dJ U F Y A T)(a m:Nat)(ha:a<=1000000){no:Nat}(h1:1<=no)(h2:no<=1000){R:aN}(hR:∀σ' t,Ext F U σ'->dJ σ' (Grow F U) Y {A with ow:=jO A.ow a m no} T->R t σ'):Yn.c (aW Y.op) a m no U R:=by
 obtain⟨G,i,hi,_,d⟩:=h.step .own;refine TP hi a m ha h1 h2 λσ' e j=>hR σ' _ (e.sub i) ?_;exact d σ' _ _ T (Grow G U) _ h.lay.ow h.tl Ij e (λb g=>g) j (Gr i λb g=>g)
theorem dJ.ot (h:dJ U F Y A T):∃G:Rg,(∀b,G b->F b)/\∃q,iv U Y.tr q A.st/\F q/\∀(σ':Hp) (st:List Nat),st.length=A.st.length->Ext (· = q) U σ'->iv σ' Y.tr q st->Ext F U σ'/\dJ σ' F Y {A with st:=st} T:=by
 obtain⟨G,g,⟨q,j,m,i⟩,_,d⟩:=h.step .ot;refine⟨G,g,q,j,g _ i,λσ' st p e r=>⟨e.sub λb a=>by subst a;exact g _ i,?_⟩⟩;exact d σ' _ _ T G _ (h.lay.xl p) h.tl OP (e.sub λb a=>by subst a;exact i) (λb a=>.inl a) ⟨q,r,m,i⟩ (A9 g λb a=>a)
theorem dJ.xB (h:dJ U F Y A T)(a m:Int){R:aN}(hR:∀σ' t,Ext F U σ'->dJ σ' F Y {A with st:=UE A.st a m 2 [1]} T->R t σ'):XJ.c (aW Y.tr) a m U R:=by
 obtain⟨G,i,q,d,_,b⟩:=h.ot;refine OY d a m λσ' e g=>?_;have:=b σ' _ (Lh _ _ _ _ _) e g;exact hR σ' _ this.1 this.2
theorem dJ.Use (h:dJ U F Y A T)(a m:Int){R:aN}(hR:∀σ' t,Ext F U σ'->dJ σ' F Y {A with st:=UE A.st a m 1 [2,3]} T->R t σ'):XP.c (aW Y.tr) a m U R:=by
 obtain⟨G,i,q,d,_,b⟩:=h.ot;refine RW d a m λσ' e g=>?_;have:=b σ' _ (Lh _ _ _ _ _) e g;exact hR σ' _ this.1 this.2
theorem dJ.D8 (h:dJ U F Y A T)(k:Int){R:aN}(hR:∀σ' t,Ext F U σ'->dJ σ' F Y {A with st:=je A.st k} T->R t σ'):Yh.c (aW Y.tr) k U R:=by
 obtain⟨G,g,q,b,_,a⟩:=h.ot;refine Ms b k λσ' e d=>?_;have:=a σ' _ (ε _ _) e d;exact hR σ' _ this.1 this.2
theorem dJ.free (h:dJ U F Y A T):∃sb ms,Go.Bu.BH U Y.fr A.n A.S sb ms/\∀(σ':Hp) (S:Nat->Bool),Ext (· ∈ ms) U σ'->Go.Bu.BH σ' Y.fr A.n S sb ms->Ext F U σ'/\dJ σ' F Y {A with S:=S} T:=by
 obtain⟨G,i,⟨sb,ms,m,g⟩,_,d⟩:=h.step .free;have j:∀b,b∈ms->G b:=λb a=>g b (by unfold Go.Bu.fp;simp[a]);refine⟨sb,ms,m,λσ' S e p=>⟨e.sub λb a=>i b (j b a),?_⟩⟩;exact d σ' _ _ T G _ h.lay.Cv h.tl Co (e.sub j) (λb a=>.inl a) ⟨sb,ms,p,g⟩ (A9 i λb a=>a)
theorem dJ.xI (h:dJ U F Y A T)(a m:Int){R:aN}(hR:∀σ' t,Ext F U σ'->dJ σ' F Y {A with S:=Kf A.n A.S a m} T->R t σ'):Ym.c (aW Y.fr) a m U R:=by
 obtain⟨j,i,d,b⟩:=h.free;refine Go.Bu.rD d a m λσ' e g=>?_;have:=b σ' _ e g;exact hR σ' _ this.1 this.2
theorem dJ.wS (h:dJ U F Y A T)(a m:Int){R:Int->Int->Hp->Prop}(hR:∀σ',Ext F U σ'->dJ σ' F Y {A with S:=Go.Bu.jb A.n A.S a m} T->R ((Go.Bu.jc A.n A.S a m:Nat):Int) (Go.Bu.jh A.n A.S a m) σ'):X1.c (aW Y.fr) a m U R:=by
 obtain⟨j,i,d,b⟩:=h.free;refine Go.Bu.lr d a m λσ' e g=>?_;have:=b σ' _ e g;exact hR σ' this.1 this.2
def rV (rs:List (Nat×Nat)):List Value:=rs.flatMap λr=>[.int .i64 (r.1:Int),.int .i64 (r.2:Int)]
theorem FR (rs:List (Nat×Nat)):(rV rs).length=rs.length*2:=by
 induction rs with
 | nil=>rfl
 | cons x l ih=>simp only[rV,pE,zK,zS,k9]at *;omega
theorem Υ {l:List (Nat×Nat)}{i:Nat}{r:Nat×Nat}(h:l[i]?=some r):(rV l)[2*i]?=some (.int .i64 (r.1:Int))/\(rV l)[2*i+1]?=some (.int .i64 (r.2:Int)):=by
 induction l generalizing i with
 | nil=>simp at h
 | cons x l ih=>
  have e:rV (x::l)=[.int .i64 (x.1:Int),.int .i64 (x.2:Int)]++rV l:=by simp[rV]
  rw[e];cases i with
  | zero=>simp at h;subst h;simp
  | succ i=>
   have:=ih (i:=i) (by simpa using h);rw[show 2*(i+1)=2*i+2 by omega];simpa using this
theorem RJ (c:cA)(l:List Nat):iU c l=rV (l.map λs=>(s,c.aF)):=by
 simp[iU,rV,List.flatMap_map]
theorem PJ {s:Sl}{rs:List (Nat×Nat)}(h:cV s 2 (rV rs) U F){i:Nat}{r:Nat×Nat}(hr:rs[i]?=some r){K:Int->Int->Prop}(hK:K (r.1:Int) (r.2:Int)) :
 Ix s.a s.len (i:Int) 2 λa=>gN .i64 (a.add 0) U λu=>gN .i64 (a.add 1) U λw=>K u w:=by
 have j:=Υ hr;have hi:=(cY.1 hr).1;obtain⟨b,o,m,p⟩:=h.cell j.1;obtain⟨y,o1,d,g⟩:=h.cell j.2;rw[m]at d;cases d;have x:=h.1;rw[FR]at x;rw[m];refine ix O O ?_;rw[add_lit];refine oy ?_ (oy ?_ hK)<;>rw[add_lit]
 ·rw[show o+(i:Int).toNat*2+0=o+2*i by omega];exact p
 ·rw[show o+(i:Int).toNat*2+1=o+(2*i+1) by omega];exact g
theorem dJ.mono {G:Rg}(h:dJ U F Y A T)(hs:∀b,b<U.size->F b->G b):dJ U G Y A T:=dN.mono dJ.loc h hs
theorem dJ.cut (h:dJ U F Y A T):dJ U (Cut F U) Y A T:=dN.cut dJ.loc h
theorem Sj (A:AR)(rs:List (Nat×Nat))(r:Nat×Nat):UB A (rs++[r])=Us (UB A rs) r:=by simp[UB]
theorem EA (h:dJ U F Y A T){sl:Sl}{rs:List (Nat×Nat)}{X:Rg}(hs:cV sl 2 (rV rs) U X)(hX:∀b,b<U.size->X b->¬F b)(hl:rs.length<=1000000)(hb:∀r∈rs,r.1<=1000000){R:aP}
 (hR:∀σ',Ext F U σ'->dJ σ' (Grow F U) Y (UB A rs) T->R σ'):Yg.c (aW Y.p) sl U R:=by
 refine Yg.o ?_;unfold Yg.v;have P:sl.len=rs.length:=by have:=hs.1;rw[FR]at this;omega
 have B:cV sl 2 (rV rs) U (Cut X U):=aH.cut hs;refine Qp (a:=bO) (λ(t:Int) v=>∃i:Nat,t=(i:Int)/\i<=rs.length/\Ext F U v/\dJ v (Grow F U) Y (UB A (rs.take i)) T) (λt _=>rs.length-t.toNat) ⟨0,rfl,O,Ext.refl _ _,by simpa[UB]using h.mono λb _ hb=>.inl hb⟩ ?_;rintro t v ⟨i,rfl,hi,e,C⟩;refine cP (λhlt=>?_) λhge=>?_
 ·have s:i<rs.length:=by omega
  have y:rs[i]?=some rs[i]:=cX s;have H:=hb _ (kv s);have J:=aH.bT B e λb E y w=>hX b E y.1 w;refine PJ J y ?_;have M:rs.take (i+1)=rs.take i++[rs[i]]:=by rw[kz,y];rfl
  generalize rs[i]=r at *;refine nw (cs:=[.int .i64 0,.int .i64 0]) λv4 hz4 e4 z=>z.s1 aA λv5 o5 b5=>b5.s1 aA λv6 o6 S=>?_;have u:aG v v6:=Ext.fresh (Ext.fresh e4 o5.ext λi hi=>O) o6.ext λi hi=>by omega
  have j:=C.cut.bP u;have W:¬Cut (Grow F U) v v.size:=λw=>by have:=w.2;omega
  have g:bZ v6 v.size [.int .i64 (r.1:Int),.int .i64 (r.2:Int)]:=S;have z6:v.size<v6.size:=S.lt;refine bL (j.hd.rP rfl (g.rI rfl (g.rI rfl (j.Clear r.1 r.2 H λv7 t7 Z N=>?_))));have K:=Z.bV g W;have d:=N.mono (G:=λb=>Cut (Grow F U) v b\/v.size<b) λb _ hb=>by
   rcases hb with hb|hb
   ·exact .inl hb
   ·exact .inr O
  have D:¬(Cut (Grow F U) v v.size\/v.size<v.size):=λw=>by
   rcases w with h|h
   ·exact W h
   ·omega
  refine bL (d.hd.rP rfl (K.rI rfl (K.rI rfl (d.xB _ _ λv8 t8 Q x=>?_))));have V:=Q.bV K D;refine bL (x.hd.rP rfl (V.rI rfl (V.rI rfl (x.xI _ _ λv9 t9 e9 L=>?_))));have sub:∀b,(Cut (Grow F U) v b\/v.size<b)->Grow F U b:=λb hb=>by
   rcases hb with hb|hb
   ·exact hb.1
   ·exact .inr (by have:=e.1;omega)
  have ee:Ext F U v9:=((((e.trans (aG.to u)).jH (Z.sub λb hb=>hb.1))).jH (Q.sub sub)).jH (e9.sub sub);refine cT (m:=i+1) O O ⟨⟨i+1,rfl,O,ee,?_⟩,O⟩;rw[M,Sj];exact L.mono λb _ hb=>sub b hb
 ·have:i=rs.length:=by omega
  subst this;rw[lW]at C;exact hR v e C
end Go.Ar
namespace Go.Proofs
open Go.Vc
set_option maxRecDepth 100000
def XY.h:Hn:=.q .o1 (.q (.q .o3 .aK) (.q .o1 (.q (.q .o5 (.k (.loop [(3,.I)] (.q (.cU (.seq [.it .i64 .p,.op])) (.q (.c .l .l) (.k (.q (.cU (.seq [.it .i64 .p,.op,.op,.op,.op])) (.oq 17)))))))) .aL)))
def XY.v (a:R2)(b:Hp)(c:aN):Prop:=Xu.c a b λd e=>If (!d) (c 0 e) (bJ a 2 e λg=>pL .i64 .p g e λh i=>Yb [bO] (λj=>j 0 i) λk (l:Int) m=>pJ .i64 .p h m (c l m) (λn o p=>pY .i64 .p h p λq r=>bF a 0 p λt=>Ix t.a t.len q 3 λu=>aQ u 0 p λv=>bF r 0 p λx=>bM (v*((x.len:Nat):Int)) λy=>bM (l+y) λz=>k z p))
theorem XY.o {a b c}(d:XY.v a b c):XY.c a b c:=Wa Tryz.func90 (x:=XY.h) (R0 d)
def Xu.h:Hn:=.q .o1 (.q (.cU (.seq [.op,.op,.op,.cW true 5 (RI.ops 5),.op])) .l)
def Xu.v (a:R2)(b:Hp)(c:aO):Prop:=bX (λd e=>c d e) λf=>If (!a.isNone) (bJ a 2 b λh=>f (!h.isNone) b) (f false b)
theorem Xu.o {a b c}(d:Xu.v a b c):Xu.c a b c:=Wa Tryz.func132 (x:=Xu.h) (R0 d)
def Kw.h:Hn:=.q .o2 (.q (.k (.q .o4 (.c .aL (.q (.cU (.seq [.op,.op,.op,.cW false 2 [.op,.op],.op])) .aJ)))) (.q .o8 .l))
def Kw.v (a:Sl)(b:Int)(c:Hp)(d:Option Addr->Int->Hp->Prop):Prop:=ZU.c a c λe f=>If (!e) (d none 2 f) (bX (λg h=>If g (d none 1 h) (Wn.c a h λi j=>Nw (.map #[] 0) j λk l=>aV #[.slice i.a i.len i.cap,.I b,.map (some k.block)] 188 l λm n=>d (some m) 0 n)) λo=>If (b<0) (o true f) (o (decide (b>65536)) f))
theorem Kw.o {a b c d}(e:Kw.v a b c d):Kw.c a b c d:=Wa Tryz.func155 (x:=Kw.h) (R0 e)
def Yr.h:Hn:=.q .o2 (.q .o8 (.q (.q .o2 (.c (.q .o3 .l) .l)) (.q (.q .o6 (.c (.q (.q .o9 (.q .o6 (.c .o8 (.o 11)))) .aL) .l)) (.q .o7 (.q .o8 (.q .gC (.q .gC (.q .o3 .l))))))))
def Yr.v (a:R2)(b:Int)(c:Hp)(d:Int->Int->Hp->Prop):Prop:=XD.c a b c λe f g=>If (f != 0) (d 0 f g) (bF e 0 g λi=>If (((i.len:Nat):Int)==0) (bF a 0 g λk=>Ix k.a k.len b 3 λl=>aQ l 2 g λm=>bE e 1 g λo=>If (o<m) (bE e 1 g λq=>bM (q+1) λr=>bW e λs=>aR s 1 (.I r) g λt=>d 0 4 t) (bE e 1 g λv=>bM (v+m) λw=>bW e λx=>aR x 1 (.I (if 128<w then 128 else w)) g λy=>d 0 4 y)) (bF e 0 g λaa=>bM (((aa.len:Nat):Int)-1) λab=>bF e 0 g λad=>Ix ad.a ad.len ab 1 λae=>bN ae g λaf=>bF e 0 g λah=>fA ah 1 0 ab (ah.cap:Nat) λai=>bW e λaj=>aR aj 0 (.slice ai.a ai.len ai.cap) g λak=>bE e 2 ak λam=>bW e λan=>aR an 2 (.I (if ab<am then ab else am)) ak λao=>d af 0 ao))
theorem Yr.o {a b c d}(e:Yr.v a b c d):Yr.c a b c d:=Wa Tryz.func166 (x:=Yr.h) (R0 e)
def Yt.h:Hn:=.q .o2 (.q .o8 (.q (.q .o2 (.c (.q .o3 .l) .l)) (.q (.oq 15) .l)))
def Yt.v (a:R2)(b:Int)(c:Hp)(d:Int->Int->Hp->Prop):Prop:=XD.c a b c λe f g=>If (f != 0) (d 0 f g) (bE e 1 g λi=>bF a 0 g λk=>Ix k.a k.len b 3 λl=>aQ l 2 g λm=>d (if m<i then m else i) 0 g)
theorem Yt.o {a b c d}(e:Yt.v a b c d):Yt.c a b c d:=Wa Tryz.func168 (x:=Yt.h) (R0 e)
def Yk.h:Hn:=.q .o1 (.q .o8 (.q (.q .o2 .aJ) (.q .o3 (.q .o2 (.q .o4 .l)))))
def Yk.v (a:R2)(b:Int)(c:Sl)(d:Hp)(e:aN):Prop:=XD.c a b d λf g h=>If (g != 0) (e g h) (W3.c c h λi j=>Xj.c i j λk=>Xh.c f i k λl m=>e l m)
theorem Yk.o {a b c d e}(f:Yk.v a b c d e):Yk.c a b c d e:=Wa Tryz.func173 (x:=Yk.h) (R0 f)
def YR.h:Hn:=.q .o2 (.q .o8 (.q (.q .o2 (.c (.q .o3 .l) .l)) (.q (.q .o5 (.q .o2 (.c (.q .o3 .l) .l))) (.q (.q (.oq 10) .aJ) (.q .o9 (.kK [] (.q .o6 (.c .o8 .l)) (.q (.o 11) .l)))))))
def YR.v (a:R2)(b c:Int)(d:Hp)(e:Sl->Int->Hp->Prop):Prop:=XD.c a b d λf g h=>If (g != 0) (e ⟨none,0,0⟩ g h) (aV #[.I c] 3 h λi j=>Xh.c f ⟨some i,1,1⟩ j λk l=>If (k != 0) (e ⟨none,0,0⟩ k l) (bF f 0 l λn=>bE f 1 l λp=>If (((n.len:Nat):Int)<=p) (e ⟨none,0,0⟩ 0 l) (bF a 0 l λr=>Ix r.a r.len b 3 λs=>aQ s 2 l λt=>Jn [] (λu=>bF f 0 u λw=>Xr.c f (if((w.len:Nat):Int)<t then((w.len:Nat):Int)else t) u λx y=>e x 0 y) λz=>bE f 1 l λab=>If (ab<t) (bE f 1 l λad=>bM (ad+1) λae=>bW f λaf=>aR af 1 (.I ae) l λag=>z ag) (z l))))
theorem YR.o {a b c d e}(f:YR.v a b c d e):YR.c a b c d e:=Wa Tryz.func176 (x:=YR.h) (R0 f)
def Ys.h:Hn:=.q .o1 (.q (.cU (.gI false [] [(2,.one .b)] (.take 0 (.all [(1,.take 2 (.split 5 (.tk [3,5,6,7] (.all [(4,.all [(8,.tk [9,10,11] (.done))]),(8,.all [(4,.tk [9,10,11] (.done))])])) (.tk [3,4,5,6,7,8,9,10,11] (.done))))])))) .l)
def Ys.v (a:R2)(b:Hp)(c:aO):Prop:=Jn [.b] (λ(d:Bool) e=>c d e) λf=>Xu.c a b λg h=>If g (bW a λi=>(XY.c a h λj k=>aQ i 1 k λl=>f (decide (j>l)) k) ∧ (aQ i 1 h λm=>XY.c a h λn o=>f (decide (n>m)) o)) (f false h)
theorem Ys.o {a b c}(d:Ys.v a b c):Ys.c a b c:=Wa Tryz.func177 (x:=Ys.h) (R0 d)
def Xn.h:Hn:=.q .o1 (.q .o3 .l)
def Xn.v (a:R2)(b:Hp)(c:Sl->Hp->Prop):Prop:=XB.c a ⟨241,#[],#[]⟩ b λd e=>c d e
theorem Xn.o {a b c}(d:Xn.v a b c):Xn.c a b c:=Wa Tryz.func178 (x:=Xn.h) (R0 d)
def XX.h:Hn:=.q .o1 (.q .o3 .l)
def XX.v (a:R2)(b:Hp)(c:Sl->Hp->Prop):Prop:=XB.c a ⟨243,#[],#[]⟩ b λd e=>c d e
theorem XX.o {a b c}(d:XX.v a b c):XX.c a b c:=Wa Tryz.func183 (x:=XX.h) (R0 d)
def XD.h:Hn:=.q .o2 (.q (.q .o3 .aJ) (.q .o4 (.q (.q .o2 .aJ) (.q .o3 .l))))
def XD.v (a:R2)(b:Int)(c:Hp)(d:Option Addr->Int->Hp->Prop):Prop:=Xu.c a c λe f=>If (!e) (d none 5 f) (ZJ.c a b f λg h=>If g.isNone (d none 1 h) (d g 0 h))
theorem XD.o {a b c d}(e:XD.v a b c d):XD.c a b c d:=Wa Tryz.func229 (x:=XD.h) (R0 e)
def Xh.h:Hn:=.q .o1 (.q (.q .o9 .aK) (.q (.o 11) .aM))
def Xh.v (a:R2)(b:Sl)(c:Hp)(d:aN):Prop:=bF a 0 c λf=>bM (((f.len:Nat):Int)+((b.len:Nat):Int)) λg=>If (g>256) (d 6 c) (bF a 0 c λi=>Xx.c i c λj k=>App j 1 8 3 [.I 0] b k λl m=>bW a λn=>aR n 0 (.slice l.a l.len l.cap) m λo=>d 0 o)
theorem Xh.o {a b c d}(e:Xh.v a b c d):Xh.c a b c d:=Wa Tryz.func237 (x:=Xh.h) (R0 e)
def Xr.h:Hn:=.q .o1 (.q .o8 (.q (.o 11) (.q (.cU (.tail 13 (RI.ops 13) [.op])) .aL)))
def Xr.v (a:R2)(b:Int)(c:Hp)(d:Sl->Hp->Prop):Prop:=bF a 0 c λf=>fA f 1 0 b (f.cap:Nat) λg=>W3.c g c λh i=>bF a 0 i λk=>fA k 1 b (k.len:Nat) (k.cap:Nat) λl=>W3.c l i λm n=>bW a λo=>aR o 0 (.slice m.a m.len m.cap) n λp=>bE a 2 p λr=>bF a 0 p λt=>bW a λu=>aR u 2 (.I (if((t.len:Nat):Int)<r then((t.len:Nat):Int)else r)) p λv=>d h v
theorem Xr.o {a b c d}(e:Xr.v a b c d):Xr.c a b c d:=Wa Tryz.func239 (x:=Xr.h) (R0 e)
def XB.h:Hn:=.q .o1 (.q (.q .o3 .aK) (.q .o1 (.q (.q .o5 (.k (.loop [(5,.one .s)] (.q (.cU (.seq [.it .i64 .p,.op])) (.q (.c .l .l) (.k (.q (.cU (.seq [.it .i64 .p,.op,.op,.op,.op])) (.q (.o 12) (.q .o3 (.c .o7 .l)))))))))) (.q .o2 .aL))))
def XB.v (a:R2)(b:Fv)(c:Hp)(d:Sl->Hp->Prop):Prop:=Xu.c a c λe f=>If (!e) (d ⟨none,0,0⟩ f) (bJ a 2 f λh=>pL .i64 .p h f λi j=>Yb [.s] (λk=>k ⟨none,0,0⟩ j) λl (m:Sl) n=>pJ .i64 .p i n (Qo.c m ⟨298,#[],#[]⟩ n λo=>d m o) (λp q r=>pY .i64 .p i r λs t=>bF a 0 r λv=>Ix v.a v.len s 3 λw=>aQ w 2 r λx=>VO Tryz.prog b [.pointer t,.I x] [.one .s] r λy z=>If (((y.len:Nat):Int)>0) (aV #[.I s,.slice y.a y.len y.cap] 147 z λaa ab=>App m 2 32 147 [.I 0,.slice none 0 0] ⟨some aa,1,1⟩ ab λac ad=>l ac ad) (l m z)))
theorem XB.o {a b c d}(e:XB.v a b c d):XB.c a b c d:=Wa Tryz.func240 (x:=XB.h) (R0 e)
def XL.h:Hn:=.q .o1 (.q .o9 (.kK [] (.q .o6 (.c (.o 12) .l)) (.q .o9 .aL)))
def XL.v (a:R2)(b:Int)(c:Hp)(d:Sl->Hp->Prop):Prop:=bE a 2 c λf=>bM (f+1) λg=>Nz 2<|bM (g.tdiv 2) λh=>Xr.c a h c λi j=>Jn [] (λk=>bF a 0 k λm=>bW a λn=>aR n 2 (.I ((m.len:Nat):Int)) k λo=>d i o) λp=>bE a 1 j λr=>If (r>b) (bE a 1 j λt=>bM (t-b) λu=>bW a λv=>aR v 1 (.I (if b>u then b else u)) j λw=>p w) (p j)
theorem XL.o {a b c d}(e:XL.v a b c d):XL.c a b c d:=Wa Tryz.func241 (x:=XL.h) (R0 e)
def YL.h:Hn:=.q .o1 (.q .o8 .l)
def YL.v (a:R2)(b:Int)(c:Hp)(d:Sl->Hp->Prop):Prop:=bF a 0 c λf=>Xr.c a ((f.len:Nat):Int) c λg h=>d g h
theorem YL.o {a b c d}(e:YL.v a b c d):YL.c a b c d:=Wa Tryz.func243 (x:=YL.h) (R0 e)
def ZJ.h:Hn:=.q .o1 (.q (.q (.cU (.seq [.op,.op,.op,.op,.cW false 2 [.op,.op],.op,.cW false 7 (RI.ops 7)])) .aK) (.kK [] (.q .o7 (.c .o8 .l)) (.q .o7 .l)))
def ZJ.v (a:R2)(b:Int)(c:Hp)(d:Option Addr->Hp->Prop):Prop:=Xu.c a c λe f=>bX (λg h=>bX (λi j=>If i (d none j) (Jn [] (λk=>bJ a 2 k λm=>Lk .i64 .p m b k λn=>d (n.getD none) k) λo=>bW a λp=>bC p 2 j λq=>Lk .i64 .p q b j λr=>If ((r.getD none).isNone) (bJ a 2 j λt=>aV #[.slice none 0 0,.I 1,.I 0] 191 j λu v=>kQ .i64 .p t b (some u) v λw=>o w) (o j))) λx=>If g (x true h) (bF a 0 h λz=>x (decide (b≥((z.len:Nat):Int))) h)) λaa=>If (!e) (aa true f) (aa (decide (b<0)) f)
theorem ZJ.o {a b c d}(e:ZJ.v a b c d):ZJ.c a b c d:=Wa Tryz.func281 (x:=ZJ.h) (R0 e)
end Go.Proofs
namespace Go.Ar
open Go Go.Vc Go.Proofs
theorem cV.sub {U:Hp}{F:Rg}{s:Sl}{sz:Nat}{xs:List Value}(h:cV s sz xs U F){lo hi mx:Nat}(h1:lo<=hi)(h2:hi<=s.len)(h3:hi<=mx) :
 cV ⟨if mx=lo then s.a else s.a.map (·.add (lo*sz)),hi-lo,mx-lo⟩ sz ((xs.drop (lo*sz)).take ((hi-lo)*sz)) U F:=by
 have g:=h.1;have e1:hi*sz<=s.len*sz:=mu _ h2;have e2:(hi-lo)*sz=hi*sz-lo*sz:=Nat.sub_mul _ _ _;have i:lo*sz<=hi*sz:=mu _ h1;refine⟨by rw[zY,ky];simp only;omega,?_⟩;by_cases hm:mx=lo
 ·left;have:hi-lo=0:=by omega
  rw[this,uW,vt]
 ·rcases h.2 with h0|⟨b,o,cs,hb,ha,hq,hc⟩
  ·left;subst h0;simp
  ·refine .inr ⟨b,o+lo*sz,cs,hb,?_,hq,λj d=>?_⟩
   ·simp only[zB hm,ha,ze,add_lit]
   ·rw[zY,ky]at d;rw[xw,hc _ O,zl,lG,zC O]
inductive uF where
 | hd|dF|mp
 | li (k:Nat)
 deriving DecidableEq
structure ib where
 p:Nat
 m:Nat
 dF:Sl
 ps:List (Nat×Nat)
def iX (ps:List (Nat×Nat))(k:Nat):Option Nat:=(ps.find? λx=>x.1==k).map (·.2)
def kc (ps:List (Nat×Nat)):List (Int×Option Addr):=ps.map λx=>((x.1:Int),some ⟨x.2,0,none⟩)
def nb (s:Sl)(l:Li):List Value:=[.slice s.a s.len s.cap,.int .i64 (l.lim:Int),.int .i64 (l.low:Int)]
def jg (b:Nat)(l:Li):Hp->Rg->Prop:=λU F=>F b/\fQ l/\∃s:Sl,bZ U b (nb s l)/\cV s 1 (Wu l.os) U (λq=>F q/\q≠b)/\s.len<=s.cap
def oS (b:Option Nat)(l:Option Li):Hp->Rg->Prop:=λU F=>match b,l with
 | some b,some l=>jg b l U F
 | none,some l=>l=iq
 | _,none=>True
def B4 (Y:ib)(bud:Nat):List Value:=[.slice Y.dF.a Y.dF.len Y.dF.cap,.int .i64 (bud:Int),.map (some Y.m)]
def CC (tb:List cA)(bud:Nat)(ls:List Li)(Y:ib):uF->Hp->Rg->Prop
 | .hd=>iD Y.p (B4 Y bud)
 | .dF=>cV Y.dF 3 (gJ tb)
 | .mp=>jL Y.m .i64 .p (kc Y.ps)
 | .li k=>oS (iX Y.ps k) ls[k]?
theorem jg.loc (b:Nat)(l:Li):dN (jg b l):=by
 rintro U y F G ⟨r,p,s,j,u,m⟩ x a;have i:=a b j.lt r;obtain⟨e,w⟩:=j;exact⟨i.1,p,s,⟨e,i.2.trans w⟩,cV.loc _ _ _ _ _ _ _ u x λq g d=>⟨⟨(a q g d.1).1,d.2⟩,(a q g d.1).2⟩,m⟩
theorem oS.loc (b:Option Nat)(l:Option Li):dN (oS b l):=by
 intro U σ' F G h hz hs;unfold oS at *;split at h
 ·exact jg.loc _ _ _ _ _ _ h hz hs
 ·exact h
 ·trivial
theorem CC.loc {tb:List cA}{bud:Nat}{ls:List Li}{Y:ib}:∀i,dN (CC tb bud ls Y i)
 | .hd=>iD.loc _ _
 | .dF=>cV.loc _ _ _
 | .mp=>jL.loc _ _ _ _
 | .li k=>oS.loc _ _
structure eJ (U:Hp) (F:Rg) (Y:ib) (tb:List cA) (bud:Nat) (ls:List Li):Prop where
 nW:tb.length<=40
 ok:∀c∈tb,c.ok
 len:ls.length=tb.length
 keys:∀x∈Y.ps,x.1<tb.length
 sep:Sep (CC tb bud ls Y) U F
variable {U:Hp}{F G:Rg}{Y:ib}{tb:List cA}{bud:Nat}{ls:List Li}{b k:Nat}{l:Li}
theorem eJ.loc:dN λU F=>eJ U F Y tb bud ls:=λU d F G h a b=>⟨h.nW,h.ok,h.len,h.keys,Sep.loc CC.loc _ _ _ _ h.sep a b⟩
theorem eJ.bP {σ':Hp}(h:eJ U F Y tb bud ls)(e:aG U σ'):eJ σ' F Y tb bud ls:=dN.bP eJ.loc h e
theorem eJ.hd (h:eJ U F Y tb bud ls):bZ U Y.p (B4 Y bud):=by
 obtain⟨G,b,a⟩:=h.sep.get .hd;exact a.2
theorem eJ.jP (h:eJ U F Y tb bud ls):cV Y.dF 3 (gJ tb) U F:=by
 obtain⟨G,d,a⟩:=h.sep.get .dF;exact aH.mono a λb _ a=>d b a
theorem eJ.pH (h:eJ U F Y tb bud ls):Y.dF.len=tb.length:=by
 have:=h.jP.1;rw[Uq]at this;omega
theorem eJ.map (h:eJ U F Y tb bud ls):dK U Y.m .i64 .p (kc Y.ps):=by
 obtain⟨G,b,a⟩:=h.sep.get .mp;exact a.2
theorem BD (ps:List (Nat×Nat))(k:Nat):bU (α:=Option Addr) (kc ps) (k:Int)=(iX ps k).map λb=>some ⟨b,0,none⟩:=by
 induction ps with
 | nil=>rfl
 | cons x l ih=>
  simp only[bU,kc,iX,zR,vS]at *;have e:(((x.1:Nat):Int)==(k:Int))=(x.1==k):=mi _ _;rw[e];cases x.1==k
  ·exact ih
  ·rfl
theorem Ek {ps:List (Nat×Nat)}(h:iX ps k=none):∀x∈ps,x.1≠k:=by
 unfold iX at h;simp only[tx,og,zT]at h;exact h
theorem Wmr {ps:List (Nat×Nat)}(h:iX ps k=none)(b:Nat):dA (α:=Option Addr) (kc ps) (k:Int) (some ⟨b,0,none⟩)=kc (ps++[(k,b)]):=by
 unfold dA;rw[zB]
 ·simp[kc]
 ·simp only[kc,List.any_map,zy,Function.comp,zT,not_exists,not_and];intro x hx e;exact Ek h x hx O
theorem U3 {ps:List (Nat×Nat)}(h:iX ps k=none)(b j:Nat):iX (ps++[(k,b)]) j=if j=k then some b else iX ps j:=by
 have a:=Ek h;unfold iX at *;rw[List.find?_append];by_cases hj:j=k
 ·subst hj;have:ps.find? (λx=>x.1==j)=none:=by simpa using h
  rw[this];simp
 ·rw[zB hj];cases hf:ps.find? (λx=>x.1==j)with
  | none=>
   have:(k==j)=false:=by simpa using λe=>hj e.symm
   simp[this]
  | some x=>simp
theorem E9 {ps:List (Nat×Nat)}(hn:((kc ps).map (·.1)).Nodup)(h:(k,b)∈ps):iX ps k=some b:=by
 induction ps with
 | nil=>simp at h
 | cons x l ih=>
  simp only[kc,zR,zr]at hn;unfold iX;rw[vS];rcases zW.1 h with rfl|h
  ·simp
  ·have:(x.1==k)=false:=by
    have:x.1≠k:=λe=>hn.1 (zE.2 ⟨(((k:Nat):Int),some ⟨b,0,none⟩),zE.2 ⟨(k,b),h,rfl⟩,by rw[e]⟩);simpa using this
   rw[this];exact ih hn.2 h
theorem HN (h:eJ U F Y tb bud ls){R:aO}(hR:R true U):Xu.c (aW Y.p) U R:=by
 refine Xu.o ?_;unfold Xu.v;exact bX.intro (cF rfl (bL (h.hd.rM rfl hR)))
theorem eJ.yk (h:eJ U F Y tb bud ls)(hb:iX Y.ps k=some b)(hl:ls[k]?=some l):∃G:Rg,(∀q,G q->F q)/\jg b l U G/\¬G Y.m ∧
 ∀(σ':Hp) (l':Li) (G':Rg),Ext G U σ'->(∀q,G' q->Grow G U q)->jg b l' σ' G'->Ext F U σ'/\eJ σ' (λq=>F q/\q<U.size/\¬G q\/G' q) Y tb bud (ls.set k l'):=by
 have i:=(cY.1 hl).1;obtain⟨G,r,hi,d,a⟩:=h.sep.j3 CC.loc (.li k);have hi:jg b l U G:=by
  simp only[CC,oS,hb,hl]at hi;exact hi
 have p:¬G Y.m:=by
  obtain⟨H,_,hd,g⟩:=d .mp (by intro e;cases e);exact hd _ g.1
 refine⟨G,r,hi,p,λσ' l' G' e s u=>⟨e.sub r,h.nW,h.ok,by rw[pn];exact h.len,h.keys,?_⟩⟩;refine a σ' (CC tb bud (ls.set k l') Y) G' (λj w=>?_) e s ?_ (CC.loc _)
 ·cases j<;>try rfl
  rename_i m;have p:m≠k:=λe=>w (by rw[e]);simp only[CC,zh (Ne.symm p)]
 ·simp only[CC,oS,hb,zO i];exact u
theorem eJ.mono (h:eJ U F Y tb bud ls)(hs:∀q,q<U.size->F q->G q):eJ U G Y tb bud ls:=dN.mono eJ.loc h hs
theorem eJ.cut (h:eJ U F Y tb bud ls):eJ U (Cut F U) Y tb bud ls:=dN.cut eJ.loc h
theorem eJ.fD {v:Hp}(h:eJ v (Grow F U) Y tb bud ls)(e0:Ext F U v)(hb:iX Y.ps k=some b)(hl:ls[k]?=some l):∃G:Rg,jg b l v G ∧
 ∀(σ':Hp) (l':Li) (G':Rg),Ext G v σ'->(∀q,G' q->Grow G v q)->jg b l' σ' G'->Ext F U σ'/\eJ σ' (Grow F U) Y tb bud (ls.set k l'):=by
 obtain⟨G,j,p,_,a⟩:=h.yk hb hl;refine⟨G,p,λσ' l' G' e i g=>?_⟩;obtain⟨e1,m⟩:=a σ' l' G' e i g;refine⟨e0.jH e1,m.mono λq _ d=>?_⟩;have:=e0.1;rcases d with d|d
 ·exact d.1
 ·rcases i q d with h2|h2
  ·exact j q h2
  ·exact .inr O
theorem Ry (h:eJ U F Y tb bud ls)(hk:k<tb.length){R:Option Addr->Hp->Prop}(hR:∀σ' Y' b,Ext F U σ'->Y'.p=Y.p->iX Y'.ps k=some b->eJ σ' (Grow F U) Y' tb bud ls->R (some ⟨b,0,none⟩) σ') :
 ZJ.c (aW Y.p) (k:Int) U R:=by
 refine ZJ.o ?_;unfold ZJ.v;have A:k<ls.length:=by rw[h.len];exact hk
 have D:ls[k]?=some ls[k]:=cX A;generalize ls[k]=l at D;have M:=h.pH;refine HN h (bX.intro (cD rfl ?_));refine bX.intro (gg O (bL (h.hd.rS rfl ?_)));refine gg aC ?_;refine Jn.intro (bL (h.hd.rM rfl ⟨_,h.map,?_⟩));rw[BD];cases hf:iX Y.ps k with
 | some b=>
  refine cD rfl (bL (h.hd.rM rfl ⟨_,h.map,?_⟩));rw[BD,hf];exact hR U Y b (Ext.refl _ _) rfl hf (h.mono λq _ a=>.inl a)
 | none=>
  refine cF rfl (bL (h.hd.rM rfl (nw (cs:=[.slice none 0 0,.int .i64 1,.int .i64 0]) λv P e E=>?_)));obtain⟨G,H,r,Q,hd,hi,u,i⟩:=h.cut.sep.oW CC.loc .mp (.li k) (by intro e;cases e);have K:∀q,G q->F q:=λq a=>(r q a).1;have hi:jL Y.m .i64 .p (kc Y.ps) U G:=hi;have u:l=iq:=by
   simp only[CC,oS,hf,D]at u;exact u
  have L:=hi.2.lt;have C:dK v Y.m .i64 .p (kc Y.ps):=e.fX hi.2 id;refine⟨Y.m,_,rfl,C,λv2 w s=>?_⟩;rw[Wmr hf]at s;have e2:Ext F U v2:=(aG.to e).only w (.inl (K _ hi.1));have B:Ext (λq=>G q\/H q) U v2:=(aG.to e).only w (.inl (.inl hi.1));have z:bZ v2 U.size [.slice none 0 0,.int .i64 1,.int .i64 0]:=WE w E O;have d:eJ v2 (Grow F U) {Y with ps:=Y.ps++[(k,U.size)]} tb bud ls:=by
   refine⟨h.nW,h.ok,h.len,λx g=>?_,?_⟩
   ·rcases zM.1 g with g|g
    ·exact h.keys x g
    ·simp only[zN]at g;subst g;exact hk
   refine(Sep.loc CC.loc).mono (i v2 (CC tb bud ls {Y with ps:=Y.ps++[(k,U.size)]}) G (· = U.size) (λj y J=>?_) B (λq a=>.inl (.inl a)) (λq a=>.inr O) (λq y J=>?_) ⟨hi.1,s⟩ ?_ CC.loc) λq _ a=>?_
   ·cases j<;>first|rfl|exact absurd rfl y|skip
    rename_i m;have N:m≠k:=λe=>J (by rw[e]);simp only[CC,U3 hf,zB N]
   ·have:=(r q y).2;omega
   ·simp only[CC,U3 hf,zU,D,u,oS];exact⟨rfl,fQ.nil,⟨none,0,0⟩,z,cV.nil _ _ _ _,zD _⟩
   ·rcases a with a|a|a
    ·exact .inl a.1.1
    ·exact .inl (K q a)
    ·exact .inr O
  refine bL (d.hd.rM rfl ⟨_,d.map,?_⟩);rw[BD,U3 hf,zC rfl];exact hR v2 {Y with ps:=Y.ps++[(k,U.size)]} U.size e2 rfl (by show iX (Y.ps++[(k,U.size)]) k=_;rw[U3 hf,zC rfl]) d
theorem y6 (h:eJ U F Y tb bud ls)(hk:k<tb.length){R:Option Addr->Int->Hp->Prop}(hR:∀σ' Y' b,Ext F U σ'->Y'.p=Y.p->iX Y'.ps k=some b->eJ σ' (Grow F U) Y' tb bud ls->R (some ⟨b,0,none⟩) 0 σ') :
 XD.c (aW Y.p) (k:Int) U R:=by
 refine XD.o ?_;unfold XD.v;exact HN h (cD rfl (Ry h hk λσ' Y' b e a d g=>cD rfl (hR σ' Y' b e a d g)))
theorem bS.nG {s:Sl}{sz:Nat}{xs:List Value}(h:bS s sz xs U F):s.len<=s.cap:=by
 rcases h.2 with⟨q1,q2⟩|⟨_,_,_,_,_,q,_⟩
 ·omega
 ·exact q
theorem GB (h:jg b l U G){m:Nat}(hm:m<=l.os.length){R:Sl->Hp->Prop}
 (hR:∀s z σ',Ext (· = b) U σ'->U.size<=z->bS s 1 (Wu (l.os.take m)) σ' (λq=>U.size<=q/\q<z)->jg b (gM m l).2 σ' (λq=>q=b\/z<=q)->R s σ') :
 Xr.c (aW b) (m:Int) U R:=by
 refine Xr.o ?_;unfold Xr.v;obtain⟨X,g,s,J,H,Y⟩:=h;have N:s.len=l.os.length:=by have:=H.1;simp[Wu]at this;omega
 have E:=g.many;have M:=g.low;have j:=cV.sub H (lo:=0) (hi:=m) (mx:=s.cap) O O O;have e1:((Wu l.os).drop (0*1)).take ((m-0)*1)=Wu (l.os.take m):=by simp[Wu]
 rw[e1]at j;refine bL (J.rS rfl (jl (lo:=0) O aC aC (HJ j Uc aC λs1 L V y A=>?_)));have x:=y.bV J id;have B:=aH.bP H y;have w:=cV.sub B (lo:=m) (hi:=s.len) (mx:=s.cap) O O O;have e2:((Wu l.os).drop (m*1)).take ((s.len-m)*1)=Wu (l.os.drop m):=by
  rw[lh (by simp[Wu];omega)];simp[Wu]
 rw[e2]at w;refine bL (x.rS rfl (jl aC aC aC (HJ w Uc aC λs2 S D C r=>?_)));have F:=C.bV x id;refine bL (F.s1 (by simp[nb]) λv3 o3 d=>bL (d.rI rfl (bL (d.rS rfl (bL (d.s1 (by simp[nb]) λv4 o4 i=>?_))))));have a:Ext (· = b) S v4:=o3.ext.trans o4.ext;have W:=J.lt;have K:=y.1;have u:s2.len=l.os.length-m:=by rw[D];simp only;omega
 refine hR s1 L.size v4 ((aG.to (y.trans C)).trans a) K ?_ ⟨.inl rfl,AP g,s2,?_,?_,bS.nG r⟩
 ·refine aI.bT (aI.bP (aI.mono A (G:=λq=>U.size<=q/\q<L.size) λq p P=>⟨P,p⟩) C) a λq _ p Q=>by omega
 ·have:(if((s2.len:Nat):Int)<(l.low:Int)then((s2.len:Nat):Int)else(l.low:Int))=((min l.low (l.os.length-m):Nat):Int):=by rw[u];split<;>omega
  rw[this]at i;exact i
 ·refine aH.mono (aH.bT r.fW a λq _ p Q=>O) λq _ p=>⟨.inr p,O⟩
theorem Ru (h:jg b l U G){sl:Sl}{xs:List Int}{X:Rg}(hs:cV sl 1 (Wu xs) U X)(hx:xs≠[])(hfit:l.os.length+xs.length<=256){R:aN}
 (hR:∀σ',Ext (· = b) U σ'->jg b (eL xs l) σ' (λq=>q=b\/U.size<=q)->R 0 σ'):Xh.c (aW b) sl U R:=by
 refine Xh.o ?_;unfold Xh.v;obtain⟨J,r,s,g,d,K⟩:=h;have A:s.len=l.os.length:=by have:=d.1;simp[Wu]at this;omega
 have F:sl.len=xs.length:=by have:=hs.1;simp[Wu]at this;omega
 have x:=py.2 hx;have y:eL xs l = {l with os:=l.os++xs}:=by unfold eL;rw[zB O]
 refine bL (g.rS rfl (cT (m:=l.os.length+xs.length) aC O (gg O (bL (g.rS rfl ?_)))));refine Xx.o ?_;unfold Xx.v;refine jl (lo:=0) aC aC aC ?_;have E:=g.lt;refine⟨Wu l.os,Wu xs,by simp[Wu];omega,by simp[Wu];omega,?_,hs.rd,Uc,?_,by simp only;omega,λi=>by simp only at i;omega,λz c p=>?_⟩
 ·by_cases h0:s.len=0
  ·have:l.os=[]:=Dz.1 O;rw[this];simp only[h0,zU];cases s.a<;>simp[Rd,Wu]
  ·simp only[zB h0,uW];have:=d.rd;cases ha:s.a with
   | none=>rw[ha]at this;simpa[Rd]using this
   | some a=>rw[ha]at this;simpa[Rd,Addr.add_zero']using this
 ·simp only;have:(s.len-0+sl.len)*8<=256*8:=mo O O;omega
 ·refine nw λv H e w=>bL ((e.bV g id).s1 (by simp[nb]) λB o2 u=>?_);have D:l.os.length+xs.length<=c:=by simp only at p;omega
  refine hR B ((aG.to e).trans o2.ext) ?_;rw[y];have:=yN (xs:=xs) r;rw[y]at this;refine⟨.inl rfl,this,⟨some ⟨U.size,0,none⟩,s.len-0+sl.len,c⟩,u,⟨by simp[Wu];omega,.inr ⟨U.size,0,_,⟨.inr (zD _),O⟩,rfl,(WE o2 w O).q,λj C=>?_⟩⟩,by simp only;omega⟩;simp only[Wu,zj,zK]at C;rw[zH,zk,←zk,zd (by simp[Wu];omega)];simp[Wu]
theorem Wla (h:jg b l U G){sl:Sl}{xs:List Int}{X:Rg}(hs:cV sl 1 (Wu xs) U X)(hfit:¬l.os.length+xs.length<=256)(hxs:xs.length<=1000000){R:aN}
 (hR:R 6 U):Xh.c (aW b) sl U R:=by
 refine Xh.o ?_;unfold Xh.v;obtain⟨p,a,s,i,d,r⟩:=h;have g:s.len=l.os.length:=by have:=d.1;simp[Wu]at this;omega
 have j:sl.len=xs.length:=by have:=hs.1;simp[Wu]at this;omega
 have:=a.many;exact bL (i.rS rfl (cT (m:=l.os.length+xs.length) aC O (lR O hR)))
end Go.Ar
namespace Go.Ar
open Go Go.Vc Go.Proofs
variable {U:Hp}{F G:Rg}{Y:ib}{tb:List cA}{bud:Nat}{ls:List Li}{b k:Nat}{l:Li}{c:cA}
theorem eJ.cls (h:eJ U F Y tb bud ls)(hc:tb[k]?=some c):c.ok/\k<tb.length:=⟨h.ok c (zG hc),(cY.1 hc).1⟩
theorem jg.st {v:Hp}(h:jg b l U G){s:Sl}{l':Li}(ho:Ext (· = b) U v)(hb:bZ v b (nb s l'))(hs:cV s 1 (Wu l'.os) U (λq=>G q/\q≠b))(hc:s.len<=s.cap)(ok:fQ l'):jg b l' v G:=
 ⟨h.1,ok,s,hb,aH.bT hs ho λq _ a d=>a.2 d,hc⟩
theorem lr (h:eJ U F Y tb bud ls)(hc:tb[k]?=some c)(hl:ls[k]?=some l){R:Int->Int->Hp->Prop}
 (hR:∀σ' Y',Ext F U σ'->Y'.p=Y.p->eJ σ' (Grow F U) Y' tb bud (ls.set k (KI c l).2)->R ((KI c l).1.getD 0) (if(KI c l).1.isSome then 0 else 4) σ'):Yr.c (aW Y.p) (k:Int) U R:=by
 obtain⟨w,hk⟩:=h.cls hc;refine Yr.o ?_;unfold Yr.v;refine y6 h hk λv Y' b e Z hb W=>cD rfl ?_;obtain⟨G,hL,D⟩:=W.fD e hb hl;have y:=hL;obtain⟨Q,i,s,g,L,u⟩:=hL;have J:=W.hd;rw[Z]at J;have N:s.len=l.os.length:=by have:=L.1;simp[Wu]at this;omega
 have o1:=i.low;have o2:=i.many;have o3:=i.lim;have o4:=i.nF;have a:=Fk w i;have fin:∀v' G',Ext G v v'->(∀q,G' q->Grow G v q)->jg b (KI c l).2 v' G'->R ((KI c l).1.getD 0) (if(KI c l).1.isSome then 0 else 4) v':=λv' G' V hg X=>by
  obtain⟨e2,h2⟩:=D v' _ G' V hg X;exact hR v' Y' e2 Z h2
 unfold cA.ok at w;have B:∀{v':Hp},Ext (· = b) v v'->Ext G v v':=λV=>V.sub λq z=>by rw[z];exact Q
 refine bL (g.rS rfl ?_);by_cases h0:l.os=[]
 ·have e1:(KI c l).1=none:=by unfold KI;rw[h0];rfl
  have e2:(KI c l).2=if l.lim<c.batch then{l with lim:=l.lim+1}else{l with lim:=min (l.lim+c.batch) 128}:=by unfold KI;rw[h0];rfl
  rw[e1,e2]at fin;rw[e2]at a;refine cF (by simp[N,h0]) (bL (J.rS rfl (ur W.jP hc (d:=2) O ?_)));simp only[zB (show ¬(2=0) by omega),zB (show ¬(2=1) by omega)];refine bL (g.rI rfl (cP (λc1=>?_) λc1=>?_))
  ·have A:l.lim<c.batch:=by omega
   rw[zC A]at fin a;refine bL (g.rI rfl (cT (m:=l.lim+1) O O (bL (g.s1 (by simp[nb]) λv' C j=>?_))));exact fin v' G (B C.ext) (λq z=>.inl z) (y.st C.ext j L u a)
  ·have A:¬l.lim<c.batch:=by omega
   rw[zB A]at fin a;refine bL (g.rI rfl (cT (m:=l.lim+c.batch) O O (bL (g.s1 (by simp[nb]) λv' C j=>?_))));refine fin v' G (B C.ext) (λq z=>.inl z) (y.st C.ext ?_ L u a);have:(if(128:Int)<((l.lim+c.batch:Nat):Int)then(128:Int)else((l.lim+c.batch:Nat):Int))=((min (l.lim+c.batch) 128:Nat):Int):=by split<;>omega
   rw[this]at j;exact j
 ·have hpos:=py.2 h0;obtain⟨x,hx⟩:∃x,l.os[l.os.length-1]?=some x:=⟨_,cX O⟩;have E:l.os.getLast?=some x:=by rw[List.getLast?_eq_getElem?];exact hx
  have e1:(KI c l).1=some x:=by unfold KI;rw[E]
  have e2:(KI c l).2 = {l with os:=l.os.dropLast,low:=min l.low (l.os.length-1)}:=by unfold KI;rw[E]
  rw[e1,e2]at fin;rw[e2]at a;refine cD (by simp only[mP];omega) ?_;refine bL (g.rS rfl (cT (m:=l.os.length-1) aC O (bL (g.rS rfl (L.lV hx (bL (g.rS rfl ?_)))))));have r:=cV.sub L (lo:=0) (hi:=l.os.length-1) (mx:=s.cap) O O O;have ed:((Wu l.os).drop (0*1)).take ((l.os.length-1-0)*1)=Wu l.os.dropLast:=by simp[Wu,AK]
  rw[ed]at r;refine jl (lo:=0) O aC aC (bL (g.s1 (by simp[nb]) λv1 P M=>bL (M.rI rfl (bL (M.s1 (by simp[nb]) λv2 S K=>?_)))));have H:=P.ext.trans S.ext;refine fin v2 G (B H) (λq z=>.inl z) (y.st H ?_ r aC a);have:(if((l.os.length-1:Nat):Int)<(l.low:Int)then((l.os.length-1:Nat):Int)else(l.low:Int))=((min l.low (l.os.length-1):Nat):Int):=by split<;>omega
  rw[this]at K;exact K
theorem RP (h:eJ U F Y tb bud ls)(hc:tb[k]?=some c)(hl:ls[k]?=some l){R:Int->Int->Hp->Prop}
 (hR:∀σ' Y',Ext F U σ'->Y'.p=Y.p->eJ σ' (Grow F U) Y' tb bud ls->R ((pf c l:Nat):Int) 0 σ'):Yt.c (aW Y.p) (k:Int) U R:=by
 obtain⟨u,y⟩:=h.cls hc;refine Yt.o ?_;unfold Yt.v;refine y6 h y λv Y' b e m z g=>cD rfl ?_;obtain⟨G,x,r⟩:=g.fD e z hl;obtain⟨A,w,s,i,B,j⟩:=x;have a:=g.hd;rw[m]at a;refine bL (i.rI rfl (bL (a.rS rfl (ur g.jP hc (d:=2) O ?_))));simp only[zB (show ¬(2=0) by omega),zB (show ¬(2=1) by omega)];have:(if(c.batch:Int)<(l.lim:Int)then(c.batch:Int)else(l.lim:Int))=((pf c l:Nat):Int):=by unfold pf;split<;>omega
 rw[this];exact hR v Y' e m g
theorem Tn (l:List Int)(i:Nat)(h:i<l.length):l.reverse[i]?=l[l.length-1-i]? := by
 rw[List.getElem?_reverse h]
theorem Nc {s:Sl}{xs:List Int}(h:bS s 1 (Wu xs) U F)(hlen:xs.length<=1000000){R:aP}(hR:∀σ',Ext F U σ'->bS s 1 (Wu xs.reverse) σ' F->R σ'):Xj.c s U R:=by
 refine Xj.o ?_;unfold Xj.v;have L:s.len=xs.length:=by have:=h.1;simp[Wu]at this;omega
 let jo (i:Nat):List Int:=(List.range xs.length).map λj=>if j<i\/xs.length-i<=j then xs.getD (xs.length-1-j) 0 else xs.getD j 0
 have lB:∀i,(jo i).length=xs.length:=λi=>by simp[jo]
 have bU:∀i j,j<xs.length->(jo i)[j]?=some (if j<i\/xs.length-i<=j then xs.getD (xs.length-1-j) 0 else xs.getD j 0):=λi j g=>by simp[jo,g]
 have S:jo 0=xs:=by
  apply zt;intro j;by_cases g:j<xs.length
  ·rw[bU 0 j g,zB O];simp[zQ,cX g]
  ·rw[zX (by rw[lB];omega),zX O]
 have y:∀i,xs.length<=2*i+1->i<=xs.length->jo i=xs.reverse:=by
  intro i J H;apply zt;intro j;by_cases g:j<xs.length
  ·rw[bU i j g,Tn xs j g,zQ,zQ,cX (show xs.length-1-j<xs.length by omega),cX g];split
   ·rfl
   ·have:xs.length-1-j=j:=by omega
    simp only[this];rfl
  ·rw[zX (by rw[lB];omega),zX aE]
 have step:∀i,2*i+1<xs.length->((jo i).set i (xs.getD (xs.length-1-i) 0)).set (xs.length-1-i) (xs.getD i 0)=jo (i+1):=by
  intro i hi;apply zt;intro j;by_cases g:j<xs.length
  ·rw[bU (i+1) j g,nJ,nJ];simp only[pn,lB];by_cases e1:xs.length-1-i=j
   ·subst e1;rw[zC rfl,zC O,zC O]
    congr 2;omega
   ·rw[zB e1];by_cases e2:i=j
    ·subst e2;rw[zC rfl,zC O,zC O]
    ·rw[zB e2,bU i j g];by_cases e3:j<i\/xs.length-i<=j
     ·rw[zC e3,zC O]
     ·rw[zB e3,zB O]
  ·rw[zX (by simp[lB];omega),zX (by rw[lB];omega)]
 refine vD ?_;rw[Uf O O];refine UD (a:=bO) (bb:=bO) (λ(i j:Int) v=>∃n:Nat,i=(n:Int)/\j=(xs.length:Int)-1-n/\n<=xs.length/\Ext F U v/\bS s 1 (Wu (jo n)) v F) (λi _ _=>xs.length-i.toNat) ⟨0,rfl,O,O,Ext.refl _ _,by rw[S];exact h⟩ ?_;rintro i j v ⟨n,rfl,rfl,W,ev,A⟩;refine cP (λQ=>?_) λM=>?_
 ·have w:2*n+1<xs.length:=by omega
  have D:(xs.length:Int)-1-n=((xs.length-1-n:Nat):Int):=by omega
  rw[D];have C:=bU n (xs.length-1-n) O;have E:=bU n n O;rw[zB O]at C E;rw[zQ]at C E;obtain⟨b,r⟩:∃b,s.a=some ⟨b,0,none⟩:=by
   rcases A.2 with⟨q1,q2⟩|⟨b,cs,_,B,_⟩
   ·omega
   ·exact⟨b,B⟩
  have d:∀u,bS s 1 (Wu (jo n)) u F->∀(j:Nat) (x:Int),(jo n)[j]?=some x->cell u (Addr.add ⟨b,0,none⟩ ((j:Int).toNat*1))=some (.int .i64 x):=λu z j x P=>by
   obtain⟨K,o,B,N⟩:=z.fW.cell (j:=j) (v:=.int .i64 x) (by simp[Wu,P]);rw[r]at B;cases B;rw[add_lit,show 0+(j:Int).toNat*1=0+j by omega];exact N
  rw[r];refine⟨λu=>bS s 1 (Wu (jo n)) u F,A,?_⟩;refine ix O O ⟨_,λu z=>d u z _ _ C,?_⟩;refine ix O O ⟨_,λu z=>d u z _ _ E,?_⟩;refine ix O O ?_;refine A.st (j:=n) (by simp[Wu,lB];omega) (λK p=>by rw[r]at p;cases p;rw[add_lit];simp) λV e1 J=>?_;refine ix O O ?_;refine J.st (j:=xs.length-1-n) (by simp[Wu,lB];omega) (λK p=>by rw[r]at p;cases p;rw[add_lit];simp) λX e2 H=>?_;refine cT (m:=n+1) O O (cT (m:=xs.length-1-n-1) O O ⟨⟨n+1,rfl,O,O,(ev.trans e1).trans e2,?_⟩,O⟩);rw[←step n w,zQ,zQ];have G:∀(l:List Int) (i:Nat) (x:Int),Wu (l.set i x)=(Wu l).set i (.int .i64 x):=λl i x=>by simp[Wu,vv]
  rw[G,G];exact H
 ·rw[y n O O]at A;exact hR v ev A
theorem O8 (h:jg b l U G){sl:Sl}(hz:sl.len=0){R:aN}(hR:∀σ',Ext (· = b) U σ'->jg b l σ' G->R 0 σ'):Xh.c (aW b) sl U R:=by
 refine Xh.o ?_;unfold Xh.v;have D:=h;obtain⟨F,i,s,A,j,E⟩:=h;have r:s.len=l.os.length:=by have:=j.1;simp[Wu]at this;omega
 have w:=i.many;refine bL (A.rS rfl (cT (m:=l.os.length) aC O (gg O (bL (A.rS rfl ?_)))));refine Xx.o ?_;unfold Xx.v;refine jl (lo:=0) aC aC aC ?_;have d:=cV.sub j (lo:=0) (hi:=s.len) (mx:=s.len) O O O;have C:((Wu l.os).drop (0*1)).take ((s.len-0)*1)=Wu l.os:=by rw[r,lh (by simp[Wu])];simp
 rw[C]at d;have key:∀(g:Sl),cV g 1 (Wu l.os) U (λq=>G q/\q≠b)->g.len<=g.cap->bW (some ⟨b,0,none⟩) λu=>dZ (u.add 0) (.slice g.a g.len g.cap) U λv2=>R 0 v2:=λg z x=>by
  refine bL (A.s1 (by simp[nb]) λv2 o2 y=>hR v2 o2.ext ?_);exact D.st (l':=l) (s:=g) o2.ext y z x i
 refine⟨Wu l.os,[],by simp[Wu];omega,by simp[hz],d.rd,by cases sl.a<;>simp[Rd],by simp,?_,by simp only;omega,λB=>?_,λp=>absurd (by simp only[hz];omega) p⟩
 ·simp only[hz];have:(s.len-0+0)*8<=256*8:=mo O O;omega
 ·simp only[hz,ko];cases ha:(if s.len=0 then s.a else s.a.map (·.add (0*1)))
  ·rw[ha]at d;exact key ⟨none,s.len-0,s.len-0⟩ d (zD _)
  ·rw[ha]at d;exact key ⟨some _,s.len-0,s.len-0⟩ d (zD _)
theorem EK (h:jg b l U G){sl:Sl}{xs:List Int}{X:Rg}(hs:cV sl 1 (Wu xs) U X)(hfit:l.os.length+xs.length<=256){R:aN}
 (hR:∀σ',Ext (· = b) U σ'->jg b (eL xs l) σ' (Grow G U)->R 0 σ'):Xh.c (aW b) sl U R:=by
 by_cases hx:xs=[]
 ·subst hx;have g:eL [] l=l:=by unfold eL;rw[zB (by simp only[k9]at hfit ⊢;omega)];simp
  refine O8 h (by have:=hs.1;simp[Wu]at this;omega) λσ' e d=>hR σ' e ?_;rw[g];exact(jg.loc _ _).mono d λq _ a=>.inl a
 ·exact Ru h hs hx hfit λσ' e d=>hR σ' e ((jg.loc _ _).mono d λq _ a=>a.imp (λe=>by rw[e];exact h.1) id)
theorem SG (h:eJ U F Y tb bud ls)(hc:tb[k]?=some c)(hl:ls[k]?=some l){sl:Sl}{xs:List Int}{X:Rg}(hs:cV sl 1 (Wu xs) U X)(hX:∀q,X q->¬F q)(hfit:l.os.length+xs.length<=256){R:aN}
 (hR:∀σ' Y',Ext F U σ'->Y'.p=Y.p->eJ σ' (Grow F U) Y' tb bud (ls.set k (eL xs.reverse l))->R 0 σ'):Yk.c (aW Y.p) (k:Int) sl U R:=by
 obtain⟨u,B⟩:=h.cls hc;have x:sl.len=xs.length:=by have:=hs.1;simp[Wu]at this;omega
 refine Yk.o ?_;unfold Yk.v;refine y6 h B λv Y' b e z C E=>cD rfl ?_;have i:=aH.bT hs e λq _ a=>hX q a;refine HJ i Uc O λs1 H w e1 j=>?_;refine Nc j O λv2 e2 r=>?_;have d:aG v v2:=Ext.fresh e1 e2 λq a=>a;obtain⟨G,s,g⟩:=(E.bP d).fD (e.trans (aG.to d)) C hl;refine EK s r.fW aE λv3 D m=>?_;obtain⟨y,A⟩:=g v3 _ _ (D.sub λq a=>a▸s.1) (λq a=>a) m;exact hR v3 Y' y z A
theorem QK {α:Type}{ls:List α}{k:Nat}{l:α}(h:ls[k]?=some l):ls.set k l=ls:=by
 apply zt;intro j;by_cases hj:j=k
 ·subst hj;rw[zO (cY.1 h).1,h]
 ·rw[zh (Ne.symm hj)]
theorem Nd (h:eJ U F Y tb bud ls)(hc:tb[k]?=some c)(hl:ls[k]?=some l)(x:Int){R:Sl->Int->Hp->Prop}
 (hR:∀σ' Y' s e (Q:Rg),Ext F U σ'->Y'.p=Y.p->(l.os.length+1<=256->e=0)->(∀q,Q q->U.size<=q)->bS s 1 (Wu (dM c x l).1) σ' Q->eJ σ' (λq=>Grow F U q/\¬Q q) Y' tb bud (ls.set k (dM c x l).2)->R s e σ'):YR.c (aW Y.p) (k:Int) x U R:=by
 obtain⟨ab,hk⟩:=h.cls hc;refine YR.o ?_;unfold YR.v;refine y6 h hk λv Y' b e hp hb h'=>cD rfl ?_;have hσv:=e.1;obtain⟨G,hG,hL,_,L⟩:=h'.yk hb hl;have hblt:b<v.size:=by obtain⟨_,_,s,hbk,_⟩:=hL;exact hbk.lt
 have u:=hL.1;have N:=hL.2.1;have hmany:=N.many;have r:∀(σ':Hp) (l':Li) (G':Rg),Ext G v σ'->(∀q,G' q->Grow G v q)->jg b l' σ' G'->Ext F U σ'/\eJ σ' (λq=>Grow F U q/\q<v.size/\¬G q\/G' q) Y' tb bud (ls.set k l'):=λσ' l' G' e' hg hL'=>by
  obtain⟨e1,h1⟩:=L σ' l' G' e' hg hL';exact⟨e.jH e1,h1⟩
 have hin:∀{G':Rg} {q:Nat},(∀q,G' q->Grow G v q)->(Grow F U q/\q<v.size/\¬G q\/G' q)->Grow F U q:=λhg a=>by
  rcases a with a|a
  ·exact a.1
  ·rcases hg _ a with H|H
   ·exact hG _ H
   ·exact .inr O
 refine nw (cs:=[.int .i64 x]) λv1 hz1 e1 hb1=>?_;have ad:=(jg.loc _ _).bP hL e1;have M:cV ⟨some ⟨v.size,0,none⟩,1,1⟩ 1 (Wu [x]) v1 (· = v.size):=hb1.fW (o:=0) rfl (by simp[Wu]) (λj hj=>by
  simp only[Wu,zR,qh,zS,k9]at hj ⊢;rw[zH])
 by_cases hfit:l.os.length+1<=256
 ·refine EK ad M (by simpa using hfit) λv2 e2 E=>cD rfl ?_;have B:Ext G v v2:=(aG.to e1).trans (e2.sub λq a=>a▸u);have aa:∀q,Grow G v1 q->Grow G v q:=λq a=>a.imp id λP=>by omega
  obtain⟨eF2,H⟩:=r v2 _ _ B aa E;have i:(eL [x] l).os=l.os++[x]/\(eL [x] l).lim=l.lim/\(eL [x] l).low=l.low:=by unfold eL;rw[zB (by simp only[zS,k9];omega)];exact⟨rfl,rfl,rfl⟩
  have y:=E;obtain⟨_,ok2,s2,g,X,C⟩:=E;have hs2l:s2.len=l.os.length+1:=by have:=X.1;simp[Wu,i.1]at this;omega
  refine bL (g.rS rfl (bL (g.rI rfl ?_)));rw[i.2.1];refine cP (λc1=>?_) λc1=>?_
  ·have D:l.os.length+1<=l.lim:=by simp only at c1;omega
   have A:dM c x l=([],eL [x] l):=by unfold dM;rw[zB O,zC D]
   refine hR v2 Y' _ 0 (λ_=>False) eF2 hp (λ_=>rfl) (λq a=>a.elim) (by rw[A];exact bS.nil _ _ _ _) ?_;rw[A];exact H.mono λq _ a=>⟨hin aa a,id⟩
  ·have D:¬l.os.length+1<=l.lim:=by simp only at c1;omega
   have A:dM c x l=gM (min c.batch (l.os.length+1)) (mN c (eL [x] l)):=by unfold dM;rw[zB O,zB D]
   have Z:=H.hd;rw[hp]at Z;refine bL (Z.rS rfl (ur H.jP hc (d:=2) O ?_));simp only[zB (show ¬(2=0) by omega),zB (show ¬(2=1) by omega)];refine Jn.intro ?_;have w:∀v3,Ext (· = b) v2 v3->jg b (mN c (eL [x] l)) v3 (Grow G v1)->bW (some ⟨b,0,none⟩) λa62=>jJ (a62.add 0) v3 λac=>Xr.c (aW b) (if((ac.len:Nat):Int)<(c.batch:Int)then((ac.len:Nat):Int)else(c.batch:Int)) v3 λt67 v4=>R t67 0 v4:=by
    intro v3 e3 hL3;have W:=hL3;obtain⟨_,ok3,s3,K,hs3,hcap3⟩:=hL3;have V:(mN c (eL [x] l)).os=l.os++[x]:=by unfold mN;split<;>exact i.1
    have J:s3.len=l.os.length+1:=by have:=hs3.1;simp[Wu,V]at this;omega
    refine bL (K.rS rfl ?_);have em:(if((s3.len:Nat):Int)<(c.batch:Int)then((s3.len:Nat):Int)else(c.batch:Int))=((min c.batch (l.os.length+1):Nat):Int):=by rw[J];split<;>omega
    rw[em];refine GB W (by rw[V];simp;omega) λs z v4 e4 hz hr hL4=>?_;have e24:Ext (· = b) v2 v4:=e3.trans e4;have e04:Ext G v v4:=B.trans (e24.sub λq a=>a▸u);have hs23:=e3.1;have hs02:=B.1;obtain⟨eF4,h4⟩:=r v4 _ (λq=>q=b\/z<=q) e04 (λq a=>a.imp (λ(P:q=b)=>by rw[P];exact u) λ(P:z<=q)=>O) hL4;refine hR v4 Y' s 0 (λq=>v3.size<=q/\q<z) eF4 hp (λ_=>rfl) (λq a=>O) (by rw[A];exact hr) ?_;rw[A];refine h4.mono λq _ a=>⟨?_,λhQ=>?_⟩
    ·rcases a with a|a|a
     ·exact a.1
     ·subst a;exact hG _ u
     ·exact .inr O
    ·rcases a with a|a|a<;>omega
   refine bL (g.rI rfl ?_);rw[i.2.1];refine cP (λc2=>?_) λc2=>?_
   ·have c2':l.lim<c.batch:=by omega
    have eu:mN c (eL [x] l) = {eL [x] l with lim:=l.lim+1}:=by unfold mN;rw[i.2.1,zC c2']
    have S:=Et ab ok2;refine bL (g.rI rfl ?_);rw[i.2.1];have hl128:=N.lim;refine cT (m:=l.lim+1) O O (bL (g.s1 (by simp[nb]) λv3 o3 hb3=>w v3 o3.ext ?_));rw[eu]at S ⊢;exact y.st o3.ext hb3 X C S
   ·have eu:mN c (eL [x] l)=eL [x] l:=by unfold mN;rw[i.2.1,zB O]
    exact w v2 (Ext.refl _ _) (by rw[eu];exact y)
 ·refine Wla ad M (by simpa using hfit) aA (cF rfl ?_);have A:dM c x l=([],l):=by unfold dM;rw[zC O]
  refine hR v1 Y' _ 6 (λ_=>False) (e.trans (aG.to e1)) hp (λP=>absurd P hfit) (λq a=>a.elim) (by rw[A];exact bS.nil _ _ _ _) ?_;rw[A,QK hl];exact(h'.bP e1).mono λq _ a=>⟨a,id⟩
end Go.Ar
namespace Go.Ar
open Go Go.Vc Go.Proofs
open Go.Bu (Zx Kf Zv)
variable {U:Hp}{F:Rg}{p hs:Nat}{A:AR}{Y:Lay}{T:Nat->Hp->Rg->Prop}
theorem dJ.tH (h:dJ U F Y A T){k q:Nat}{c:cA}{ss:List cH}(h1:Y.fL[k]?=some q)(h2:A.tb[k]?=some c)(h3:A.cG[k]?=some ss) :
 ∃G:Rg,(∀b,G b->F b)/\(∃ps,fH U G q c ps ss)/\(∀j,∃H:Rg,(∀b,H b->F b)/\(∀b,H b->¬G b)/\T j U H)/\∀(σ':Hp) (ss':List cH) (ps':List (Nat×Nat)) (G' H:Rg),
  Ext G U σ'->(∀b,G' b->G b\/U.size<=b)->fH σ' G' q c ps' ss'->(∀b,(F b/\b<U.size/\¬G b\/G' b)->H b)->dJ σ' H Y {A with cG:=A.cG.set k ss'} T:=by
 obtain⟨G,g,hi,hd,a⟩:=h.step (.cG k);have i:k<A.cG.length:=(cY.1 h3).1;refine⟨G,g,FU h1 h2 h3 hi,λj=>hd (.cR j) (by intro e;cases e),λσ' ss' ps' G' H e m p d=>?_⟩;refine a σ' _ _ T G' H h.lay.lb h.tl Wns e m ?_ d;simp only[AC];rw[h1,h2,zO i];exact⟨ps',p⟩
theorem WbD (h:dJ U F Y A T)(k m:Int){R:Sl->Int->Hp->Prop}(hR:∀s σ',Ext F U σ'->bS s 1 (ints (Yw A k m)) σ' (λb=>U.size<=b)->dJ σ' (Cut F U) Y (YQ A k m) T->R s (Q6 A k m) σ') :
 WX.c (aW Y.p) k m U R:=by
 refine WX.o ?_;unfold WX.v;refine UK h k (λj=>?_) λx H w=>?_
 ·have e1:Q6 A k m=1:=by unfold Q6;rw[j];rfl
  have e2:YQ A k m=A:=by unfold YQ;rw[e1];rfl
  have i:Yw A k m=[]:=by unfold Yw;rw[e1];rfl
  have:=hR ⟨none,0,0⟩ U (Ext.refl _ _) (by rw[i];exact bS.nil _ _ _ _) (by rw[e2];exact h.cut);rw[e1]at this;exact cF rfl this
 ·subst H;have j:A.ck (x:Int)=true:=by unfold AR.ck;simp;omega
  obtain⟨c,ss,q,t,r,y,d,z,_,_,E⟩:=h.at_ w;obtain⟨G,C,⟨K,D⟩,_,g⟩:=h.tH z y d;refine cD rfl (bL (h.hd.rS rfl (h.lX z ?_)));by_cases hm:m<0
  ·have e1:Q6 A x m=1:=by unfold Q6;rw[j,zC rfl,zC hm]
   have e2:YQ A x m=A:=by unfold YQ;rw[e1];rfl
   have i:Yw A x m=[]:=by unfold Yw;rw[e1];rfl
   have:=hR ⟨none,0,0⟩ U (Ext.refl _ _) (by rw[i];exact bS.nil _ _ _ _) (by rw[e2];exact h.cut);rw[e1]at this;exact η D m hm this
  ·have e1:Q6 A x m=0:=by unfold Q6;rw[j,zC rfl,zB hm]
   have B:VQ A x m=KE c m.toNat ss:=by unfold VQ;simp only[dH];rw[y,d]
   have e2:YQ A x m = {A with cG:=A.cG.set x (KE c m.toNat ss).2}:=by unfold YQ;rw[e1,zC rfl,B];rfl
   have i:Yw A x m=(KE c m.toNat ss).1:=by unfold Yw;rw[e1,zC rfl,B]
   refine Pu D m O λs σ' e a u=>?_;have:=hR s σ' (e.sub C) (by rw[i];exact a) (by rw[e2];exact g σ' _ _ (Cut G U) _ e (λb J=>.inl J.1) u (II C));rw[e1]at this;exact this
theorem PB {k:Nat}{f:gQ->gQ}:∀j,j≠Lb.cR k->AC {A with cR:=A.cR.modify k f} Y (cM {A with cR:=A.cR.modify k f} Y) j=AC A Y (cM A Y) j:=by
 intro j hj;cases j<;>first|rfl|skip
 rename_i k';have a:k≠k':=λe=>hj (by rw[e]);simp only[AC,cM];simp[uK,a]
theorem fC.j2 {k:Nat}{f:gQ->gQ}(h:fC A Y):fC {A with cR:=A.cR.modify k f} Y:=⟨h.c,h.t,h.cG,by simpa using h.cR,h.nW,h.r4,h.n1,h.n2,h.n3,h.st,h.room,h.ok⟩
theorem dJ.tY (h:dJ U F Y A (cM A Y)){k q:Nat}{c:cA}{t:gQ}(h1:Y.gD[k]?=some q)(h2:A.tb[k]?=some c)(h3:A.cR[k]?=some t) :
 ∃G:Rg,(∀b,G b->F b)/\iV U G q c.batch A.room t/\∀(σ':Hp) (f:gQ->gQ) (G' H:Rg),
  Ext G U σ'->(∀b,G' b->G b\/U.size<=b)->iV σ' G' q c.batch A.room (f t)->(∀b,(F b/\b<U.size/\¬G b\/G' b)->H b)->dJ σ' H Y {A with cR:=A.cR.modify k f} (cM {A with cR:=A.cR.modify k f} Y):=by
 obtain⟨G,i,hi,hd,a⟩:=h.step (.cR k);have d:iV U G q c.batch A.room t:=by
  simp only[AC,cM]at hi;rw[h1,h2,h3]at hi;exact hi
 refine⟨G,i,d,λσ' f G' H e m p g=>?_⟩;refine a σ' _ _ _ G' H h.lay.j2 (λj=>cM.loc j) PB e m ?_ g;simp only[AC,cM];rw[h1,h2,List.getElem?_modify_eq,h3];exact p
theorem G8 (h:dJ U F Y A (cM A Y))(k:Int){R:Sl->Int->Hp->Prop}(hR:∀s σ',Ext F U σ'->(∀b,k5 s b->F b)->cV s 1 (Wu (YM A k)) σ' (k5 s)->s.len<=s.cap->dJ σ' (λb=>F b/\¬k5 s b) Y (ZW A k) (cM (ZW A k) Y)->R s (Qz A k) σ') :
 WU.c (aW Y.p) k U R:=by
 refine WU.o ?_;unfold WU.v;refine UK h k (λB=>?_) λx N E=>?_
 ·have e1:Qz A k=1:=by unfold Qz;rw[B];rfl
  have e2:ZW A k=A:=by unfold ZW;rw[e1];rfl
  have y:YM A k=[]:=by unfold YM;rw[e1];rfl
  have:=hR ⟨none,0,0⟩ U (Ext.refl _ _) (λb d=>by obtain⟨a,g,_⟩:=d;cases g) (by rw[y];exact cV.nil _ _ _ _) (zD _) (by rw[e2];exact h.mono λb _ d=>⟨d,λ⟨a,g,_⟩=>by cases g⟩);rw[e1]at this;exact cF rfl this
 ·subst N;have B:A.ck (x:Int)=true:=by unfold AR.ck;simp;omega
  obtain⟨c,Q,q,t,r,K,M,P,z,H,L⟩:=h.at_ E;obtain⟨G,C,J,w⟩:=h.tY H K z;refine cD rfl (bL (h.hd.rS rfl (h.sB H ?_)));by_cases d:t.bs=[]
  ·have e1:Qz A x=4:=by unfold Qz;rw[B,zC rfl];simp only[dH];rw[z];simp[d]
   have e2:ZW A x=A:=by unfold ZW;rw[e1];rfl
   have y:YM A x=[]:=by unfold YM;rw[e1];rfl
   have:=hR ⟨none,0,0⟩ U (Ext.refl _ _) (λb d=>by obtain⟨a,g,_⟩:=d;cases g) (by rw[y];exact cV.nil _ _ _ _) (zD _) (by rw[e2];exact h.mono λb _ d=>⟨d,λ⟨a,g,_⟩=>by cases g⟩);rw[e1]at this;exact RY J d this
  ·have e1:Qz A x=0:=by unfold Qz;rw[B,zC rfl];simp only[dH];rw[z];simp[d]
   have e2:ZW A x = {A with cR:=A.cR.modify x gQ.rem}:=by unfold ZW;rw[e1,zC rfl];rfl
   have y:YM A x=t.bs.getLast?.getD []:=by unfold YM;rw[e1,zC rfl];simp only[dH];rw[z]
   refine No J d λs σ' e i j u D=>?_;have m:∀b,(F b/\b<U.size/\¬G b\/G b/\¬k5 s b)->F b/\¬k5 s b:=λb d=>by
    rcases d with d|d
    ·exact⟨d.1,λhi=>d.2.2 (i b hi)⟩
    ·exact⟨C b d.1,d.2⟩
   have:=hR s σ' (e.sub C) (λb d=>C b (i b d)) (by rw[y];exact j) u (by rw[e2];exact w σ' _ (λb=>G b/\¬k5 s b) _ e (λb d=>.inl d.1) D m);rw[e1]at this;exact this
theorem NG (h:dJ U F Y A (cM A Y))(k:Int){sl:Sl}{xs:List Int}{X:Rg}(hs:cV sl 1 (Wu xs) U X)(hi:∀x∈xs,iN x){R:Bool->Int->Hp->Prop}(hR:∀σ',Ext F U σ'->dJ σ' (Grow F U) Y (KB A k xs) (cM (KB A k xs) Y)->R (VB A k xs) (H7 A k xs) σ') :
 W5.c (aW Y.p) k sl U R:=by
 refine W5.o ?_;unfold W5.v;have u:sl.len=xs.length:=by have:=hs.1;simp[Wu]at this;omega
 have Q:∀e:Int,e≠0->H7 A k xs=e->R false e U:=λe he C=>by
  have e3:VB A k xs=false:=by unfold VB;rw[zJ O];rfl
  have e2:KB A k xs=A:=by unfold KB;rw[e3];rfl
  have:=hR U (Ext.refl _ _) (by rw[e2];exact h.mono λb _ g=>.inl g);rw[C,e3]at this;exact this
 refine UK h k (λS=>cF rfl (Q 1 aB (by unfold H7;rw[S];rfl))) λx P ac=>?_;subst P;have S:A.ck (x:Int)=true:=by unfold AR.ck;simp;omega
 obtain⟨c,ss,q,t,r,N,K,hq,ht,hr,aa⟩:=h.at_ ac;obtain⟨G1,ps,hG1,Z⟩:=h.cG hq N K;obtain⟨G,hG,hC,J⟩:=h.tY hr N ht;have M:H7 A x xs=if xs.length=c.batch then(if xs.all (λx=>eH c ss x==some true)then 0 else 8)else 1:=by unfold H7;rw[S,zC rfl];simp only[dH];rw[N,K]
 refine cD rfl (bL (h.hd.rS rfl (h.yj (d:=2) N O ?_)));simp only[zB (show ¬(2=0) by omega),zB (show ¬(2=1) by omega)];rw[r8];refine cN (λg=>?_) λg=>?_
 ·have:¬xs.length=c.batch:=by rw[←u];simpa using g
  exact Q 1 aB (by rw[M,zB this])
 have L:xs.length=c.batch:=by rw[←u];simpa using g
 rw[zC L]at M;have h32:c.batch<=32:=aa.2.2.2.2.2.2.2;refine Qp (a:=bO) (λ(i:Int) v=>∃j:Nat,i=(j:Int)/\j<=xs.length/\v=U/\∀y∈xs.take j,eH c ss y=some true) (λi _=>xs.length-i.toNat) ⟨0,rfl,O,rfl,by simp⟩ ?_;rintro i v ⟨j,rfl,hj,rfl,s⟩;refine cP (λhlt2=>?_) λhge=>?_
 ·have H:j<xs.length:=by omega
  have P:xs[j]?=some xs[j]:=cX H;have V:xs.take (j+1)=xs.take j++[xs[j]]:=by rw[kz,P];rfl
  have w:=kv H;generalize xs[j]=y at *;have E:eH c ss y≠some true->R false 8 v:=λW=>Q 8 aB (by
   rw[M,zB];intro ha;rw[kx]at ha;exact W (by simpa using ha y w))
  refine hs.lV P (bL (h.hd.rS rfl (h.lX hq (FY Z _ (hi y w) (λb g=>?_) λg=>?_))))
  ·refine bX.intro (cD rfl ?_);cases b
   ·exact cF rfl (E (by rw[g];simp))
   ·refine cD rfl (cT (m:=j+1) O O ⟨⟨j+1,rfl,O,rfl,λz hz=>?_⟩,O⟩);rw[V]at hz;rcases zM.1 hz with C|C
    ·exact s z C
    ·simp at C;rw[C];exact g
  ·exact bX.intro (cF rfl (cF rfl (E (by rw[g];simp))))
 ·have:j=xs.length:=by omega
  subst this;rw[lW]at s;have B:H7 A x xs=0:=by
   rw[M,zC];rw[kx];intro y hy;simp[s y hy]
  have D:VB A x xs=decide (t.bs.length<A.room):=by unfold VB;rw[B];simp only[dH];rw[ht];simp
  refine bL (h.hd.rS rfl (h.sB hr (NU hC hs O (λW=>absurd L W) (λ_ hf=>?_) λ_ hf σ' e ab=>?_)))
  ·rw[zJ O]at D;have e2:KB A x xs=A:=by unfold KB;rw[D];rfl
   have:=hR v (Ext.refl _ _) (by rw[e2];exact h.mono λb _ g=>.inl g);rw[B,D]at this;exact this
  ·rw[zI O]at D;have e2:KB A x xs = {A with cR:=A.cR.modify x λt=>{t with bs:=t.bs++[xs]}}:=by unfold KB;rw[D,zC rfl];rfl
   have:=hR σ' (e.sub hG) (by rw[e2];exact J σ' (λt=>{t with bs:=t.bs++[xs]}) (Grow G v) _ e (λb g=>g) ab (Gr hG λb g=>g));rw[B,D]at this;exact this
theorem fH.Β {q:Nat}{c:cA}{ps:List (Nat×Nat)}{ss:List cH}{G:Rg}(h:fH U G q c ps ss):∀s∈ss,s.st<=1024:=by
 intro s hs;obtain⟨i,hi⟩:=zP hs;have b:=(cY.1 hi).1;have a:i<ps.length:=by rw[h.len];exact b
 have:=(h.sp _ _ _ (cX a) hi).fit;omega
theorem MP (h:dJ U F Y A T)(k:Int){sl:Sl}{xs:List Int}(hi:∀x∈xs,iN x)(hl:xs.length<=1000000)(hcap:sl.len<=sl.cap)
 (hs:(∃X:Rg,cV sl 1 (Wu xs) U X/\∀b,b<U.size->X b->¬F b)\/∃j,∀H,T j U H->cV sl 1 (Wu xs) U H)
 {R:aN} (hR:∀σ',Ext F U σ'->dJ σ' (Grow F U) Y (ZT A k xs) T->R (Kr A k xs) σ') :
 Xb.c (aW Y.p) k sl U R:=by
 refine Xb.o ?_;unfold Xb.v;have no:∀e:Int,e≠0->Kr A k xs=e->R e U:=λe he K=>by
  have e2:ZT A k xs=A:=by unfold ZT;rw[zB O]
  have:=hR U (Ext.refl _ _) (by rw[e2];exact h.mono λb _ d=>.inl d);rw[K]at this;exact this
 refine UK h k (λN=>cF rfl (no 1 aB (by unfold Kr;rw[N];rfl))) λx hx W=>?_;subst hx;have N:A.ck (x:Int)=true:=by unfold AR.ck;simp;omega
 obtain⟨c,g,q,t,r,Q,u,hq,_,_,hok⟩:=h.at_ W;obtain⟨G,L,⟨ps,Z⟩,hd,B⟩:=h.tH hq Q u;have hX:∃X:Rg,cV sl 1 (Wu xs) U X/\∀b,X b->¬G b:=by
  rcases hs with⟨X,K,h2⟩|⟨j,hj⟩
  ·exact⟨Cut X U,aH.cut K,λb d hg=>h2 b d.2 d.1 (L b hg)⟩
  ·obtain⟨H,_,D,hT⟩:=hd j;exact⟨H,hj H hT,D⟩
 obtain⟨X,S,E⟩:=hX;have M:Kr A x xs=iM c g xs:=by unfold Kr;rw[N,zC rfl];simp only[dH];rw[Q,u]
 refine cD rfl (bL (h.hd.rS rfl (h.lX hq (Pj Z S E hi hl hcap (λD=>?_) λh0 o σ1 e1 m J=>?_))))
 ·refine cF (by simpa using D) (no _ D M)
 ·refine cD rfl ?_;have eS:ZT A x xs=UB {A with cG:=A.cG.set x (cK (xs.foldl (fJ c) g))} ((QT (xs.foldl (fJ c) g)).map λs=>(s,c.aF)):=by
   unfold ZT;rw[M,zC h0];simp only[dH];rw[Q,u]
  have P:=B σ1 _ _ (Cut G U) _ e1 (λb d=>.inl d.1) J (II L);rw[RJ]at m;have C:((QT (xs.foldl (fJ c) g)).map λs=>(s,c.aF)).length<=1000000/\∀r∈((QT (xs.foldl (fJ c) g)).map λs=>(s,c.aF)),r.1<=1000000:=by
   have i:∀(ys:List Int) (ls:List cH),((ys.foldl (fJ c) ls).map (·.st))=ls.map (·.st):=by
    intro ys
    induction ys with
    | nil=>intro ls;rfl
    | cons y ys ih=>
     intro ls;rw[r7,ih];unfold fJ;split
     ·rename_i j hj;split
      ·rename_i s a;split
       ·simp only[vv];apply zt;intro z;rw[nJ];by_cases w:j=z
        ·subst w;rw[zC rfl];have:=(cY.1 a).1;rw[zC (by simpa using this)];simp[a,cH.put]
        ·rw[zB w]
       ·rfl
      ·rfl
     ·rfl
   have V:∀s∈QT (xs.foldl (fJ c) g),s∈g.map (·.st):=by
    intro s a;rw[←i xs g];unfold QT at a;simp only[zE,zL]at a ⊢;obtain⟨z,w,rfl⟩:=a;exact⟨z,w.1,rfl⟩
   have hfew:=Z.qN;refine⟨?_,λr hr=>?_⟩
   ·have:(QT (xs.foldl (fJ c) g)).length<=(xs.foldl (fJ c) g).length:=by
     unfold QT;rw[zj];exact pN _ _
    have h2:(xs.foldl (fJ c) g).length=g.length:=by have:=congrArg List.length (i xs g);simpa using this
    rw[zj];omega
   ·obtain⟨s,a,rfl⟩:=zE.1 hr;obtain⟨z,w,rfl⟩:=zE.1 (V s a);have:=Z.Β z w;simp only;omega
  refine EA P m.fW (λb _ d hf=>by have:=hf.2;omega) C.1 C.2 λσ2 e2 aa=>?_;have:=hR σ2 ((e1.sub L).trans (e2.sub λb d=>d.1)) ?_
  ·rw[M,h0]at this;exact this
  ·rw[eS];exact aa.mono λb _ d=>by
    rcases d with d|d
    ·exact .inl d.1
    ·exact .inr (kr e1.1 d)
theorem Sv (l:List (Nat×Nat))(x:Int):bU (iR l) x=(l.find? λr=>(r.1:Int)==x).map λr=>(r.2:Int):=by
 induction l with
 | nil=>rfl
 | cons r l ih=>
  have:iR (r::l)=((r.1:Int),(r.2:Int))::iR l:=rfl;rw[this,KU,vS,ih];by_cases h:(r.1:Int)=x
  ·simp[h]
  ·have:((r.1:Int)==x)=false:=by simpa using h
   rw[this,zB h]
theorem WjC (l:List (Nat×Nat))(x:Int):cO (iR l) x=iR (l.filter λq=>!((q.1:Int)==x)):=by
 unfold cO iR;rw[wZ];rfl
theorem Tm (l:List (Nat×Nat))(x m:Nat):dA (iR l) (x:Int) (m:Int)=iR (cC.mset2 l x m):=by
 unfold dA cC.mset2 iR;have e:(l.map λr=>((r.1:Int),(r.2:Int))).any (λy=>y.1==(x:Int))=l.any λr=>r.1==x:=by
  rw[List.any_map]
  congr 1
  funext r
  exact mi r.1 x
 rw[e];split
 ·rw[lK,lK];apply kh;intro r _;simp only[Function.comp_def];rw[mi];split<;>rfl
 ·simp
theorem dJ.sN (h:dJ U F Y A T):F Y.rn/\dK U Y.rn .i64 bO (iR A.runs)/\∀(σ':Hp) (rs:List (Nat×Nat)),Q3 U σ' Y.rn->dK σ' Y.rn .i64 bO (iR rs)->dJ σ' F Y {A with runs:=rs} T:=by
 obtain⟨G,j,⟨g,r⟩,_,a⟩:=h.step .runs;refine⟨j _ g,r,λσ' rs m p=>?_⟩;exact a σ' _ _ T G _ h.lay.rY h.tl Μ (m.ext.sub λb d=>by subst d;exact g) (λb d=>.inl d) ⟨g,p⟩ (A9 j λb d=>d)
theorem O9 (h:dJ U F Y A T)(x:Int)(hf:∀r∈A.runs,r.1<=1000000){R:aN}(hR:∀σ',Ext F U σ'->dJ σ' (Grow F U) Y (Q8 A x) T->R (Vw A x) σ') :
 Xd.c (aW Y.p) x U R:=by
 refine Xd.o ?_;unfold Xd.v;obtain⟨M,K,m⟩:=h.sN;refine HU h (cD rfl (bL (h.hd.rM rfl ⟨_,K,?_⟩)));rw[Sv];cases hr:(A.runs.find? λr=>(r.1:Int)==x)with
 | none=>
  have e1:Vw A x=8:=by unfold Vw qx;rw[hr];rfl
  have e2:Q8 A x=A:=by unfold Q8 qx;rw[hr]
  have:=hR U (Ext.refl _ _) (by rw[e2];exact h.mono λb _ a=>.inl a);rw[e1]at this;exact cF rfl this
 | some r=>
  have e1:Vw A x=0:=by unfold Vw qx;rw[hr];rfl
  have e2:Q8 A x=Us {A with runs:=A.runs.filter λq=>!((q.1:Int)==x)} r:=by unfold Q8 qx;rw[hr]
  have D:=tK hr;have G:(r.1:Int)=x:=by simpa using uV hr
  refine cD rfl (bL (h.hd.rM rfl ⟨_,K,λs H _ y=>?_⟩));have o1:=H _ rfl;have d:dK s Y.rn .i64 bO (cO (iR A.runs) x):=y;rw[WjC]at d;have u:=m s _ o1 d;simp only[ze,qn];refine nw (cs:=[.int .i64 x,.int .i64 (r.2:Int)]) λQ L g B=>?_;have z:=u.cut.bP g;have w:cV ⟨some ⟨s.size,0,none⟩,1,1⟩ 2 (rV [r]) Q (· = s.size):=by
   refine⟨rfl,.inr ⟨_,0,_,rfl,rfl,B.q,λj S=>?_⟩⟩;have:rV [r]=[.int .i64 (r.1:Int),.int .i64 (r.2:Int)]:=rfl;rw[this,G,zH]
  refine EA z w (λb _ a N=>by have:=N.2;omega) aA (λq J=>by simp at J;subst J;exact hf _ D) λv3 P C=>?_;have E:Ext F U v3:=(o1.ext.sub λb a=>by subst a;exact M).trans ((aG.to g).trans (P.sub λb a=>a.1));have:=hR v3 E (by
   rw[e2];exact C.mono λb _ a=>by
    rcases a with a|a
    ·exact .inl a.1
    ·exact .inr (by have:=o1.1;omega))
  rw[e1]at this;exact this
theorem VE (rs:List (Nat×Nat)):∀A:AR,(UB A rs).tb=A.tb/\(UB A rs).room=A.room/\(UB A rs).cR=A.cR/\(UB A rs).cG=A.cG/\(UB A rs).runs=A.runs/\(UB A rs).n=A.n:=by
 induction rs with
 | nil=>intro A;exact⟨rfl,rfl,rfl,rfl,rfl,rfl⟩
 | cons r rs ih=>intro A;exact ih (Us A r)
theorem US (A:AR)(k:Int)(xs:List Int):(ZT A k xs).tb=A.tb/\(ZT A k xs).room=A.room/\(ZT A k xs).cR=A.cR/\(ZT A k xs).runs=A.runs/\(ZT A k xs).n=A.n:=by
 unfold ZT;split
 ·split
  ·exact⟨(VE _ _).1,(VE _ _).2.1,(VE _ _).2.2.1,(VE _ _).2.2.2.2.1,(VE _ _).2.2.2.2.2⟩
  ·exact⟨rfl,rfl,rfl,rfl,rfl⟩
 ·exact⟨rfl,rfl,rfl,rfl,rfl⟩
theorem gQ.pW (t:gQ):∀xs∈t.tick.bs,xs∈t.bs:=λxs h=>uH h
theorem VA {α:Type}{l:List α}{k:Nat}{t:α}{f:α->α}(h:l[k]?=some t):l.modify k f=l.set k (f t):=by
 apply zt;intro i;rw[nJ,uK];by_cases hi:k=i
 ·subst hi;have:=(cY.1 h).1;rw[zC rfl,zC this,h];simp
 ·simp[hi]
def BG (A:AR)(Y:Lay)(k r:Nat)(c:cA)(t:gQ)(out:Sl)(sls:List Sl)(j:Nat):Hp->Rg->Prop:=
 if j=k then λU G=>iV U G r c.batch A.room t.tick/\cV out 1 (sls.map qL) U G/\rH sls t.out U G else cM A Y j
theorem BG.loc {k r:Nat}{c:cA}{t:gQ}{out:Sl}{sls:List Sl}(j:Nat):dN (BG A Y k r c t out sls j):=by
 unfold BG;split
 ·exact λU m F G ⟨i,g,d⟩ a b=>⟨iV.loc _ _ _ _ i a b,cV.loc _ _ _ _ _ _ _ g a b,rH.loc _ _ _ _ _ _ d a b⟩
 ·exact cM.loc j
end Go.Ar
namespace Go.Bu
variable {n:Nat}{S:Nat->Bool}
theorem Uk {m a k x:Nat}(h:ZZ n S m a k=some x):∃j,j<k/\m<=2^j/\a<=2^j/\(W9 n S j).head?=some x/\∀i,i<j->m<=2^i->a<=2^i->W9 n S i=[]:=by
 have GR:∀k,ZZ n S m a k=none->∀i,i<k->m<=2^i->a<=2^i->W9 n S i=[]:=by
  intro k
  induction k with
  | zero=>intro _ i hi;omega
  | succ k ih=>
   intro hn i hi d b;rw[ZZ]at hn;split at hn
   ·cases hn
   ·rename_i hn';by_cases e:i=k
    ·subst e;rw[zC ⟨d,b⟩]at hn;simpa using hn
    ·exact ih hn' i O d b
 induction k with
 | zero=>simp[ZZ]at h
 | succ k ih=>
  rw[ZZ]at h;split at h
  ·rename_i y hy;cases h;obtain⟨j,d,b⟩:=ih hy;exact⟨j,O,b⟩
  ·rename_i hn;split at h
   ·rename_i hc;exact⟨k,O,hc.1,hc.2,h,GR k hn⟩
   ·cases h
theorem Hr {m a:Nat}:∀{k},ZZ n S m a k=none->∀i,i<k->m<=2^i->a<=2^i->W9 n S i=[]
 | 0,_,i,hi,_,_=>by omega
 | k+1,hn,i,hi,h1,h2=>by
  rw[ZZ]at hn;split at hn
  ·cases hn
  ·rename_i hn';by_cases e:i=k
   ·subst e;rw[zC ⟨h1,h2⟩]at hn;simpa using hn
   ·exact Hr hn' i O h1 h2
theorem ld (hb:Bounded S n){m a x:Nat}(h:Zv n S m a=some x):x+m<=n/\∀y,x<=y->y<x+m->S y=true:=by
 obtain⟨j,_,r,_,g,_⟩:=Uk h;have b:x∈W9 n S j:=List.mem_of_head? g;obtain⟨q,rfl,d⟩:=(Kn hb).1 b;have:=Z5 hb (ZV.1 d).1;exact⟨O,λy p i=>Uu d (QD.2 O)⟩
end Go.Bu
namespace Go.Ar
open Go Go.Vc Go.Proofs
open Go.Bu (Zx Kf Zv)
variable {U:Hp}{F H:Rg}{p hs:Nat}{A:AR}{sp:Sp}{Y:Lay}{T:Nat->Hp->Rg->Prop}
structure W2 (U:Hp) (F H:Rg) (Y:Lay) (A:AR) (T:Nat->Hp->Rg->Prop) (sp:Sp):Prop where
 a:dJ U F Y A T
 s:dO U H Y.hs sp
 d:∀b,F b->¬H b
 g:Gl U
 o:jf F
 o2:jf H
def jd (F H:Rg):Rg:=λb=>F b\/H b
theorem W2.lY (h:W2 U F H Y A T sp){σ':Hp}{A':AR}(e:Ext F U σ')(ha:dJ σ' F Y A' T):W2 σ' F H Y A' T sp:=
 ⟨ha,dN.bT dO.loc h.s e λb _ i a=>h.d b a i,h.d,h.g.bT e h.o,h.o,h.o2⟩
theorem W2.space (h:W2 U F H Y A T sp){σ':Hp}{sp':Sp}(e:Ext H U σ')(hs:dO σ' H Y.hs sp'):W2 σ' F H Y A T sp':=
 ⟨dN.bT dJ.loc h.a e λb _ j i=>h.d b j i,hs,h.d,h.g.bT e h.o2,h.o,h.o2⟩
theorem W2.bP (h:W2 U F H Y A T sp){σ':Hp}(e:aG U σ'):W2 σ' F H Y A T sp:=⟨h.a.bP e,h.s.bP e,h.d,h.g.bP e,h.o,h.o2⟩
theorem W2.cut (h:W2 U F H Y A T sp):W2 U (Cut F U) (Cut H U) Y A T sp:=⟨h.a.cut,dN.cut dO.loc h.s,λb i j=>h.d b i.1 j.1,h.g,h.o.sub λb i=>i.1,h.o2.sub λb i=>i.1⟩
theorem W2.pS (h:W2 U F H Y A T sp){σ':Hp}{A':AR}(e:Ext F U σ')(ha:dJ σ' (Grow F U) Y A' T):W2 σ' (Grow F U) (Cut H U) Y A' T sp:=
 ⟨ha,dN.bT dO.loc (dN.cut dO.loc h.s) e λb _ a j=>h.d b j a.1,λb a i=>by
  rcases a with a|a
  ·exact h.d b a i.1
  ·have:=i.2;omega,h.g.bT e h.o,h.o.grow h.g,h.o2.sub λb a=>a.1⟩
theorem W2.J7 (h:W2 U F H Y A T sp){K:Option Addr->Prop}(hK:K (some ⟨Y.hs,0,none⟩)):fY (Addr.add ⟨Y.p,0,none⟩ 1) U K:=h.a.hd.rP rfl hK
theorem Iz (st:List Nat)(a m:Nat):Hc st a (m+1)=je (Hc st a m) ((a+m:Nat):Int):=by
 unfold Hc;rw[qF,zm,vE];rfl
theorem Sb {a m:Int}(h:fE sp a m≠0):gA sp a m=sp:=by unfold gA;rw[zB h]
theorem Mb {size:Nat}(h1:1<=size)(h:∀j,1<=j->j*size+size<=sp.st.length->fE sp ((j*size:Nat):Int) (size:Int)≠0):dB sp size=none:=by
 unfold dB;rw[og];intro x hx;obtain⟨j,d,rfl⟩:=zE.1 hx;rw[zg]at d;have b:(j+1)*size<=sp.st.length:=kr (mu size d) (yz _ _);rw[zo,Nat.one_mul]at b;by_cases h0:j=0
 ·subst h0;simp
 ·have:=h j O b;have a:(fE sp ((j*size:Nat):Int) (size:Int)==0)=false:=by simpa only[mP]using this
  rw[a,uG];simp
theorem Td {size j:Nat}(h1:1<=size)(h0:1<=j)(hf:j*size+size<=sp.st.length)(hm:fE sp ((j*size:Nat):Int) (size:Int)=0)(h:∀i,1<=i->i<j->fE sp ((i*size:Nat):Int) (size:Int)≠0):dB sp size=some (j*size):=by
 unfold dB;have m:j<sp.st.length/size:=by
  rw[Nat.lt_iff_add_one_le,Nat.le_div_iff_mul_le h1,zo,Nat.one_mul];exact hf
 have a:List.range (sp.st.length/size)=List.range j++(j::(List.range (sp.st.length/size-j-1)).map (j+1 + ·)):=by
  apply zt;intro i;rw[List.getElem?_append,AZ];by_cases hi:i<j
  ·rw[zC hi,nS O,nS hi]
  ·rw[zB hi];by_cases hij:i=j
   ·subst hij;rw[oQ,yL,nS m]
   ·rw[show i-j=(i-j-1)+1 by omega,yO,za];by_cases hl:i<sp.st.length/size
    ·rw[nS hl,nS O];simp only[ze]
     congr 1;omega
    ·rw[zX (by rw[AZ];omega),zX (by rw[AZ];omega)];rfl
 rw[a,zm,List.find?_append];have b:((List.range j).map (· * size)).find? (λ(s:Nat)=>s != 0&&fE sp s size==0)=none:=by
  rw[og];intro x hx;obtain⟨i,hi,rfl⟩:=zE.1 hx;rw[zg]at hi;by_cases h0:i=0
  ·subst h0;simp
  ·have:=h i O hi;have g:(fE sp ((i*size:Nat):Int) (size:Int)==0)=false:=by simpa only[mP]using this
   rw[g,uG];simp
 rw[b,zR,vS];have:(j*size != 0&&fE sp ((j*size:Nat):Int) (size:Int)==0)=true:=by
  rw[hm];have p:0<j*size:=Nat.mul_pos O O;have d:j*size≠0:=by omega
  simp[d]
 rw[this];rfl
theorem O5 (h:W2 U F H Y A T sp){size:Nat}(h1:size=16\/size=32\/size=64){R:aO}(h0:Hg A sp size=none->∀σ',Ext (jd F H) U σ'->W2 σ' F H Y A T sp->R false σ')
 (hR:∀A' sp',Hg A sp size=some (A',sp')->∀σ',Ext (jd F H) U σ'->W2 σ' F H Y A' T sp'->R true σ'):YZ.c (aW Y.p) (size:Int) U R:=by
 refine YZ.o ?_;unfold YZ.v;have hn2:sp.st.length<=1024:=by obtain⟨q,r,l,B,hh⟩:=h.s;exact hh.n2
 have es:∀{a b:Hp},Ext H a b->Ext (jd F H) a b:=λe=>e.sub λb P=>.inr P;have ea:∀{a b:Hp},Ext F a b->Ext (jd F H) a b:=λe=>e.sub λb P=>.inl P;have d:∀j,j*size+size=(j+1)*size:=λj=>by rw[zo,Nat.one_mul]
 refine Qp (a:=bO) (λ(t:Int) v=>∃j:Nat,t=((j*size:Nat):Int)/\1<=j/\j*size<=1024+64/\Ext (jd F H) U v/\W2 v F H Y A T sp/\∀i,1<=i->i<j->i*size+size<=sp.st.length->fE sp ((i*size:Nat):Int) (size:Int)≠0) (λt _=>2000-t.toNat)
  ⟨1,O,zD _,O,Ext.refl _ _,h,λi h1 h2=>O⟩ ?_
 rintro t v ⟨j,rfl,hj,P,e,z,x⟩;refine cT (m:=j*size+size) O O (bL (z.J7 (JE z.s (cP (λhlt=>?_) λhge=>?_))))
 ·have hf:j*size+size<=sp.st.length:=by omega
  refine bL (z.J7 (PX z.s z.g z.o2 _ _ λv2 e2 G=>?_));refine cN (λV=>?_) λV=>?_
  ·have L:fE sp ((j*size:Nat):Int) (size:Int)≠0:=by simpa using V
   rw[Sb L]at G;refine cT (m:=(j+1)*size) (by rw[←d];omega) (by rw[←d];omega) ⟨⟨j+1,rfl,O,by rw[←d];omega,e.trans (es e2),z.space e2 G,λi y K D=>?_⟩,by rw[←d];omega⟩;by_cases hij:i=j
   ·subst hij;exact L
   ·exact x i y O D
  ·have X:fE sp ((j*size:Nat):Int) (size:Int)=0:=by simpa using V
   have W:=z.space e2 G;have M:∀i,i<j->i*size+size<=sp.st.length:=λi hi=>by
    have:(i+1)*size<=j*size:=mu _ hi;rw[d];omega
   have C:=Td (sp:=sp) O hj hf X λi y K=>x i y K (M i K);have J:Hg A sp size=some ({A with st:=Hc A.st (j*size/16) (size/16),S:=Kf A.n A.S ((j*size:Nat):Int) size},gA sp ((j*size:Nat):Int) size):=by unfold Hg;rw[C]
   have Z:(j*size)%16=0:=by
    rcases h1 with rfl|rfl|rfl
    ·omega
    ·omega
    ·omega
   refine nz aB (cT (m:=j*size/16) (by rw[YO O];simp) O ?_);refine Qp (a:=bO) (λ(t:Int) w=>∃i:Nat,t=((j*size/16+i:Nat):Int)/\i<=size/16/\Ext (jd F H) U w/\W2 w F H Y {A with st:=Hc A.st (j*size/16) i} T (gA sp ((j*size:Nat):Int) size)) (λt _=>200-t.toNat)
    ⟨0,O,O,e.trans (es e2),W⟩ ?_
   rintro t w ⟨i,rfl,hi,ew,u⟩;refine cT (m:=j*size+size) O O (nz aB (cT (m:=(j*size+size)/16) (by rw[YO O];simp) O (cP (λhlt2=>?_) λhge2=>?_)))
   ·refine bL (u.a.hd.rP rfl (u.a.D8 _ λw2 t2 N E=>?_));refine cT (m:=j*size/16+(i+1)) O O ⟨⟨i+1,rfl,O,ew.trans (ea N),?_⟩,O⟩;rw[Iz];exact u.lY N E
   ·have Q:i=size/16:=by omega
    subst Q;refine bL (u.a.hd.rP rfl (u.a.xI _ _ λw2 t2 N E=>?_));exact hR _ _ J w2 (ew.trans (ea N)) (u.lY N E)
 ·have C:=Mb (sp:=sp) (size:=size) O λi y D=>by
   by_cases hij:i<j
   ·exact x i y hij D
   ·have:j*size<=i*size:=mu _ O;omega
  have J:Hg A sp size=none:=by unfold Hg;rw[C]
  exact h0 J v e z
theorem Nr {m a:Nat}(h1:1<=m)(h2:m<=64)(ha:a=1\/a=2\/a=4\/a=8\/a=16):Go.Bu.fO (m:Int) (a:Int)=true:=by
 have b:Go.Bu.fB (a:Int)=true:=by rcases ha with rfl|rfl|rfl|rfl|rfl<;>decide
 unfold Go.Bu.fO;rw[b];simp only[vW,zF,zV];omega
theorem W2.take (h:W2 U F H Y A T sp){m a:Nat}(hok:Go.Bu.fO (m:Int) (a:Int)=true){R:Int->Int->Hp->Prop}(h0:Zv A.n A.S m a=none->∀σ',Ext F U σ'->W2 σ' F H Y A T sp->R 0 6 σ')
 (h1:∀x,Zv A.n A.S m a=some x->x+m<=A.n->∀σ',Ext F U σ'->W2 σ' F H Y {A with S:=Go.Bu.take A.S x (x+m)} T sp->R (x:Int) 0 σ'):X1.c (aW Y.fr) (m:Int) (a:Int) U R:=by
 have b:Go.Bu.Bounded A.S A.n:=by obtain⟨r,p,i,_⟩:=h.a.free;exact i.jD
 refine h.a.wS _ _ λσ' e j=>?_;have d:=h.lY e j;cases ht:Zv A.n A.S m a with
 | none=>
  have e1:Go.Bu.jh A.n A.S (m:Int) (a:Int)=6:=by unfold Go.Bu.jh;rw[hok,zC rfl];simp only[dH];rw[ht]
  have e2:Go.Bu.jc A.n A.S (m:Int) (a:Int)=0:=by unfold Go.Bu.jc;rw[hok,zC rfl];simp only[dH];rw[ht]
  have g:Go.Bu.jb A.n A.S (m:Int) (a:Int)=A.S:=by unfold Go.Bu.jb;rw[hok,zC rfl];simp only[dH];rw[ht]
  rw[e1,e2];rw[g]at d;exact h0 ht σ' e d
 | some x=>
  have e1:Go.Bu.jh A.n A.S (m:Int) (a:Int)=0:=by unfold Go.Bu.jh;rw[hok,zC rfl];simp only[dH];rw[ht]
  have e2:Go.Bu.jc A.n A.S (m:Int) (a:Int)=x:=by unfold Go.Bu.jc;rw[hok,zC rfl];simp only[dH];rw[ht]
  have g:Go.Bu.jb A.n A.S (m:Int) (a:Int)=Go.Bu.take A.S x (x+m):=by unfold Go.Bu.jb;rw[hok,zC rfl];simp only[dH];rw[ht]
  rw[e1,e2];rw[g]at d;exact h1 x ht (Go.Bu.ld b ht).1 σ' e d
theorem Si {size:Nat}{A':AR}{sp':Sp}(h:Hg A sp size=some (A',sp')):A'.n=A.n:=by
 unfold Hg at h;split at h
 ·cases h
 ·cases h;rfl
def Fits (U:Hp)(F H F' H':Rg):Prop:=(∀b,F' b->Grow F U b)/\∀b,H' b->H b
theorem EG (h:W2 U F H Y A T sp){m a no:Nat}(h1:1<=m)(h2:m<=64)(ha:a=1\/a=2\/a=4\/a=8\/a=16)(hn1:1<=no)(hn2:no<=1000){R:Int->Int->Hp->Prop}
 (h0:(dC A sp m a no).1=none->∀σ',Ext (jd F H) U σ'->W2 σ' F H Y (dC A sp m a no).2.1 T (dC A sp m a no).2.2->R 0 6 σ')
 (hR:∀x,(dC A sp m a no).1=some x->x+m<=A.n->∀σ' F' H',Fits U F H F' H'->Ext (jd F H) U σ'->W2 σ' F' H' Y (dC A sp m a no).2.1 T (dC A sp m a no).2.2->R (x:Int) 0 σ') :
 YU.c (aW Y.p) (m:Int) (a:Int) (no:Int) U R:=by
 refine YU.o ?_;unfold YU.v;have G:=Nr h1 h2 ha;have es:∀{a b:Hp},Ext H a b->Ext (jd F H) a b:=λe=>e.sub λb j=>.inr j;have u:∀{a b:Hp},Ext F a b->Ext (jd F H) a b:=λe=>e.sub λb j=>.inl j;have fin:∀(v:Hp) (x:Nat) (A1:AR) (sp1:Sp),Ext (jd F H) U v->x+m<=A.n->W2 v F H Y {A1 with S:=Go.Bu.take A1.S x (x+m)} T sp1->dC A sp m a no=(some x,dS A1 x m no,sp1) →
  bW (some ⟨Y.p,0,none⟩) λX=>fY (X.add 3) v λW=>XP.c W (x:Int) (m:Int) v λt55 s=>bW (some ⟨Y.p,0,none⟩) λM=>fY (M.add 4) s λN=>Yn.c N (x:Int) (m:Int) (no:Int) s λt63 v3=>R (x:Int) 0 v3:=by
  intro v x A1 sp1 e hxm z y;have Z:x<=1000000:=by have:=h.a.lay.n2;omega
  refine bL (z.a.hd.rP rfl (z.a.Use _ _ λs t2 e2 aa=>?_));have g:=z.lY e2 aa;refine bL (g.a.hd.rP rfl (g.a.Set x m Z hn1 hn2 λv3 t3 e3 L=>?_));have P:=g.pS e3 L;refine hR x (by rw[y]) hxm v3 (Grow F s) (Cut H s) ⟨λb j=>?_,λb j=>j.1⟩ ((e.trans (u e2)).trans (u e3)) (by rw[y];exact P);rcases j with j|j
  ·exact .inl j
  ·exact .inr (kr (e.trans (u e2)).1 j)
 refine bL (h.a.hd.rP rfl (h.take G (λE v e z=>?_) λx E D v e z=>?_))
 ·refine Jn.intro (cF rfl ?_);have K:(if(a:Int)>(m:Int)then(a:Int)else(m:Int))=((max m a:Nat):Int):=by
   by_cases hgt:(a:Int)>(m:Int)
   ·rw[zC hgt];omega
   ·rw[zB hgt];omega
  rw[K];refine Qp (a:=bO) (λ(t:Int) w=>w=v/\(t=16\/t=32/\16<max m a\/t=64/\32<max m a)) (λt _=>100-t.toNat) ⟨rfl,.inl rfl⟩ ?_;rintro(t:Int) w ⟨rfl,hcase⟩;have ab:a<=16:=by omega
  refine cP (λhlt=>?_) λhge=>?_
  ·have:t=16\/t=32:=by omega
   rcases this with rfl|rfl
   ·exact ar O O ⟨⟨rfl,O⟩,by decide⟩
   ·exact ar O O ⟨⟨rfl,O⟩,by decide⟩
  ·have V:t=((Kz (max m a):Nat):Int):=by
    unfold Kz;by_cases c1:max m a<=16
    ·rw[zC c1];omega
    ·rw[zB c1];by_cases c2:max m a<=32
     ·rw[zC c2];omega
     ·rw[zB c2];omega
   subst V;have Q:Kz (max m a)=16\/Kz (max m a)=32\/Kz (max m a)=64:=by omega
   refine O5 z Q (λy σ' J r=>?_) λA' B y σ' J r=>?_
   ·have d:dC A sp m a no=(none,A,sp):=by unfold dC;rw[E];simp only;rw[y]
    exact cF rfl (h0 (by rw[d]) σ' ((u e).trans J) (by rw[d];exact r))
   ·refine cD rfl (bL (r.a.hd.rP rfl (r.take G (λC s e2 g=>?_) λx C D s e2 g=>?_)))
    ·have d:dC A sp m a no=(none,A',B):=by unfold dC;rw[E];simp only;rw[y];simp only;rw[C]
     exact cF rfl (h0 (by rw[d]) s (((u e).trans J).trans (u e2)) (by rw[d];exact g))
    ·have d:dC A sp m a no=(some x,dS A' x m no,B):=by unfold dC;rw[E];simp only;rw[y];simp only;rw[C]
     exact cD rfl (fin s x A' B (((u e).trans J).trans (u e2)) (by rw[←Si y];exact D) g d)
 ·have d:dC A sp m a no=(some x,dS A x m no,sp):=by unfold dC;rw[E]
  refine Jn.intro (cD rfl (cD rfl (fin v x A sp (u e) D z d)))
theorem Fits.refl:Fits U F H F H:=⟨λb a=>.inl a,λb a=>a⟩
theorem W2.mono {F' H':Rg}(h:W2 U F H Y A T sp)(hF:jf F')(hF2:∀b,b<U.size->F b->F' b)(hH:∀b,H' b->H b)(hH2:∀b,b<U.size->H b->H' b)(hd:∀b,F' b->¬H' b):W2 U F' H' Y A T sp:=
 ⟨h.a.mono hF2,dN.mono dO.loc h.s hH2,hd,h.g,hF,h.o2.sub hH⟩
theorem Pn (h:W2 U F H Y A T sp)(k:Int){R:aN}(hR:∀σ' F' H',Fits U F H F' H'->Ext (jd F H) U σ'->W2 σ' F' H' Y (cQ A sp k).1 T (cQ A sp k).2->R (Vv A sp k) σ') :
 Yj.c (aW Y.p) k U R:=by
 refine Yj.o ?_;unfold Yj.v;refine UK h.a k (λE=>?_) λx hx Q=>?_
 ·have e1:Vv A sp k=1:=by unfold Vv;rw[E];rfl
  have e2:cQ A sp k=(A,sp):=by unfold cQ;rw[E];rfl
  have:=hR U F H Fits.refl (Ext.refl _ _) (by rw[e2];exact h);rw[e1]at this;exact cF rfl this
 ·subst hx;have E:A.ck (x:Int)=true:=by unfold AR.ck;simp;omega
  obtain⟨c,S,q,t,r,J,z,hq,_,_,N⟩:=h.a.at_ Q;have ht2:=h.a.lay.r4;obtain⟨_,_,_,P,hp4,_⟩:=N;refine cD rfl (bL (h.a.hd.rS rfl (h.a.yj (d:=1) J O ?_)));simp only[zB (show ¬(1=0) by omega),zU];refine cT (m:=x+1) O O ?_;have Z:Vv A sp x=match (dC A sp c.aF 1 (x+1)).1 with
   | some y=>G3 c S y
   | none=>6:=by unfold Vv;rw[E,zC rfl];simp only[dH];rw[J,z];rfl
  have X:cQ A sp x=match dC A sp c.aF 1 (x+1)with
   | (some y,A',w)=>(if G3 c S y=0 then{A' with cG:=A'.cG.set x (ir c S y)}else A',w)
   | (none,A',w)=>(A',w):=by unfold cQ;rw[E,zC rfl];simp only[dH];rw[J,z];rfl
  refine EG (a:=1) h P O (.inl rfl) O O (λC σ' e u=>?_) λy C hyn σ' F' H' i e u=>?_
  ·have:=hR σ' F H Fits.refl e;rw[Z,X,C]at this;generalize dC A sp c.aF 1 (x+1)=g at *;obtain⟨g1,g2,g3⟩:=g;simp only at C;subst C;exact cF rfl (this u)
  ·have B:(dC A sp c.aF 1 (x+1)).2.1.tb=A.tb/\(dC A sp c.aF 1 (x+1)).2.1.cG=A.cG:=by
    unfold dC;split
    ·exact⟨rfl,rfl⟩
    ·split
     ·exact⟨rfl,rfl⟩
     ·rename_i A1 sp1 hga;have:A1.tb=A.tb/\A1.cG=A.cG:=by
       unfold Hg at hga;split at hga
       ·cases hga
       ·cases hga;exact⟨rfl,rfl⟩
      split
      ·exact this
      ·exact this
   have s:=λσ' F' H'=>hR σ' F' H';rw[Z,X]at s;generalize dC A sp c.aF 1 (x+1)=g at *;obtain⟨g1,A',w⟩:=g;simp only at C u B s;subst C;simp only at s;have hWc:=u;obtain⟨G,L,⟨ps,hC⟩,_,D⟩:=u.a.tH hq (by rw[B.1];exact J) (by rw[B.2];exact z);have hn2:=h.a.lay.n2;refine cD rfl (bL (u.a.hd.rS rfl (u.a.lX hq (Pe hC O (λh9 v e2=>?_) λW v ps' e2 K=>?_))))
   ·have:=s v F' H' i (e.gp e2) (by rw[h9];exact u.bP e2);rw[h9]at this;exact this
   ·have V:=D v _ _ (Grow G σ') _ e2 (λb j=>j) K (Gr L λb j=>j);have M:=u.pS (e2.sub L) V;have:=s v (Grow F' σ') (Cut H' σ') ⟨λb j=>?_,λb j=>i.2 b j.1⟩ (e.dW (e2.sub L) λb j=>?_) (by rw[W];exact M)
    ·rw[W]at this;exact this
    ·rcases j with j|j
     ·exact i.1 b j
     ·exact .inr (kr e.1 j)
    ·rcases i.1 b j with h1|h1
     ·exact .inl (.inl h1)
     ·exact .inr h1
theorem Gi (A:AR)(sp:Sp)(m a no:Nat):(dC A sp m a no).2.1.tb=A.tb/\(dC A sp m a no).2.1.cG=A.cG/\(dC A sp m a no).2.1.cR=A.cR/\(dC A sp m a no).2.1.room=A.room/\(dC A sp m a no).2.1.runs=A.runs/\(dC A sp m a no).2.1.n=A.n:=by
 unfold dC;split
 ·exact⟨rfl,rfl,rfl,rfl,rfl,rfl⟩
 ·split
  ·exact⟨rfl,rfl,rfl,rfl,rfl,rfl⟩
  ·rename_i A1 sp1 hga;have:A1.tb=A.tb/\A1.cG=A.cG/\A1.cR=A.cR/\A1.room=A.room/\A1.runs=A.runs/\A1.n=A.n:=by
    unfold Hg at hga;split at hga
    ·cases hga
    ·cases hga;exact⟨rfl,rfl,rfl,rfl,rfl,rfl⟩
   split
   ·exact this
   ·exact this
theorem PI:∀a:Nat,a<17->1<=a->((bits .and .i64 (a:Int) ((a:Int)-1) != 0) = !(a==1||(a==2||(a==4||(a==8||a==16))))):=by decide
theorem δ (h:W2 U F H Y A T sp)(m a:Int){R:Int->Int->Hp->Prop}(hR:∀σ' F' H',Fits U F H F' H'->Ext (jd F H) U σ'->W2 σ' F' H' Y (cC A sp m a).1 T (cC A sp m a).2->R ((Qy A sp m a:Nat):Int) (QZ A sp m a) σ') :
 Xa.c (aW Y.p) m a U R:=by
 refine Xa.o ?_;unfold Xa.v;have E:KM m a=false->R 0 1 U:=λu=>by
  have e1:QZ A sp m a=1:=by unfold QZ;rw[u];rfl
  have e2:cC A sp m a=(A,sp):=by unfold cC;rw[u];rfl
  have X:Qy A sp m a=0:=by unfold Qy;rw[u];rfl
  have:=hR U F H Fits.refl (Ext.refl _ _) (by rw[e2];exact h);rw[e1,X]at this;exact this
 have d:¬(1<=m/\m<=64/\(a=1\/a=2\/a=4\/a=8\/a=16))->R 0 1 U:=λhn=>E (by
  rw[←rW];intro hp;unfold KM at hp;simp at hp;omega)
 refine HU h.a (cD rfl (bX.intro (cP (λZ=>bX.intro (cF rfl (bX.intro (cF rfl (bX.intro (cF rfl (cF rfl (d O)))))))) λZ=>?_)));refine bX.intro (cP (λc2=>bX.intro (cF rfl (bX.intro (cF rfl (cF rfl (d O)))))) λc2=>?_);refine bX.intro (cP (λc3=>bX.intro (cF rfl (cF rfl (d O)))) λc3=>?_);refine bX.intro (cP (λc4=>cF rfl (d O)) λc4=>ar O O ?_);obtain⟨y,rfl⟩:=zc (show 0<=m by omega);obtain⟨z,rfl⟩:=zc (show 0<=a by omega);rw[PI z O O];refine cN (λK=>?_) λK=>?_
 ·refine d (λhh=>?_);simp at K;omega
 ·have V:z=1\/z=2\/z=4\/z=8\/z=16:=by
   simp at K;omega
  have u:KM (y:Int) (z:Int)=true:=by
   unfold KM;simp;omega
  have Q:QZ A sp y z=if(dC A sp y z 41).1.isSome then 0 else 6:=by unfold QZ;rw[u,zC rfl];rfl
  have S:Qy A sp y z=(dC A sp y z 41).1.getD 0:=by unfold Qy;rw[u,zC rfl];rfl
  have P:cC A sp y z=match dC A sp y z 41 with
   | (some x,A',j)=>({A' with runs:=cC.mset2 A'.runs x y},j)
   | (none,A',j)=>(A',j):=by unfold cC;rw[u,zC rfl];rfl
  refine EG (no:=41) h O O V O O (λB σ' e w=>?_) λx B hyn σ' F' H' s e w=>?_
  ·have:=hR σ' F H Fits.refl e;rw[Q,P,S,B]at this;generalize dC A sp y z 41=g at *;obtain⟨W,g2,g3⟩:=g;simp only at B;subst B;exact cF rfl (this w)
  ·have r:=λσ' F' H'=>hR σ' F' H';rw[Q,P,S]at r;generalize dC A sp y z 41=g at *;obtain⟨W,A',j⟩:=g;simp only at B w r;subst B;simp only at r;obtain⟨gr,hm,C⟩:=w.a.sN;refine cD rfl (bL (w.a.hd.rM rfl ⟨_,_,rfl,hm,λv N J=>?_⟩));have D:dK v Y.rn .i64 bO (dA (iR A'.runs) (x:Int) (y:Int)):=J;rw[Tm]at D;have M:=C v _ N D;have e2:Ext F' σ' v:=N.ext.sub λb L=>by subst L;exact gr
   have G:=w.lY e2 M;exact r v F' H' s (e.dW e2 λb L=>by
    rcases s.1 b L with h1|h1
    ·exact .inl (.inl h1)
    ·exact .inr h1) G
end Go.Ar
namespace Go.Proofs
open Go.Vc
set_option maxRecDepth 100000
end Go.Proofs
namespace Go.Ar
open Go Go.Vc Go.Proofs
variable {U:Hp}{Q:Rg}{key:Nat->Nat}
end Go.Ar
namespace Go.Ar
open Go Go.Vc Go.Proofs
variable {U:Hp}{F:Rg}{p q:Nat}{st:List Nat}
end Go.Ar
namespace Go.Ar
open Go Go.Vc Go.Proofs
open Go.Bu (Zx Kf Zv)
variable {U:Hp}{F H:Rg}{p hs:Nat}{A:AR}{sp:Sp}{Y:Lay}{T:Nat->Hp->Rg->Prop}
theorem dJ.cR (h:dJ U F Y A (cM A Y)){k q:Nat}{c:cA}{t:gQ}(h1:Y.gD[k]?=some q)(h2:A.tb[k]?=some c)(h3:A.cR[k]?=some t):∃G:Rg,(∀b,G b->F b)/\iV U G q c.batch A.room t:=by
 obtain⟨G,a,hi,_⟩:=h.tY h1 h2 h3;exact⟨G,a,hi⟩
def part {α:Type}(f:cA->α->Nat)(tb:List cA)(l:List α)(i:Nat):Nat:=(((tb.zip l).take i).map λx=>f x.1 x.2).sum
end Go.Ar
namespace Go.Ar
open Go Go.Vc Go.Proofs
variable {U:Hp}
theorem Ir:∀(xs:List (Int×Int×Int)),vY xs=true↔∀(i:Nat) a b,xs[i]?=some a->xs[i+1]?=some b->a.1<b.1
 | []=>by simp[vY]
 | [x]=>by simp[vY]
 | x::y::l=>by
  have ih:=Ir (y::l);show(decide (x.1<y.1)&&vY (y::l))=true↔_;rw[zF,ih,zV];constructor
  ·rintro⟨h1,h2⟩ i a b d g;cases i with
   | zero=>simp at d g;subst d;subst g;exact h1
   | succ i=>exact h2 i a b (by simpa using d) (by simpa using g)
  ·intro h;exact⟨h 0 x y rfl rfl,λi a b d g=>h (i+1) a b (by simpa using d) (by simpa using g)⟩
theorem QQ (xs:List (Int×Int×Int)):QU xs=true↔1<=xs.length/\xs.length<=40/\(∀(i:Nat) t,xs[i]?=some t->UM t.1 t.2.1 t.2.2=true)/\∀(i:Nat) a b,xs[i]?=some a->xs[i+1]?=some b->a.1<b.1:=by
 unfold QU;simp only[zF,zV,Ir,kx];constructor
 ·rintro⟨h1,h2,h3,h4⟩;exact⟨h1,h2,λi t d=>h3 t (zG d),h4⟩
 ·rintro⟨h1,h2,h3,h4⟩;exact⟨h1,h2,λt d=>by obtain⟨i,hi⟩:=zP d;exact h3 i t hi,h4⟩
theorem An {s:Sl}{xs:List (Int×Int×Int)}(ha:im U s xs){R:aO}(hR:∀σ',aG U σ'->R (QU xs) σ'):ZU.c s U R:=by
 refine ZU.o ?_;unfold ZU.v;have N:∀σ',aG U σ'->¬(1<=xs.length/\xs.length<=40/\(∀(i:Nat) t,xs[i]?=some t->UM t.1 t.2.1 t.2.2=true)/\∀(i:Nat) a b,xs[i]?=some a->xs[i+1]?=some b->a.1<b.1)->R false σ':=λσ' e hn=>by
  have:=hR σ' e;have hf:QU xs=false:=by rw[←rW,QQ];exact hn
  rw[hf]at this;exact this
 have V:=ha.1;refine bX.intro (cP (λc1=>cF rfl (N U (Ext.refl _ _) λh=>O)) λc1=>?_);refine cP (λc2=>N U (Ext.refl _ _) λh=>O) λc2=>?_;refine Qp (a:=bO) (λ(t:Int) v=>∃i:Nat,t=(i:Int)/\i<=xs.length/\aG U v/\(∀(j:Nat) t,j<i->xs[j]?=some t->UM t.1 t.2.1 t.2.2=true)/\∀(j:Nat) a b,j+1<i->xs[j]?=some a->xs[j+1]?=some b->a.1<b.1) (λt _=>xs.length-t.toNat)
  ⟨0,rfl,O,Ext.refl _ _,λj t h=>O,λj a b h=>O⟩ ?_
 rintro t v ⟨i,rfl,hi,e,Y,W⟩;have M:=Qm ha e;refine cP (λhlt=>?_) λhge=>?_
 ·have L:i<xs.length:=by omega
  have B:xs[i]?=some xs[i]:=cX L;generalize xs[i]=r at B;obtain⟨x,y,z⟩:=r;refine yY M B ?_;refine nw (cs:=[.int .i64 0,.int .i64 0,.int .i64 0]) λv2 hz2 e2 b2=>b2.s1 aA λv3 o3 b3=>b3.s1 aA λv4 o4 b4=>b4.s1 aA λv5 o5 J=>?_;have e5:aG v v5:=Ext.fresh (Ext.fresh (Ext.fresh e2 o3.ext λi hi=>O) o4.ext λi hi=>O) o5.ext λi hi=>by omega
  refine Jn.intro ⟨(· = v5),rfl,⟨x,λm G=>by rw[G,add_lit,J.cell];rfl,⟨y,λm G=>by rw[G,add_lit,J.cell];rfl,⟨z,λm G=>by rw[G,add_lit,J.cell];rfl,?_⟩⟩⟩⟩;refine E0 x y z λv7 Z=>?_;have w:=(Ext.trans e e5).trans Z;have C:(UM x y z=false\/∃a,0<i/\xs[i-1]?=some a/\x<=a.1)->R false v7:=λS=>N v7 w λK=>by
   rcases S with S|⟨a,H,hb1,hb2⟩
   ·have:=K.2.2.1 i _ B;simp only at this;rw[S]at this;cases this
   ·have:=K.2.2.2 (i-1) a (x,y,z) hb1 (by rw[show i-1+1=i by omega];exact B);simp only at this;omega
  cases hc:UM x y z
  ·exact cF rfl (cF rfl (C (.inl hc)))
  ·have next:(∀a,0<i->xs[i-1]?=some a->a.1<x)->Ar .i64 ((i:Int)+1) λg=>(∃i:Nat,g=(i:Int)/\i<=xs.length/\aG U v7/\(∀(j:Nat) t,j<i->xs[j]?=some t->UM t.1 t.2.1 t.2.2=true)/\∀(j:Nat) a b,j+1<i->xs[j]?=some a->xs[j+1]?=some b->a.1<b.1)/\xs.length-g.toNat<xs.length-(i:Int).toNat:=by
    intro H;refine cT (m:=i+1) O O ⟨⟨i+1,rfl,O,w,λj t hj A=>?_,λj a b hj p d=>?_⟩,O⟩
    ·by_cases hji:j=i
     ·subst hji;rw[B]at A;cases A;exact hc
     ·exact Y j t O A
    ·by_cases hji:j+1=i
     ·subst hji;rw[B]at d;cases d;exact H a O p
     ·exact W j a b O p d
   refine cD rfl (cP (λH=>?_) λH=>cD rfl (next λa kB=>O))
   have u:xs[i-1]?=some (xs[i-1]' O):=cX _;generalize xs[i-1]' O=r at u;obtain⟨P,y',z'⟩:=r;have F:=Qm ha w;obtain⟨b,o,g1,g2,g3,g4,g5⟩:=F.2 (i-1) P y' z' u;have X:=Z.bV J id;refine cT (m:=i-1) O O ?_;rw[g1];refine ix O O ?_;have D:cell v7 ⟨b,o+(((i-1:Nat):Int)).toNat*3+0,none⟩=some (.int .i64 P):=by simpa using g3
   have fin:If (decide (x<=P)) (R false v7) (Ar .i64 ((i:Int)+1) λg=>(∃i:Nat,g=(i:Int)/\i<=xs.length/\aG U v7/\(∀(j:Nat) t,j<i->xs[j]?=some t->UM t.1 t.2.1 t.2.2=true)/\∀(j:Nat) a b,j+1<i->xs[j]?=some a->xs[j+1]?=some b->a.1<b.1)/\xs.length-g.toNat<xs.length-(i:Int).toNat):=by
    refine cP (λQ=>C (.inr ⟨_,O,u,Q⟩)) λhgt=>next λa _ E=>?_
    rw[u]at E;cases E;simp only;omega
   rw[add_lit b o];exact⟨X.rI rfl (eB D fin),eB D (X.rI rfl fin)⟩
 ·have:i=xs.length:=by omega
  subst this;have K:QU xs=true:=(QQ xs).2 ⟨O,O,λi t A=>Y i t (cY.1 A).1 A,λi a b p d=>W i a b (cY.1 d).1 p d⟩;have:=hR v e;rw[K]at this;exact this
end Go.Ar
namespace Go.Ar
open Go Go.Vc Go.Proofs
open Go.Bu (Zx Kf Zv)
variable {U:Hp}{F H:Rg}{p hs:Nat}{A:AR}{sp:Sp}{Y:Lay}{T:Nat->Hp->Rg->Prop}
open Classical in
theorem _root_.Go.Vc.Sep.put {L:Type}{C C':L->Hp->Rg->Prop}{U:Hp}{F G:Rg}(hC:∀i,dN (C i))(h:Sep C U F)(i:L)(hd:∀b,G b->¬F b)(hj:∀j,j≠i->C' j=C j)(hi:C' i U G)(hL:dN (C' i)):Sep C' U λb=>F b\/G b:=by
 obtain⟨ρ,h⟩:=h;refine⟨λb=>if G b then i else ρ b,λj=>?_⟩
 by_cases hji:j=i
 ·subst hji;exact hL.mono hi λb _ d=>⟨.inr d,zC d⟩
 ·rw[hj j hji];refine(hC j).mono (h j) λb _ a=>⟨.inl a.1,?_⟩;show(if G b then i else ρ b)=j
  rw[zB λg=>hd b g a.1];exact a.2
def gH (A:AR)(Y:Lay)(T:Nat->Hp->Rg->Prop)(cs:List Value):Lb->Hp->Rg->Prop
 | .hd=>iD Y.p cs
 | i=>AC A Y T i
theorem gH.loc {cs:List Value}(hT:∀k,dN (T k)):∀i,dN (gH A Y T cs i)
 | .hd=>iD.loc _ _
 | .dF=>AC.loc (A:=A) (Y:=Y) hT .dF
 | .free=>AC.loc (A:=A) (Y:=Y) hT .free
 | .ot=>AC.loc (A:=A) (Y:=Y) hT .ot
 | .own=>AC.loc (A:=A) (Y:=Y) hT .own
 | .dQ=>AC.loc (A:=A) (Y:=Y) hT .dQ
 | .cS=>AC.loc (A:=A) (Y:=Y) hT .cS
 | .runs=>AC.loc (A:=A) (Y:=Y) hT .runs
 | .cG k=>AC.loc (A:=A) (Y:=Y) hT (.cG k)
 | .cR k=>AC.loc (A:=A) (Y:=Y) hT (.cR k)
theorem σ:gH A Y T (kW Y)=AC A Y T:=by
 funext i;cases i<;>rfl
theorem IW {cs:List Value}(hT:∀k,dN (T k))(h:Sep (gH A Y T cs) U F)(hlen:A.cG.length<=Y.fL.length)(hl:Y.fL.length<=40){vb cp ty:Nat}(hb:bZ U vb [.pointer (some ⟨cp,0,none⟩)])(hvb:¬F vb){K:Sl->Hp->Prop}
 (hK:∀s' σ',Ext F U σ'->Sep (gH A {Y with dQ:=s',fL:=Y.fL++[cp]} T cs) σ' (Grow F U)->K s' σ'):App Y.dQ 1 8 ty [.pointer none] ⟨some ⟨vb,0,none⟩,1,1⟩ U K:=by
 obtain⟨G,d,hi,_,a⟩:=h.j3 (gH.loc hT) .dQ;have hi:bS Y.dQ 1 (fR Y.fL) U G:=hi;have m:Y.dQ.len=Y.fL.length:=by have:=hi.1;simp[fR]at this;omega
 refine hi.app (ys:=[.pointer (some ⟨cp,0,none⟩)]) rfl rfl ?_ (by simp[dU]) aC aC nu λs' σ' g e i=>hK s' σ' (e.sub d) ?_
 ·intro j u hu;rw[add_lit,zH,hb.cell];exact hu
 refine(Sep.loc (gH.loc hT)).mono (a σ' (gH A {Y with dQ:=s',fL:=Y.fL++[cp]} T cs) (Grow G U) (λj p=>?_) e (λb hb=>hb) ?_ (gH.loc hT _)) λb _ hb=>Gr d (λb hb=>hb) b hb
 ·cases j<;>first|rfl|exact absurd rfl p|skip
  rename_i k;show j7 (Y.fL++[cp])[k]? A.tb[k]? A.cG[k]?=j7 Y.fL[k]? A.tb[k]? A.cG[k]?;rcases kg k Y.fL.length with h1|h1
  ·rw[zd h1]
  ·have:A.cG[k]?=none:=zX O;rw[this]
   funext U F
   unfold j7;cases(Y.fL++[cp])[k]?<;>cases Y.fL[k]?<;>cases A.tb[k]?<;>rfl
 ·show bS s' 1 (fR (Y.fL++[cp])) σ' (Grow G U);have:fR (Y.fL++[cp])=fR Y.fL++[.pointer (some ⟨cp,0,none⟩)]:=by simp[fR]
  rw[this];exact i
theorem OH (hlen:A.cR.length<=Y.gD.length)(tp:Nat)(s':Sl):cM A {Y with cS:=s',gD:=Y.gD++[tp]}=cM A Y:=by
 funext k
 unfold cM;simp only;rcases kg k Y.gD.length with h1|h1
 ·rw[zd h1]
 ·have:A.cR[k]?=none:=zX O;rw[this]
  funext U F
  unfold lp;cases(Y.gD++[tp])[k]?<;>cases Y.gD[k]?<;>cases A.tb[k]?<;>rfl
theorem Jp {cs:List Value}(h:Sep (gH A Y (cM A Y) cs) U F)(hlen:A.cR.length<=Y.gD.length)(hl:Y.gD.length<=40){vb tp ty:Nat}(hb:bZ U vb [.pointer (some ⟨tp,0,none⟩)])(hvb:¬F vb){K:Sl->Hp->Prop}
 (hK:∀s' σ',Ext F U σ'->Sep (gH A {Y with cS:=s',gD:=Y.gD++[tp]} (cM A {Y with cS:=s',gD:=Y.gD++[tp]}) cs) σ' (Grow F U)->K s' σ'):App Y.cS 1 8 ty [.pointer none] ⟨some ⟨vb,0,none⟩,1,1⟩ U K:=by
 have d:∀k,dN (cM A Y k):=λk=>cM.loc k;obtain⟨G,g,hi,_,a⟩:=h.j3 (gH.loc d) .cS;have hi:bS Y.cS 1 (fR Y.gD) U G:=hi;have i:Y.cS.len=Y.gD.length:=by have:=hi.1;simp[fR]at this;omega
 refine hi.app (ys:=[.pointer (some ⟨tp,0,none⟩)]) rfl rfl ?_ (by simp[dU]) aC aC nu λs' σ' m e p=>hK s' σ' (e.sub g) ?_
 ·intro j u hu;rw[add_lit,zH,hb.cell];exact hu
 rw[OH hlen];refine(Sep.loc (gH.loc d)).mono (a σ' (gH A {Y with cS:=s',gD:=Y.gD++[tp]} (cM A Y) cs) (Grow G U) (λj r=>?_) e (λb hb=>hb) ?_ (gH.loc d _)) λb _ hb=>Gr g (λb hb=>hb) b hb
 ·cases j<;>first|rfl|exact absurd rfl r
 ·show bS s' 1 (fR (Y.gD++[tp])) σ' (Grow G U);have:fR (Y.gD++[tp])=fR Y.gD++[.pointer (some ⟨tp,0,none⟩)]:=by simp[fR]
  rw[this];exact p
theorem Ls {cs:List Value}(hT:∀k,dN (T k))(h:Sep (gH A Y T cs) U F){i:Nat}{v:Value}(hi:i<cs.length){K:aP}(hK:∀σ',Ext F U σ'->Sep (gH A Y T (cs.set i v)) σ' F->K σ'):dZ (Addr.add ⟨Y.p,0,none⟩ i) v U K:=by
 obtain⟨G,m,d,_,g⟩:=h.j3 (gH.loc hT) .hd;have d:iD Y.p cs U G:=d;refine d.2.s1 O λσ' o b=>hK σ' (o.ext.sub λb a=>by subst a;exact m _ d.1) ?_;rw[zH]at b;refine(Sep.loc (gH.loc hT)).mono (g σ' (gH A Y T (cs.set i v)) G (λj r=>?_) (o.ext.sub λb a=>by subst a;exact d.1) (λb a=>.inl a) ⟨d.1,b⟩ (gH.loc hT _)) λb _ a=>A9 m (λb a=>a) b a;cases j<;>first|rfl|exact absurd rfl r
theorem mZ {cs:List Value}(h:Sep (gH A Y T cs) U F):bZ U Y.p cs/\F Y.p:=by
 obtain⟨G,b,a,d⟩:=h.get .hd;exact⟨d,b _ a⟩
theorem Sg {cs:List Value}{i cp tp:Nat}{c:cA}{ss:List cH}{t:gQ}{ps:List (Nat×Nat)}{Gc Gt:Rg}(h:Sep (gH A Y (cM A Y) cs) U F)(hlc:A.cG.length=i)(hlt:A.cR.length=i)(hcp:Y.fL[i]?=some cp)(htp:Y.gD[i]?=some tp)(hc:A.tb[i]?=some c)
 (hC:fH U Gc cp c ps ss) (hTf:iV U Gt tp c.batch A.room t) (d1:∀b,Gc b->¬F b) (d2:∀b,Gt b->¬F b) (d3:∀b,Gc b->¬Gt b) :
 Sep (gH {A with cG:=A.cG++[ss],cR:=A.cR++[t]} Y (cM {A with cG:=A.cG++[ss],cR:=A.cR++[t]} Y) cs) U λb=>(F b\/Gc b)\/Gt b:=by
 have p:∀k,dN (cM A Y k):=λk=>cM.loc k;have u:Sep (gH {A with cG:=A.cG++[ss]} Y (cM A Y) cs) U λb=>F b\/Gc b:=by
  refine h.put (gH.loc p) (.cG i) d1 (λj r=>?_) ?_ (gH.loc p _)
  ·cases j<;>first|rfl|skip
   rename_i k;have d:k≠i:=λe=>r (by rw[e]);show j7 Y.fL[k]? A.tb[k]? (A.cG++[ss])[k]?=j7 Y.fL[k]? A.tb[k]? A.cG[k]?;rcases kg k i with h2|h2
   ·rw[zd O]
   ·have m:(A.cG++[ss])[k]?=none:=zX (by rw[zK,rG];omega);have g:A.cG[k]?=none:=zX O;rw[m,g]
  ·show j7 Y.fL[i]? A.tb[i]? (A.cG++[ss])[i]? U Gc;rw[hcp,hc,zp O,hlc,oQ];exact⟨ps,hC⟩
 refine u.put (gH.loc p) (.cR i) (λb s a=>?_) (λj r=>?_) ?_ (gH.loc (λk=>cM.loc k) _)
 ·rcases a with a|a
  ·exact d2 b s a
  ·exact d3 b a s
 ·cases j<;>first|rfl|skip
  rename_i k;have d:k≠i:=λe=>r (by rw[e]);show lp Y.gD[k]? A.tb[k]? A.room (A.cR++[t])[k]?=lp Y.gD[k]? A.tb[k]? A.room A.cR[k]?;rcases kg k i with h2|h2
  ·rw[zd O]
  ·have m:(A.cR++[t])[k]?=none:=zX (by rw[zK,rG];omega);have g:A.cR[k]?=none:=zX O;rw[m,g]
 ·show lp Y.gD[i]? A.tb[i]? A.room (A.cR++[t])[i]? U Gt;rw[htp,hc,zp O,hlt,oQ];exact hTf
open Classical in
noncomputable def jI {L:Type}(C:L->Hp->Rg->Prop)(S:L->Prop)(i:L):Hp->Rg->Prop:=if S i then C i else yX
theorem jI.loc {L:Type}{C:L->Hp->Rg->Prop}{S:L->Prop}(hC:∀i,dN (C i))(i:L):dN (jI C S i):=by
 unfold jI;split
 ·exact hC i
 ·exact yX.loc
theorem jI.put {L:Type}{C:L->Hp->Rg->Prop}{S:L->Prop}{F G:Rg}(hC:∀i,dN (C i))(h:Sep (jI C S) U F)(i:L)(hd:∀b,G b->¬F b)(hi:C i U G):Sep (jI C λj=>S j\/j=i) U λb=>F b\/G b:=by
 refine h.put (jI.loc hC) i hd (λj a=>?_) ?_ (jI.loc hC i)
 ·unfold jI;by_cases hS:S j
  ·rw[zC (.inl hS),zC hS]
  ·rw[zB (λh=>hS (h.resolve_right a)),zB hS]
 ·unfold jI;rw[zC (.inr rfl)];exact hi
theorem jI.all {L:Type}{C:L->Hp->Rg->Prop}{S:L->Prop}{F:Rg}(h:Sep (jI C S) U F)(hS:∀i,S i):Sep C U F:=by
 have:jI C S=C:=by
  funext i;unfold jI;rw[zC (hS i)]
 rw[this]at h;exact h
theorem jI.one {L:Type}{C:L->Hp->Rg->Prop}(S:L->Prop)(l:L)(h:∀i,S i->C i U λ_=>False):Sep (jI C S) U λ_=>False:=by
 refine⟨λ_=>l,λi=>?_⟩;have:(λ(b:Nat)=>False/\l=i)=λ_=>False:=by funext b;simp
 rw[this];unfold jI;by_cases hS:S i
 ·rw[zC hS];exact h i hS
 ·rw[zB hS];trivial
theorem T9 {tb:List cA}:∀v∈gJ tb,dU v=true:=by
 intro v hv;simp only[gJ,List.mem_flatMap]at hv;obtain⟨c,_,a⟩:=hv;simp at a;rcases a with rfl|rfl|rfl<;>rfl
theorem HA {s:Sl}{xs:List (Int×Int×Int)}(ha:im U s xs)(hv:QU xs=true){i:Nat}{c:cA}(hc:(xs.map QE)[i]?=some c):xs[i]?=some ((c.size:Int),(c.aF:Int),(c.batch:Int))/\c.ok:=by
 rw[za,od]at hc;obtain⟨⟨x,y,z⟩,j,rfl⟩:=hc;obtain⟨c,a,m,b,g,d⟩:=A0 (((QQ xs).1 hv).2.2.1 i _ j);simp only at b g d;rw[m,j,b,g,d];exact⟨rfl,a⟩
theorem Ul {s:Sl}{xs:List (Int×Int×Int)}(ha:im U s xs)(hv:QU xs=true){R:Sl->Hp->Prop}(hR:∀s' σ',aG U σ'->cV s' 3 (gJ (xs.map QE)) σ' (λb=>U.size<=b)->R s' σ'):Wn.c s U R:=by
 refine Wn.o ?_;unfold Wn.v;have C:=(QQ xs).1 hv;have y:=ha.1;have p:0<(xs.map QE).length:=by rw[zj];omega
 have A:(xs.map QE)[0]?=some (xs.map QE)[0]:=cX p;obtain⟨L,d,a,_⟩:=ha.2 0 _ _ _ (HA ha hv A).1;refine cD (by rw[a];rfl) (nw (cs:=[]) λv F e1 B=>?_);have r:=Qm ha e1;refine(bS.nil v (λb=>U.size<=b) 3 (some ⟨U.size,0,none⟩)).app (ys:=gJ (xs.map QE)) rfl (by rw[Uq,zj];omega) ?_ T9 aC aC O λs' J E D g=>hR s' J (Ext.fresh e1 D λi hi=>hi) ?_
 ·rw[a];intro j u hu;have x:=(cY.1 hu).1;rw[Uq,zj]at x;have hi:j/3<(xs.map QE).length:=by rw[zj];omega
  have w:(xs.map QE)[j/3]?=some (xs.map QE)[j/3]:=cX hi;generalize (xs.map QE)[j/3]=c at w;have m:=yC w;obtain⟨b,o,z,_,G,K,H⟩:=r.2 (j/3) _ _ _ (HA ha hv w).1;rw[a]at z;cases z;rw[add_lit];rcases(by omega:j=3*(j/3)\/j=3*(j/3)+1\/j=3*(j/3)+2)with hj|hj|hj
  ·rw[hj]at hu;rw[m.1]at hu;cases hu;rw[show d+j=d+j/3*3 by omega];exact G
  ·rw[hj]at hu;rw[m.2.1]at hu;cases hu;rw[show d+j=d+j/3*3+1 by omega];exact K
  ·rw[hj]at hu;rw[m.2.2]at hu;cases hu;rw[show d+j=d+j/3*3+2 by omega];exact H
 ·rw[tu]at g;refine aH.mono g.fW λb _ m=>?_;rcases m with h|h
  ·exact h
  ·omega
def fG (n room:Nat)(tb:List cA):AR:={n:=n,room:=room,tb:=tb,S:=Go.Bu.iz,st:=List.replicate n 0,ow:=λ_=>0,cG:=List.replicate tb.length [],cR:=List.replicate tb.length ⟨0,[]⟩,runs:=[]}
def jt (n room:Nat)(tb:List cA)(i:Nat):AR:={fG n room tb with cG:=List.replicate i [],cR:=List.replicate i ⟨0,[]⟩}
def lg (xs:List (Int×Int×Int))(n:Nat)(room:Int):Int:=if QU xs then(if 32<=n/\n%16=0/\0<=room/\room<=8 then 0 else 1)else 2
def S0:Lb->Prop
 | .dQ | .cS | .cG _ | .cR _=>True
 | _=>False
theorem I3 {i cp tp:Nat}{c:cA}{ss:List cH}{t:gQ}{ps:List (Nat×Nat)}{Gc Gt:Rg}{dQ cS:Sl}(hpos:Y.fL.length=i/\Y.gD.length=i)
 (h:Sep (gH A {Y with dQ:=dQ,cS:=cS,fL:=Y.fL++[cp],gD:=Y.gD++[tp]} (cM A {Y with dQ:=dQ,cS:=cS,fL:=Y.fL++[cp],gD:=Y.gD++[tp]}) (kW Y)) U F)
 (hlc:A.cG.length=i) (hlt:A.cR.length=i) (hc:A.tb[i]?=some c) (hC:fH U Gc cp c ps ss) (hTf:iV U Gt tp c.batch A.room t) (d1:∀b,Gc b->¬F b) (d2:∀b,Gt b->¬F b) (d3:∀b,Gc b->¬Gt b) {K:aP}
 (hK:∀σ' Y',Ext F U σ'->Y'.p=Y.p->Y'.hs=Y.hs->Y'.fL.length=i+1->Y'.gD.length=i+1->Sep (gH {A with cG:=A.cG++[ss],cR:=A.cR++[t]} Y' (cM {A with cG:=A.cG++[ss],cR:=A.cR++[t]} Y') (kW Y')) σ' (λb=>(F b\/Gc b)\/Gt b)->K σ') :
 bW (some ⟨Y.p,0,none⟩) λa93=>dZ (a93.add 5) (.slice dQ.a dQ.len dQ.cap) U λv25=>bW (some ⟨Y.p,0,none⟩) λa95=>dZ (a95.add 6) (.slice cS.a cS.len cS.cap) v25 K:=by
 have r:∀k,dN (cM A {Y with dQ:=dQ,cS:=cS,fL:=Y.fL++[cp],gD:=Y.gD++[tp]} k):=λk=>cM.loc k;refine bL (Ls (Y:={Y with dQ:=dQ,cS:=cS,fL:=Y.fL++[cp],gD:=Y.gD++[tp]}) r h (i:=5) (by simp[kW]) λy e1 w=>bL (Ls (Y:={Y with dQ:=dQ,cS:=cS,fL:=Y.fL++[cp],gD:=Y.gD++[tp]}) r w (i:=6) (by simp[kW]) λx e2 u=>?_));have m:=(fH.loc (c:=c) (ps:=ps) (ss:=ss) (p:=cp)).bT ((fH.loc (c:=c) (ps:=ps) (ss:=ss) (p:=cp)).bT hC e1 λb _ g d=>d1 b g d) e2 λb _ g d=>d1 b g d;have j:=(iV.loc (p:=tp) (batch:=c.batch) (room:=A.room) (t:=t)).bT ((iV.loc (p:=tp) (batch:=c.batch) (room:=A.room) (t:=t)).bT hTf e1 λb _ g d=>d2 b g d) e2 λb _ g d=>d2 b g d;have s:=Sg (cp:=cp) (tp:=tp) u hlc hlt (by simp only;rw[zp O,hpos.1,oQ];rfl) (by simp only;rw[zp O,hpos.2,oQ];rfl) hc m j d1 d2 d3;exact hK x {Y with dQ:=dQ,cS:=cS,fL:=Y.fL++[cp],gD:=Y.gD++[tp]} (e1.trans e2) rfl rfl (by simp[hpos.1]) (by simp[hpos.2]) s
theorem qZ {cs:List Value}{σ':Hp}(hT:∀k,dN (T k))(h:Sep (gH A Y T cs) U F)(e:aG U σ'):Sep (gH A Y T cs) σ' F:=(Sep.loc (gH.loc hT)).bP h e
theorem Fm {cs:List Value}(hT:∀k,dN (T k))(h:Sep (gH A Y T cs) U F):Sep (gH A Y T cs) U (Cut F U):=(Sep.loc (gH.loc hT)).cut h
theorem LV (n room:Nat)(tb:List cA)(i:Nat):({jt n room tb i with cG:=(jt n room tb i).cG++[[]],cR:=(jt n room tb i).cR++[⟨0,[]⟩]}:AR)=jt n room tb (i+1):=by
 unfold jt;simp only[←CS]
theorem LU (n room:Nat)(tb:List cA):jt n room tb tb.length=fG n room tb:=rfl
theorem Nx {i cp tp:Nat}{c:cA}{ss:List cH}{t:gQ}{ps:List (Nat×Nat)}{Gc Gt:Rg}{z:Nat}(hF:∀b,F b->z<=b/\b<U.size)(hpos:Y.fL.length=i/\Y.gD.length=i)(hi:i<40)
 (h:Sep (gH A Y (cM A Y) (kW Y)) U F) (hlc:A.cG.length=i) (hlt:A.cR.length=i) (hc:A.tb[i]?=some c) (hC:fH U Gc cp c ps ss) (hTf:iV U Gt tp c.batch A.room t) (d1:∀b,Gc b->¬F b/\z<=b/\b<U.size) (d2:∀b,Gt b->¬F b/\z<=b/\b<U.size) (d3:∀b,Gc b->¬Gt b) {J4:aP}
 (hK:∀σ' Y',Ext F U σ'->Y'.p=Y.p->Y'.hs=Y.hs->Y'.fL.length=i+1->Y'.gD.length=i+1->Sep (gH {A with cG:=A.cG++[ss],cR:=A.cR++[t]} Y' (cM {A with cG:=A.cG++[ss],cR:=A.cR++[t]} Y') (kW Y')) σ' (λb=>z<=b)->J4 σ') :
 dV U λS=>bW (some ⟨Y.p,0,none⟩) λa80=>gK S .s (a80.add 5) λ(t82:Sl)=>bW (some ⟨Y.p,0,none⟩) λa87=>gK S .s (a87.add 6) λ(t89:Sl)=>
  (Nw (.cells #[.pointer (some ⟨cp,0,none⟩)] 202 (0,0)) U λn84 v21=>And (S v21) <|
   (App t82 1 8 202 [.pointer none] ⟨some n84,1,1⟩ v21 λt85 v22=>And (S v22)<|Nw (.cells #[.pointer (some ⟨tp,0,none⟩)] 204 (0,0)) v22 λn91 v23=>And (S v23)<|App t89 1 8 204 [.pointer none] ⟨some n91,1,1⟩ v23 λt92 v24=>And (S v24) <|
   bW (some ⟨Y.p,0,none⟩) λa93=>dZ (a93.add 5) (.slice t85.a t85.len t85.cap) v24 λv25=>bW (some ⟨Y.p,0,none⟩) λa95=>dZ (a95.add 6) (.slice t92.a t92.len t92.cap) v25 λv26=>J4 v26) ∧
   (Nw (.cells #[.pointer (some ⟨tp,0,none⟩)] 204 (0,0)) v21 λn911 v27=>And (S v27)<|App t82 1 8 202 [.pointer none] ⟨some n84,1,1⟩ v27 λt851 v28=>And (S v28)<|App t89 1 8 204 [.pointer none] ⟨some n911,1,1⟩ v28 λt921 v29=>And (S v29) <|
   bW (some ⟨Y.p,0,none⟩) λa931=>dZ (a931.add 5) (.slice t851.a t851.len t851.cap) v29 λv30=>bW (some ⟨Y.p,0,none⟩) λa951=>dZ (a951.add 6) (.slice t921.a t921.len t921.cap) v30 λv31=>J4 v31)) ∧
  (Nw (.cells #[.pointer (some ⟨tp,0,none⟩)] 204 (0,0)) U λn912 v32=>And (S v32)<|Nw (.cells #[.pointer (some ⟨cp,0,none⟩)] 202 (0,0)) v32 λn841 v33=>And (S v33) <|
  App t82 1 8 202 [.pointer none] ⟨some n841,1,1⟩ v33 λt852 v34=>And (S v34)<|App t89 1 8 204 [.pointer none] ⟨some n912,1,1⟩ v34 λt922 v35=>And (S v35) <|
  bW (some ⟨Y.p,0,none⟩) λa932=>dZ (a932.add 5) (.slice t852.a t852.len t852.cap) v35 λv36=>bW (some ⟨Y.p,0,none⟩) λa952=>dZ (a952.add 6) (.slice t922.a t922.len t922.cap) v36 λv37=>J4 v37):=by
 have J:∀k,dN (cM A Y k):=λk=>cM.loc k;have ae:=fH.loc (c:=c) (ps:=ps) (ss:=ss) (p:=cp);have Z:=iV.loc (p:=tp) (batch:=c.batch) (room:=A.room) (t:=t);refine⟨λm=>bZ m Y.p (kW Y),(mZ h).1,bL ⟨Y.dQ,λm hm=>by rw[add_lit,hm.cell];rfl,bL ⟨Y.cS,λm hm=>by rw[add_lit,hm.cell];rfl,?_⟩⟩⟩;have D:∀(w:Hp) (F1:Rg) (b1 b2:Nat),aG U w->(∀b,F1 b->F b)->Sep (gH A Y (cM A Y) (kW Y)) w F1->bZ w b1 [.pointer (some ⟨cp,0,none⟩)]->bZ w b2 [.pointer (some ⟨tp,0,none⟩)]->U.size<=b1->U.size<=b2 →
  App Y.dQ 1 8 202 [.pointer none] ⟨some ⟨b1,0,none⟩,1,1⟩ w λt85 v28=>And (bZ v28 Y.p (kW Y))<|App Y.cS 1 8 204 [.pointer none] ⟨some ⟨b2,0,none⟩,1,1⟩ v28 λt92 v29=>And (bZ v29 Y.p (kW Y)) <|
   bW (some ⟨Y.p,0,none⟩) λa93=>dZ (a93.add 5) (.slice t85.a t85.len t85.cap) v29 λv30=>bW (some ⟨Y.p,0,none⟩) λa95=>dZ (a95.add 6) (.slice t92.a t92.len t92.cap) v30 λv31=>J4 v31:=by
  intro w F1 b1 b2 ew hF1 hw hb1 hb2 hz1 hz2;have x:∀b,F1 b->z<=b/\b<U.size:=λb d=>hF b (hF1 b d);have hsw:=ew.1;refine IW J hw O O hb1 (λg=>by have:=x _ g;omega) λs1 v28 G K=>?_;have X:=(mZ K).1;have P:Sep (gH A {Y with dQ:=s1,fL:=Y.fL++[cp]} (cM A {Y with dQ:=s1,fL:=Y.fL++[cp]}) (kW Y)) v28 (Grow F1 w):=K;refine⟨X,?_⟩;have c28:Sep (gH A {Y with dQ:=s1,fL:=Y.fL++[cp]} (cM A {Y with dQ:=s1,fL:=Y.fL++[cp]}) (kW Y)) v28 (λb=>F1 b\/w.size<=b):=P;have ab:=G.bV hb2 λg=>by have:=x _ g;omega
  have hb2lt:=hb2.lt;refine Jp c28 aC aC ab (λg=>by
   rcases g with g|g
   ·have:=x _ g;omega
   ·omega) λs2 v29 e29 af=>?_
  refine⟨(mZ af).1,?_⟩;have E:∀b,(F1 b\/w.size<=b)->F b\/U.size<=b:=λb d=>by
   rcases d with d|d
   ·exact .inl (hF1 b d)
   ·exact .inr O
  have j:Ext F U v29:=((aG.to ew).trans (G.sub hF1)).dW e29 E;have N:=ae.bT hC j λb _ d g=>(d1 b d).1 g;have V:=Z.bT hTf j λb _ d g=>(d2 b d).1 g;have hs28:=G.1;refine I3 (F:=Grow (λb=>F1 b\/w.size<=b) v28) hpos af hlc hlt hc N V (λb d g=>?_) (λb d g=>?_) d3 λw2 Y' e2 p1 p2 p3 p4 h2=>?_
  ·have:=d1 b d;rcases g with(g|g)|g
   ·exact this.1 (hF1 b g)
   ·omega
   ·omega
  ·have:=d2 b d;rcases g with(g|g)|g
   ·exact this.1 (hF1 b g)
   ·omega
   ·omega
  ·refine hK w2 Y' (j.dW e2 λb d=>?_) p1 p2 p3 p4 ((Sep.loc (gH.loc (λk=>cM.loc k))).mono h2 λb _ d=>?_)
   ·rcases d with(d|d)|d
    ·exact .inl (hF1 b d)
    ·exact .inr O
    ·exact .inr O
   ·have hz0:z<=U.size:=by have:=(d1 _ hC.fp);omega
    rcases d with(((d|d)|d)|d)|d
    ·exact(x b d).1
    ·omega
    ·omega
    ·exact(d1 b d).2.1
    ·exact(d2 b d).2.1
 have S0:∀{w:Hp},aG U w->bZ w Y.p (kW Y):=λe=>e.bV (mZ h).1 id;refine⟨nw (cs:=[.pointer (some ⟨cp,0,none⟩)]) λv21 z21 u aa=>⟨S0 u,?_,?_⟩,nw (cs:=[.pointer (some ⟨tp,0,none⟩)]) λv32 z32 B b32=>⟨S0 B,nw (cs:=[.pointer (some ⟨cp,0,none⟩)]) λv33 z33 y b33=>⟨S0 (Ext.trans B y),?_⟩⟩⟩
 ·-- row,box,row
  have ag:=qZ J h u;refine IW J ag O O aa (λg=>by have:=hF _ g;omega) λs1 v22 ad L=>⟨(mZ L).1,?_⟩;have Q:Sep (gH A {Y with dQ:=s1,fL:=Y.fL++[cp]} (cM A {Y with dQ:=s1,fL:=Y.fL++[cp]}) (kW Y)) v22 (Grow F v21):=L;have c22:=Fm (λk=>cM.loc k) Q;refine nw (cs:=[.pointer (some ⟨tp,0,none⟩)]) λv23 z23 H b23=>?_;have W:=qZ (λk=>cM.loc k) c22 H;refine⟨(mZ W).1,Jp W aC aC b23 (λg=>by have:=g.2;omega) λs2 v24 e24 ac=>⟨(mZ ac).1,?_⟩⟩;have hs22:=ad.1;have hs23:=H.1;have r:∀b,Cut (Grow F v21) v22 b->F b\/U.size<=b:=λb d=>by
   rcases d.1 with h|h
   ·exact .inl h
   ·exact .inr O
  have j:Ext F U v24:=((((aG.to u).trans ad).gp H)).dW e24 r;have M:=ae.bT hC j λb _ d g=>(d1 b d).1 g;have R:=Z.bT hTf j λb _ d g=>(d2 b d).1 g;refine I3 (F:=Grow (Cut (Grow F v21) v22) v23) hpos ac hlc hlt hc M R (λb d g=>?_) (λb d g=>?_) d3 λw2 Y' e2 p1 p2 p3 p4 h2=>?_
  ·have:=d1 b d;rcases g with g|g
   ·rcases g.1 with g|g
    ·exact this.1 g
    ·omega
   ·omega
  ·have:=d2 b d;rcases g with g|g
   ·rcases g.1 with g|g
    ·exact this.1 g
    ·omega
   ·omega
  ·refine hK w2 Y' (j.dW e2 λb d=>?_) p1 p2 p3 p4 ((Sep.loc (gH.loc (λk=>cM.loc k))).mono h2 λb _ d=>?_)
   ·rcases d with d|d
    ·exact r b d
    ·exact .inr O
   ·have hz0:z<=U.size:=by have:=(d1 _ hC.fp);omega
    rcases d with((d|d)|d)|d
    ·rcases r b d with h|h
     ·exact(hF b h).1
     ·omega
    ·omega
    ·exact(d1 b d).2.1
    ·exact(d2 b d).2.1
 ·-- box,row,row
  refine nw (cs:=[.pointer (some ⟨tp,0,none⟩)]) λv27 z27 C b27=>⟨S0 (Ext.trans u C),?_⟩;exact D v27 F U.size v21.size (Ext.trans u C) (λb d=>d) (qZ J (qZ J h u) C) (C.bV aa id) b27 (zD _) O
 ·exact D v33 F v32.size U.size (Ext.trans B y) (λb d=>d) (qZ J (qZ J h B) y) b33 (y.bV b32 id) O (zD _)
theorem yZ {P:Hp->Rg->Prop}(hl:dN P){a:Nat}(h:P U λb=>a<=b):P U λb=>a<=b/\b<U.size:=hl.mono h λb g d=>⟨d,g⟩
theorem ξ {n room:Nat}{tb:List cA}(h1:32<=n)(h2:n<=1024)(h3:n%16=0)(h4:room<=8)(h5:1<=tb.length)(h6:tb.length<=40)(h7:∀c∈tb,c.ok)(hc:Y.fL.length=tb.length)(ht:Y.gD.length=tb.length):fC (fG n room tb) Y:=
 ⟨hc,ht,by simp[fG],by simp[fG],h5,h6,h1,h2,h3,by simp[fG],h4,h7⟩
theorem Pk {s:Sl}{xs:List (Int×Int×Int)}(ha:im U s xs)(hS:dO U H hs sp)(room:Int){R:Option Addr->Int->Hp->Prop}
 (h0:lg xs sp.st.length room≠0->∀σ',aG U σ'->R none (lg xs sp.st.length room) σ')
 (h1:lg xs sp.st.length room=0->∀σ' Y,aG U σ'->Y.hs=hs->dJ σ' (λb=>U.size<=b) Y (fG sp.st.length room.toNat (xs.map QE)) (cM (fG sp.st.length room.toNat (xs.map QE)) Y)->R (some ⟨Y.p,0,none⟩) 0 σ') :
 Ku.c s (some ⟨hs,0,none⟩) room U R:=by
 refine Ku.o ?_;unfold Ku.v;have hn2:sp.st.length<=1024:=by obtain⟨q,r,l,B,h⟩:=hS;exact h.n2
 refine An ha λv e=>?_;cases hv:QU xs
 ·have e1:lg xs sp.st.length room=2:=by unfold lg;rw[hv];rfl
  have:=h0 (by rw[e1];decide) v e;rw[e1]at this;exact cF rfl this
 have eE:lg xs sp.st.length room=if 32<=sp.st.length/\sp.st.length%16=0/\0<=room/\room<=8 then 0 else 1:=by unfold lg;rw[hv,zC rfl]
 refine cD rfl (JE (hS.bP e) ?_);have C:¬(32<=sp.st.length/\sp.st.length%16=0/\0<=room/\room<=8)->R none 1 v:=λhn=>by
  rw[zB hn]at eE;have:=h0 (by rw[eE];decide) v e;rw[eE]at this;exact this
 have tm:(((sp.st.length:Nat):Int).tmod 16)=((sp.st.length%16:Nat):Int):=by rw[Kg O];simp
 refine bX.intro (cP (λc1=>bX.intro (cF rfl (bX.intro (cF rfl (cF rfl (C O)))))) λc1=>nz aB ?_);rw[tm,OZ];refine bX.intro (cN (λc2=>bX.intro (cF rfl (cF rfl (C (λh=>by have:=h.2.1;simp[this]at c2))))) λc2=>?_);have X:sp.st.length%16=0:=by simpa using c2
 refine bX.intro (cP (λc3=>cF rfl (C O)) λc3=>cP (λc4=>C O) λc4=>?_);obtain⟨W,rfl⟩:=zc (show 0<=room by omega);rw[zC O]at eE;have h1:=h1 eE;simp only[dH]at h1;have hva:=(QQ xs).1 hv;have P:=Qm ha e;have hn1:32<=sp.st.length:=by omega
 generalize sp.st.length=n at *;have hlen:s.len=(xs.map QE).length:=by rw[zj];exact ha.1
 have hcl:∀{σ':Hp} {i:Nat} {c:cA},im σ' s xs->(xs.map QE)[i]?=some c->xs[i]?=some ((c.size:Int),(c.aF:Int),(c.batch:Int))/\c.ok:=λh K=>HA h hv K;have J:1<=(xs.map QE).length/\(xs.map QE).length<=40:=by rw[zj];omega
 refine Ul P hv λdF v5 e5 htab=>NX λV op e6 hop hP=>tE λA z7 e7 hm=>?_;generalize htbd:xs.map QE=tb at *;refine nw (cs:=[.slice dF.a dF.len dF.cap,.pointer (some ⟨hs,0,none⟩),.pointer none,.pointer none,.pointer (some ⟨op,0,none⟩),.slice none 0 0,.slice none 0 0,.map (some V.size)]) λv8 z8 e8 b8=>?_;refine Go.Bu.uU _ (λg=>absurd ⟨O,O⟩ g) λn' hn' _ _ v9 sb ms e9 hB hfp=>?_;have hnn:n=n':=by omega
 subst hnn;have b9:=e9.bV b8 id;refine bL (b9.s1 aA λv10 gC b10=>SV O O X λN tp tq Q htp htq hTk=>bL ((Q.bV b10 id).s1 aA λv12 L b12=>?_));have s5:=e5.1;have s6:=e6.1;have s9:=e9.1;have s10:=gC.1;have s11:=Q.1;have s12:=L.1;have hb8:=b8.lt;have x9:Ext (· = A.size) v9 v12:=(gC.ext.trans (aG.to Q)).trans L.ext;have x5:Ext (· = A.size) v5 v12:=(aG.to (Ext.trans (Ext.trans (Ext.trans e6 e7) e8) e9)).trans x9;have x6:Ext (· = A.size) V v12:=(aG.to (Ext.trans (Ext.trans e7 e8) e9)).trans x9;have x7:Ext (· = A.size) A v12:=(aG.to (Ext.trans e8 e9)).trans x9;have x11:Ext (· = A.size) N v12:=L.ext;have p1:=aH.bT (yZ aH htab) x5 λb _ g d=>by omega
 have p2:=(jm.loc (p:=op) (ow:=λ_=>0)).bT (yZ jm.loc hP) x6 λb _ g d=>by omega
 have p3:dK v12 V.size .i64 bO []:=x7.fX (hm _ _) O;have p5:ux v8.size n Go.Bu.iz v12 (λb=>v8.size<=b/\b<v9.size):=(ux.loc _ _ _).bT (yZ (ux.loc _ _ _) ⟨sb,ms,hB,hfp⟩) x9 λb _ g d=>by omega
 have p6:mE tp (List.replicate n 0) v12 (λb=>v10.size<=b/\b<N.size):=(mE.loc _ _).bT (yZ (mE.loc _ _) ⟨tq,hTk,htp,htq⟩) x11 λb _ g d=>by omega
 let Y0:Lay:={p:=A.size,hs:=hs,fr:=v8.size,tr:=tp,op:=op,rn:=V.size,dF:=dF,dQ:=⟨none,0,0⟩,cS:=⟨none,0,0⟩,fL:=[],gD:=[]}
 have b12':bZ v12 A.size (kW Y0):=b12
 let Cf:=gH (jt n W tb 0) Y0 (cM (jt n W tb 0) Y0) (kW Y0)
 have u:∀i,dN (Cf i):=gH.loc λk=>cM.loc k;have q0:Sep (jI Cf S0) v12 λ_=>False:=jI.one S0 .hd λi hi=>by
  cases i<;>first|exact hi.elim|exact bS.nil _ _ _ _|exact trivial
 have q1:=jI.put u q0 .dF (G:=λb=>v.size<=b/\b<v5.size) (λb g d=>d) p1;have q2:=jI.put u q1 .own (G:=λb=>v5.size<=b/\b<V.size) (λb g d=>by
  rcases d with d|d
  ·exact d
  ·omega) p2
 have q3:=jI.put u q2 .runs (G:=λb=>b=V.size) (λb g d=>by
  rcases d with(d|d)|d
  ·exact d
  ·omega
  ·omega) ⟨rfl,p3⟩
 have q4:=jI.put u q3 .hd (G:=λb=>b=A.size) (λb g d=>by
  rcases d with((d|d)|d)|d
  ·exact d
  ·omega
  ·omega
  ·omega) ⟨rfl,b12'⟩
 have q5:=jI.put u q4 .free (G:=λb=>v8.size<=b/\b<v9.size) (λb g d=>by
  rcases d with(((d|d)|d)|d)|d
  ·exact d
  ·omega
  ·omega
  ·omega
  ·omega) p5
 have q6:=jI.put u q5 .ot (G:=λb=>v10.size<=b/\b<N.size) (λb g d=>by
  rcases d with((((d|d)|d)|d)|d)|d
  ·exact d
  ·omega
  ·omega
  ·omega
  ·omega
  ·omega) p6
 have q7:Sep Cf v12 λb=>v.size<=b:=by
  refine(Sep.loc u).mono (jI.all q6 λi=>?_) λb _ d=>?_
  ·cases i<;>simp[S0]
  ·rcases d with(((((d|d)|d)|d)|d)|d)|d
   ·exact d.elim
   ·omega
   ·omega
   ·omega
   ·omega
   ·omega
   ·omega
 have e12:aG v v12:=Ext.fresh e5 x5 λi hi=>by omega
 have szv:=e.1;refine Qp (a:=bO) (λ(t:Int) w=>∃(i:Nat) (Y:Lay),t=(i:Int)/\i<=tb.length/\Y.p=A.size/\Y.hs=hs/\Y.fL.length=i/\Y.gD.length=i/\aG v w/\Sep (gH (jt n W tb i) Y (cM (jt n W tb i) Y) (kW Y)) w (λb=>v.size<=b)) (λt _=>tb.length-t.toNat)
  ⟨0,Y0,rfl,O,rfl,rfl,rfl,rfl,e12,q7⟩ ?_
 rintro t w ⟨i,Y,rfl,hi,hYp,hYh,Z,hYt,ew,y⟩;refine cP (λhlt=>?_) λhge=>?_
 ·have hi':i<tb.length:=by omega
  have K:tb[i]?=some tb[i]:=cX hi';generalize tb[i]=c at K;have haw:=Qm P ew;obtain⟨hxi,aa⟩:=hcl haw K;refine yY haw hxi ?_;refine nw (cs:=[.int .i64 0,.int .i64 0,.int .i64 0]) λv14 hz14 e14 b14=>b14.s1 aA λv15 o15 b15=>b15.s1 aA λv16 o16 b16=>b16.s1 aA λv17 o17 b17=>?_;have M:aG w v17:=Ext.fresh (Ext.fresh (Ext.fresh e14 o15.ext λi hi=>O) o16.ext λi hi=>O) o17.ext λi hi=>by omega
  have x:bZ v17 w.size [.int .i64 (c.size:Int),.int .i64 (c.aF:Int),.int .i64 (c.batch:Int)]:=b17;refine x.rI rfl (x.rI rfl (x.rI rfl (RZ aa λv18 cp E hcp1 hcp2 hCe=>?_)));have b18:=E.bV x id;obtain⟨_,_,_,_,_,_,hbt1,hbt2⟩:=id aa;refine b18.rI rfl (O0 hbt1 hbt2 O λv19 tp2 D htp1 htp2 hTf=>Jn.intro ?_);have s14:=M.1;have s18:=E.1;have s19:=D.1;have sw:=ew.1;have hT:∀k,dN (cM (jt n W tb i) Y k):=λk=>cM.loc k;have h19:=qZ hT (qZ hT (qZ hT (Fm hT y) M) E) D;have S:=hCe.bP D;rw[←hYp];refine Nx (F:=Cut (λb=>v.size<=b) w) (z:=v.size) (ss:=[]) (t:=⟨0,[]⟩) (λb g=>⟨g.1,by have:=g.2;omega⟩) ⟨Z,hYt⟩ O h19 (by simp[jt]) (by simp[jt]) K S hTf (λb g=>?_) (λb g=>?_) (λb g hb2=>O) λw2 Y' e2 y1 y2 y3 y4 h2=>?_
  ·subst g;exact⟨λd=>by have:=d.2;omega,O,O⟩
  ·subst g;exact⟨λd=>by have:=d.2;omega,O,O⟩
  ·rw[LV]at h2;exact cT (m:=i+1) O O ⟨⟨i+1,Y',rfl,O,y1,y2.trans hYh,y3,y4,Ext.fresh (Ext.trans (Ext.trans (Ext.trans ew M) E) D) e2 λb g=>g.1,h2⟩,O⟩
 ·have:i=tb.length:=by omega
  subst this;rw[LU,σ]at y;have hl:fC (fG n W tb) Y:=ξ hn1 hn2 X O J.1 J.2 (λc K=>by
   obtain⟨j,hj⟩:=zP K;exact(hcl P hj).2) Z hYt
  have:=h1 w Y (Ext.trans e ew) hYh ⟨hl,λk=>cM.loc k,(Sep.loc (AC.loc λk=>cM.loc k)).mono y λb _ g=>kr szv g⟩;rw[hYp]at this;exact this
end Go.Ar
namespace Go.Vc
open Go
variable {U:Hp}{F:Rg}{s:Sl}{sz:Nat}{xs:List Value}
def dL (s:Sl)(sz:Nat)(xs:List Value):Hp->Rg->Prop:=λh F=>xs.length=s.len*sz/\(s.len=0/\s.cap=0\/∃b o cs,F b/\s.a=some ⟨b,o,none⟩/\bZ h b cs/\s.len<=s.cap/\cs.length=o+s.cap*sz/\(cs.drop o).take xs.length=xs)
theorem dL.loc (s:Sl)(sz:Nat)(xs:List Value):dN (dL s sz xs):=λU d F G h g a=>by
 refine⟨h.1,h.2.imp id ?_⟩;rintro⟨b,o,cs,hq,ha,⟨e,he⟩,r⟩;have:=a b (bZ.lt ⟨e,he⟩) hq;exact⟨b,o,cs,this.1,ha,⟨e,this.2.trans he⟩,r⟩
theorem dL.nil (h:Hp)(F:Rg)(sz:Nat)(a:Option Addr):dL ⟨a,0,0⟩ sz [] h F:=⟨by simp,.inl ⟨rfl,rfl⟩⟩
theorem bS.o (h:bS s sz xs U F):dL s sz xs U F:=⟨h.1,h.2.imp id λ⟨b,j,i,m,d,a,g,p⟩=>⟨b,0,j,i,m,d,a,O,by simpa using p⟩⟩
theorem dL.fW (h:dL s sz xs U F):cV s sz xs U F:=by
 refine⟨h.1,?_⟩;rcases h.2 with⟨hl,_⟩|⟨b,o,cs,hq,ha,hb,_,_,ht⟩
 ·left;have:=h.1;rw[hl]at this;simpa using this
 ·refine .inr ⟨b,o,cs,hq,ha,hb.q,λj a=>?_⟩;rw[←ht,zl,lG,zC a]
theorem dL.cap (h:dL s sz xs U F):s.len<=s.cap:=by
 rcases h.2 with⟨q1,q2⟩|⟨_,_,_,_,_,_,q,_⟩
 ·omega
 ·exact q
theorem dL.app {x:Sl}{bytes e:Nat}{zs ys:List Value}{K:Sl->Hp->Prop}(ho:dL s sz xs U F)(hz:zs.length=sz)
 (hy:ys.length=x.len*sz) (hr:Rd U x.a ys) (h1:∀v∈ys,dU v=true) (hb:(s.len+x.len)*bytes<=2^46) (hc:s.len+x.len<=2^62)
 (hx:0<x.len) (hK:∀s' h',s'.len=s.len+x.len->Ext F U h'->dL s' sz (xs++ys) h' (Grow F U)->K s' h'):App s sz bytes e zs x U K:=by
 refine⟨xs,ys,ho.1,hy,ho.fW.rd,hr,h1,hb,hc,λg=>?_,λr c p=>?_⟩
 ·rcases ho.2 with⟨hl,hcap⟩|⟨b,o,cs,hQ,ha,hk,hle,hcl,ht⟩
  ·omega
  ·rw[ha];simp only;rw[add_lit];have u:(s.len+x.len)*sz<=s.cap*sz:=mu _ g;rw[zo]at u;have d:=ho.1;refine V4 hk O λh' i j=>hK _ h' rfl (Ext.eV i hQ) ⟨?_,.inr ⟨b,o,_,.inl hQ,rfl,j,g,?_,?_⟩⟩
   ·simp[d,hy,zo]
   ·simp;omega
   ·rw[zK,d,ko];have e1:(cs.take (o+s.len*sz)++ys++cs.drop (o+s.len*sz+ys.length)).drop o=(cs.drop o).take (s.len*sz)++(ys++cs.drop (o+s.len*sz+ys.length)):=by
     rw[zk,List.drop_append_of_le_length (by rw[zY];omega),List.drop_take]
     congr 2;omega
    have m:(cs.drop o).take (s.len*sz)=xs:=by rw[←d];exact ht
    rw[e1,m,←zk,pt aE,lh aE]
 ·refine hK _ _ rfl (Ext.push _ _ _) ⟨by simp[ho.1,hy,zo],.inr ⟨U.size,0,xs++ys++(List.replicate (c-(s.len+x.len)) zs).flatten,.inr (zD _),rfl,⟨e,by simp⟩,p,?_,?_⟩⟩
  ·simp only[zK,xR,we,xU,ho.1,hy,hz,←zo];rw[zH];congr 1;omega
  ·rw[yM,pt aA,lh aA]
theorem dL.Dx {x:Sl}{bytes e:Nat}{zs:List Value}{K:Sl->Hp->Prop}(ho:dL s sz xs U F)(hx:x.len=0)(hb:s.len*bytes<=2^46)(hc:s.len<=2^62)(hK:dL ⟨s.a,s.len,s.cap⟩ sz xs U F->K ⟨s.a,s.len,s.cap⟩ U):App s sz bytes e zs x U K:=by
 have d:=ho.cap;refine⟨xs,[],ho.1,by simp[hx],ho.fW.rd,by cases x.a<;>simp[Rd],by simp,by rw[hx];exact hb,O,λg=>?_,λb=>absurd O b⟩
 rw[hx];have:=hK ho;cases ha:s.a<;>(rw[ha]at this;exact this)
theorem dL.from (h:dL s sz xs U F){lo:Nat}(h1:lo<=s.len):dL ⟨if s.cap=lo then s.a else s.a.map (·.add (lo*sz)),s.len-lo,s.cap-lo⟩ sz (xs.drop (lo*sz)) U F:=by
 have d:=h.1;refine⟨by rw[ky,d,Nat.sub_mul],?_⟩;rcases h.2 with⟨q1,q2⟩|⟨b,o,cs,hq,ha,hb,hle,hcl,ht⟩
 ·left;simp only;omega
 ·by_cases hm:s.cap=lo
  ·left;simp only;omega
  ·refine .inr ⟨b,o+lo*sz,cs,hq,by simp only[zB hm,ha,ze,add_lit],hb,by simp only;omega,?_,?_⟩
   ·have:lo*sz<=s.cap*sz:=mu _ O;rw[hcl,Nat.sub_mul];omega
   ·rw[ky]
    conv=>rhs;rw[←ht]
    rw[List.drop_take,List.drop_drop]
end Go.Vc
namespace Go.Ar
open Go Go.Vc Go.Proofs
variable {U:Hp}{F G:Rg}{Y:ib}{tb:List cA}{bud:Nat}{ls:List Li}{b k:Nat}{l:Li}{c:cA}
theorem LI {s:Sl}{xs:List (Int×Int×Int)}(ha:im U s xs)(dD:Int){R:Option Addr->Int->Hp->Prop}(h0:QU xs=false->∀σ',aG U σ'->R none 2 σ')
 (h1:QU xs=true->¬(0<=dD/\dD<=65536)->∀σ',aG U σ'->R none 1 σ')
 (h2:QU xs=true->0<=dD->dD<=65536->∀σ' Y,aG U σ'->eJ σ' (λq=>U.size<=q) Y (xs.map QE) dD.toNat (List.replicate (xs.map QE).length iq)->R (some ⟨Y.p,0,none⟩) 0 σ') :
 Kw.c s dD U R:=by
 refine Kw.o ?_;unfold Kw.v;refine An ha λv e=>?_;cases hv:QU xs
 ·exact cF rfl (h0 hv v e)
 refine cD rfl (bX.intro (cP (λu=>cF rfl (h1 hv O v e)) λu=>cP (λy=>h1 hv O v e) λy=>?_));have g:=Qm ha e;have x:=(QQ xs).1 hv;refine Ul g hv λdF b e1 d=>tE λj E e2 C=>nw (cs:=[.slice dF.a dF.len dF.cap,.int .i64 dD,.map (some b.size)]) λv3 D m B=>?_;have s1:=e1.1;have s0:=e.1;refine h2 hv O O v3 ⟨j.size,b.size,dF,[]⟩ (((e.trans e1).trans e2).trans m) ⟨by rw[zj];omega,λc w=>?_,by simp,by simp,?_⟩
 ·obtain⟨i,hi⟩:=zP w;exact(HA g hv hi).2
 ·refine⟨λq=>if q=j.size then .hd else if q=b.size then .mp else .dF,λi=>?_⟩
  cases i with
  | hd=>
   refine⟨⟨by show U.size<=j.size;omega,by simp⟩,?_⟩;have:((dD.toNat:Nat):Int)=dD:=by omega
   simp only[B4,this];exact B
  | mp=>
   refine⟨⟨by show U.size<=b.size;omega,?_⟩,m.fX (C .i64 .p) id⟩;show(if b.size=j.size then uF.hd else if b.size=b.size then uF.mp else uF.dF)=.mp
   rw[zB O,zC rfl]
  | dF=>
   have A:=aH.bP (aH.bP (aH.mono d (G:=λq=>v.size<=q/\q<b.size) λq r z=>⟨z,r⟩) e2) m;refine aH.mono A λq _ r=>⟨O,?_⟩;show(if q=j.size then uF.hd else if q=b.size then uF.mp else uF.dF)=.dF
   rw[zB O,zB O]
  | li k=>
   simp only[CC,oS,iX,List.find?_nil,Option.map_none];cases hk:(List.replicate (xs.map QE).length iq)[k]? with
   | none=>trivial
   | some l=>simp only[mH]at hk;split at hk<;>simp_all
def kM (f:Nat->Nat)(l:List (Int×Option Addr)):Nat:=(l.map λx=>f x.1.toNat).sum
theorem FQ (f:Nat->Nat):∀{l:List (Int×Option Addr)} {n:Int} {x:Option Addr},(l.map (·.1)).Nodup->(n,x)∈l->kM f l=f n.toNat+kM f (l.filter λy=>!(y.1==n))
 | [],_,_,_,h=>by simp at h
 | y::l,n,x,hn,h=>by
  simp only[zR,zr]at hn;rcases zW.1 h with h1|h1
  ·subst h1;have:l.filter (λy=>!(y.1==n))=l:=by
    rw[qH];intro z hz;have:z.1≠n:=λe=>hn.1 (zE.2 ⟨z,hz,e⟩);simpa using this
   rw[vq aA,this];simp[kM]
  ·have a:y.1≠n:=λe=>hn.1 (zE.2 ⟨_,h1,e.symm⟩);rw[vn (by simpa using a)];have:=FQ f hn.2 h1;simp only[kM,zR,oD]at *;omega
theorem OI (n a v:Nat):((List.range n).map λj=>if j=a then v else 0).sum=if a<n then v else 0:=by
 induction n with
 | zero=>simp
 | succ n ih=>
  rw[qF,zm,List.sum_append,ih];by_cases h:a=n
  ·subst h;simp
  ·by_cases h2:a<n
   ·rw[zC h2,zC O];simp[Ne.symm h]
   ·rw[zB h2,zB O];simp[Ne.symm h]
theorem OA (l:List Nat)(f g:Nat->Nat):(l.map λj=>f j+g j).sum=(l.map f).sum+(l.map g).sum:=by
 induction l with
 | nil=>rfl
 | cons x l ih=>simp only[zR,oD,ih];omega
theorem I9 (f:Nat->Nat)(n:Nat):∀(ps:List (Nat×Nat)),(ps.map (·.1)).Nodup->(∀x∈ps,x.1<n)->(ps.map λx=>f x.1).sum=((List.range n).map λj=>if j∈ps.map (·.1)then f j else 0).sum
 | [],_,_=>by
  have:((List.range n).map λj=>if j∈([]:List (Nat×Nat)).map (·.1)then f j else 0)=(List.range n).map λ_=>0:=by simp
  rw[this]
  induction n with
  | zero=>rfl
  | succ n a=>rw[qF,zm,List.sum_append];simp at *;exact a
 | x::ps,hn,hl=>by
  simp only[zR,zr]at hn;have a:=I9 f n ps hn.2 λy b=>hl y (by simp[b]);rw[zR,oD,a];have e:((List.range n).map λj=>if j∈(x::ps).map (·.1)then f j else 0)=(List.range n).map λj=>(if j=x.1 then f x.1 else 0)+(if j∈ps.map (·.1)then f j else 0):=by
   apply kh;intro j _;by_cases hj:j=x.1
   ·subst hj;rw[zC aA,zC rfl,zB hn.1];rfl
   ·rw[zB hj,zH];by_cases hm:j∈ps.map (·.1)
    ·rw[zC hm,zC (by simp only[zR,zW];exact .inr hm)]
    ·rw[zB hm,zB (by simp only[zR,zW,not_or];exact⟨hj,hm⟩)]
  rw[e,OA,OI,zC (hl x aA)]
def qJ (tb:List cA)(ls:List Li)(k:Nat):Nat:=match tb[k]?,ls[k]? with
 | some c,some l=>c.size*l.os.length
 | _,_=>0
theorem IS:∀(tb:List cA) (ls:List Li),ls.length=tb.length->Ky tb ls=((List.range tb.length).map (qJ tb ls)).sum
 | [],[],_=>rfl
 | c::tb,l::ls,h=>by
  have ih:=IS tb ls (by simpa using h);simp only[Ky]at ih;simp only[Ky,List.zip_cons_cons,zR,oD,zS,ih,List.range_succ_eq_map,lK];rfl
 | [],_::_,h=>by simp at h
 | _::_,[],h=>by simp at h
theorem eJ.nil (h:eJ U F Y tb bud ls)(hf:iX Y.ps k=none)(hl:ls[k]?=some l):l=iq:=by
 obtain⟨G,_,hi⟩:=h.sep.get (.li k);simp only[CC,oS,hf,hl]at hi;exact hi
theorem eJ.wV (h:eJ U F Y tb bud ls):(Y.ps.map (·.1)).Nodup:=by
 have:=h.map.nodup;have e:(kc Y.ps).map (·.1)=(Y.ps.map (·.1)).map λ(n:Nat)=>(n:Int):=by simp[kc]
 rw[e]at this;exact List.Pairwise.of_map (λ(n:Nat)=>(n:Int)) (λa b d e=>d (by rw[e])) this
theorem eJ.bytes (h:eJ U F Y tb bud ls):kM (qJ tb ls) (kc Y.ps)=Ky tb ls:=by
 have e1:kM (qJ tb ls) (kc Y.ps)=(Y.ps.map λx=>qJ tb ls x.1).sum:=by simp[kM,kc,Function.comp_def]
 rw[e1,I9 _ tb.length _ h.wV h.keys,IS _ _ h.len]
 congr 1
 apply kh;intro j hj;have a:=zg.1 hj;by_cases hm:j∈Y.ps.map (·.1)
 ·rw[zC hm]
 ·rw[zB hm];have d:iX Y.ps j=none:=by
   unfold iX;simp only[tx,og,zT];exact λx g e=>hm (zE.2 ⟨x,g,e⟩)
  have b:ls[j]?=some (ls[j]'(by rw[h.len];exact a)):=cX _;have:=h.nil d b;unfold qJ;rw[cX a,b,this];rfl
theorem IH:∀(tb:List cA) (ls:List Li),(∀c∈tb,c.ok)->(∀l∈ls,fQ l)->Ky tb ls<=tb.length*131072
 | [],_,_,_=>by simp[Ky]
 | _::_,[],_,_=>by simp[Ky]
 | c::tb,l::ls,h1,h2=>by
  have ih:=IH tb ls (λc a=>h1 c (by simp[a])) (λl d=>h2 l (by simp[d]));simp only[Ky]at ih;simp only[Ky,List.zip_cons_cons,zR,oD,zS];have a:=h1 c aA;unfold cA.ok at a;have b:=(h2 l aA).many;have g:c.size*l.os.length<=512*256:=mo O b;omega
theorem WhO (h:eJ U F Y tb bud ls)(hok:∀l∈ls,fQ l):Ky tb ls<=5242880:=by
 have b:=IH tb ls h.ok hok;have a:=h.nW;omega
theorem eJ.LK (h:eJ U F Y tb bud ls):∀l∈ls,fQ l:=by
 intro l hl;obtain⟨k,a⟩:=zP hl;cases hf:iX Y.ps k with
 | none=>rw[h.nil hf a];exact fQ.nil
 | some b=>
  obtain⟨G,_,d,_⟩:=h.yk hf a;exact d.2.1
theorem ID (h:eJ U F Y tb bud ls){R:aN}(hR:∀σ',aG U σ'->R ((Ky tb ls:Nat):Int) σ'):XY.c (aW Y.p) U R:=by
 refine XY.o ?_;unfold XY.v;have hle:=WhO h h.LK;have hT:=h.bytes;refine HN h (cD rfl (bL (h.hd.rM rfl ?_)));refine xG (a:=bO) h.map (λg (z:Int) v=>∃n:Nat,z=(n:Int)/\n+kM (qJ tb ls) g=Ky tb ls/\(∀e∈g,e∈kc Y.ps)/\(g.map (·.1)).Nodup/\aG U v) ?_ ?_ ?_
 ·intro v hz e;exact⟨0,rfl,by rw[hT];omega,λe he=>he,h.map.nodup,e⟩
 ·rintro z v ⟨n,rfl,H,_,_,e⟩;simp only[kM,qh,List.sum_nil,ko]at H;rw[H];exact hR v e
 ·rintro g n x z v v' J ⟨m,rfl,H,j,C,e⟩ X ho hlt hJ;have W:aG U v':=e.only ho (.inr (zD _));have S:=h.bP W;have r:=j _ X;simp only[kc,zE,Prod.mk.injEq]at r;obtain⟨⟨k,b⟩,w,A,D⟩:=r;simp only at A D;subst A;subst D;have E:=h.keys _ w;simp only at E;have M:tb[k]?=some tb[k]:=cX E;have Q:ls[k]?=some (ls[k]'(by rw[h.len];exact E)):=cX _;generalize tb[k]=c at M;generalize (ls[k]'(by rw[h.len];exact E))=l at Q;have L:iX Y.ps k=some b:=E9 h.map.nodup w;obtain⟨G,hG,hL,_⟩:=S.yk L Q;obtain⟨_,hok,s,P,N,V⟩:=hL;have K:s.len=l.os.length:=by have:=N.1;simp[Wu]at this;omega
  have hb:qJ tb ls k=c.size*l.os.length:=by unfold qJ;rw[M,Q]
  have u:=FQ (qJ tb ls) C X;simp only[dH]at u;refine bL (S.hd.rS rfl (ur S.jP M (d:=0) O ?_));simp only[zU];refine bL (P.rS rfl ?_);have B:m+c.size*l.os.length+kM (qJ tb ls) (List.filter (λy=>!(y.1==(k:Int))) g)=Ky tb ls:=by
   have Z:=u;rw[hb]at Z;rw[←H,Z,xw]
  refine cT (m:=c.size*l.os.length) (by simp only[K];simp) O (cT (m:=m+c.size*l.os.length) O O (hJ _ v' rfl rfl ⟨_,rfl,B,λy hy=>j y (zL.1 hy).1,C.sublist (List.filter_sublist.map _),W⟩))
theorem Re (h:eJ U F Y tb bud ls){R:aO}(hR:∀σ',aG U σ'->R (decide (bud<Ky tb ls)) σ'):Ys.c (aW Y.p) U R:=by
 refine Ys.o ?_;unfold Ys.v;have e:decide (((Ky tb ls:Nat):Int)>(bud:Int))=decide (bud<Ky tb ls):=by rw[decide_eq_decide];omega
 refine Jn.intro (HN h (cF rfl (bL ⟨ID h λσ' a=>(a.bV h.hd id).rI rfl ?_,h.hd.rI rfl (ID h λσ' a=>?_)⟩)))
 ·rw[e];exact hR σ' a
 ·rw[e];exact hR σ' a
def Bx (f:cA->Li->List Int×Li)(fn:Nat):Prop:=∀{U:Hp} {G:Rg} {b:Nat} {l:Li} {c:cA},jg b l U G->c.ok->∀{R:Sl->Hp->Prop},
 (∀s z σ',Ext (· = b) U σ'->U.size<=z->bS s 1 (Wu (f c l).1) σ' (λq=>U.size<=q/\q<z)->jg b (f c l).2 σ' (λq=>q=b\/z<=q)->R s σ') →
 VO Tryz.prog ⟨fn,#[],#[]⟩ [.pointer (some ⟨b,0,none⟩),.int .i64 (c.batch:Int)] [.one .s] U R
theorem RQ:Bx Z4 243:=by
 intro U G b l c h hc R hR;refine G5 (all := #[.pointer (some ⟨b,0,none⟩),.int .i64 (c.batch:Int)]) (by kernel_rfl) aA ?_;refine YL.o ?_;unfold YL.v;have m:=h;obtain⟨_,j,s,d,g,i⟩:=h;have a:s.len=l.os.length:=by have:=g.1;simp[Wu]at this;omega
 refine bL (d.rS rfl ?_);simp only[a];exact GB m (zD _) hR
theorem SA:Bx Vp 241:=by
 intro U G b l c h hc R hR;refine G5 (all := #[.pointer (some ⟨b,0,none⟩),.int .i64 (c.batch:Int)]) (by kernel_rfl) aA ?_;refine XL.o ?_;unfold XL.v;have M:=h;obtain⟨_,g,s,A,P,H⟩:=h;have o1:=g.low;have o2:=g.many;have o3:=g.lim;have r:=J8 hc g;unfold cA.ok at hc;refine bL (A.rI rfl (cT (m:=l.low+1) O O (nz aB (cT (m:=(l.low+1)/2) (by rw[YO O];omega) O ?_))));refine GB M O λout z v e N S u=>?_;have L:=u;obtain⟨_,Q,s1,d,w,F⟩:=u;have y:s1.len=(gM ((l.low+1)/2) l).2.os.length:=by have:=w.1;simp[Wu]at this;omega
 refine Jn.intro ?_;have i:∀(j:Hp) (lim:Nat),Ext (· = b) v j->lim=(if l.lim>c.batch then max (l.lim-c.batch) c.batch else l.lim)->bZ j b (nb s1 {(gM ((l.low+1)/2) l).2 with lim:=lim}) →
  bW (some ⟨b,0,none⟩) λC=>jJ (C.add 0) j λE=>bW (some ⟨b,0,none⟩) λB=>dZ (B.add 2) (.int .i64 ((E.len:Nat):Int)) j λv2=>R out v2:=by
  intro j lim e1 hlim a;refine bL (a.rS rfl (bL (a.s1 (by simp[nb]) λv2 o2 x=>?_)));have e2:=e1.trans o2.ext;have V:=d.lt;refine hR out z v2 (e.trans e2) N (aI.bT S e2 λq _ K J=>?_) ?_
  ·have:=A.lt;omega
  ·refine⟨.inl rfl,r,s1,?_,aH.bT w e2 λq _ K J=>K.2 J,F⟩;simp only[y]at x;subst hlim;exact x
 refine bL (d.rI rfl ?_);refine cP (λD=>?_) λD=>?_
 ·have p:l.lim>c.batch:=by simp only[gM]at D;omega
  refine bL (d.rI rfl (cT (m:=l.lim-c.batch) (by simp only[gM];omega) O (bL (d.s1 (by simp[nb]) λj o1 a=>i j (max (l.lim-c.batch) c.batch) o1.ext (by rw[zC p]) ?_))));have:(if(c.batch:Int)>((l.lim-c.batch:Nat):Int)then(c.batch:Int)else((l.lim-c.batch:Nat):Int))=((max (l.lim-c.batch) c.batch:Nat):Int):=by split<;>omega
  rw[this]at a;exact a
 ·have p:¬l.lim>c.batch:=by simp only[gM]at D;omega
  exact i v l.lim (Ext.refl _ _) (by rw[zB p]) d
def oz (x:Nat×Sl):List Value:=[.int .i64 (x.1:Int),.slice x.2.a x.2.len x.2.cap]
def fK (l:List (Nat×Sl)):List Value:=l.flatMap oz
theorem Vm (l:List (Nat×Sl)):(fK l).length=l.length*2:=by
 induction l with
 | nil=>rfl
 | cons x l ih=>
  have e:fK (x::l)=oz x++fK l:=rfl;have e2:(oz x).length=2:=rfl;rw[e,zK,ih,e2,zS];omega
theorem Ht (a b:List (Nat×Sl)):fK (a++b)=fK a++fK b:=by simp[fK]
theorem HE {l:List (Nat×Sl)}:∀v∈fK l,dU v=true:=by
 intro v hv;obtain⟨p,_,a⟩:=List.mem_flatMap.1 hv;simp only[oz,zW,yW,or_false]at a;rcases a with rfl|rfl<;>rfl
theorem Mo {l:List (Nat×Sl)}{i:Nat}{p:Nat×Sl}(h:l[i]?=some p){d:Nat}(hd:d<2):(fK l)[2*i+d]?=(oz p)[d]? := by
 induction l generalizing i with
 | nil=>simp at h
 | cons x l ih=>
  have e:fK (x::l)=oz x++fK l:=rfl;have e2:(oz x).length=2:=rfl;rw[e];cases i with
  | zero=>
   simp at h;subst h;rw[zd O];congr 1;omega
  | succ i=>
   rw[zp O,e2,show 2*(i+1)+d-2=2*i+d by omega];exact ih (by simpa using h)
def kH (ps:List (Nat×Sl))(bs:List Bt)(U:Hp)(D:Rg):Prop:=ps.length=bs.length/\∀(i:Nat) p x,ps[i]?=some p->bs[i]?=some x->p.1=x.1/\cV p.2 1 (Wu x.2) U D/\p.2.len<=p.2.cap
theorem kH.loc (ps:List (Nat×Sl))(bs:List Bt):dN (kH ps bs):=λU j F G h d g=>⟨h.1,λi p x b a=>⟨(h.2 i p x b a).1,cV.loc _ _ _ _ _ _ _ (h.2 i p x b a).2.1 d g,(h.2 i p x b a).2.2⟩⟩
def u7 (ps:List (Nat×Sl)):Prop:=ps.Pairwise λp q=>∀a a',p.2.a=some a->q.2.a=some a'->a.block≠a'.block
theorem u7.snoc {ps:List (Nat×Sl)}{bs:List Bt}{U v:Hp}{D X:Rg}{s:Sl}{xs:List Int}(h:u7 ps)(hB:kH ps bs U D)(hne:∀x∈bs,x.2≠[])(hs:cV s 1 (Wu xs) v X)(hx:xs≠[])(hd:∀b,b<U.size->D b->¬X b)(k:Nat):u7 (ps++[(k,s)]):=by
 refine qE.2 ⟨h,List.pairwise_singleton _ _,λp u q r=>?_⟩;rw[zN]at r;subst r;intro a a' h1 h2 e;obtain⟨i,hi⟩:=zP u;have d:=(cY.1 hi).1;have m:bs[i]?=some (bs[i]'(by rw[←hB.1];exact d)):=cX _;generalize (bs[i]'(by rw[←hB.1];exact d))=y at m;obtain⟨_,j,_⟩:=hB.2 i p y hi m;have g:=j.bV (by simpa[Wu]using hne y (zG m)) ⟨a,h1,rfl⟩;have w:=hs.bV (by simpa[Wu]using hx) ⟨a',h2,rfl⟩;rw[e]at g;exact hd _ g.2 g.1 w.1
def iF (s:Sl)(bs:List Bt):Hp->Rg->Prop:=λU F=>∃(ps:List (Nat×Sl)) (D:Rg),dL s 2 (fK ps) U (λq=>F q/\¬D q)/\kH ps bs U D/\(∀q,D q->F q)/\u7 ps/\∀x∈bs,x.2≠[]
theorem iF.loc (s:Sl)(bs:List Bt):dN (iF s bs):=λU u F G ⟨m,D,p,j,g,r⟩ i b=>
 ⟨m,λq=>D q/\q<U.size,dL.loc _ _ _ _ _ _ _ p i λq a d=>⟨⟨(b q a d.1).1,λhd=>d.2 hd.1⟩,(b q a d.1).2⟩,kH.loc _ _ _ _ _ _ j i λq a hd=>⟨⟨hd,a⟩,(b q a (g q hd)).2⟩,λq a=>(b q a.2 (g q a.1)).1,r⟩
theorem iF.nil (U:Hp)(F:Rg)(a:Option Addr):iF ⟨a,0,0⟩ [] U F:=⟨[],λ_=>False,dL.nil _ _ _ _,⟨rfl,λi p x h=>by simp at h⟩,λq h=>h.elim,List.Pairwise.nil,by simp⟩
theorem iF.len {s:Sl}{bs:List Bt}(h:iF s bs U F):s.len=bs.length:=by
 obtain⟨d,D,b,a,_⟩:=h;have:=b.1;rw[Vm]at this;have:=a.1;omega
theorem iF.cap {s:Sl}{bs:List Bt}(h:iF s bs U F):s.len<=s.cap:=by
 obtain⟨b,D,a,_⟩:=h;exact a.cap
def G9:Prop:=∀{U:Hp} {F:Rg} {s:Sl} {xs:List (Nat×Sl)},bS s 2 (fK xs) U F->(∀x∈xs,x.1<64)->xs.length<=1000->∀{R:aP},
 (∀xs' σ',xs'.Perm xs->xs'.Pairwise (λa b=>a.1<=b.1)->Ext F U σ'->bS s 2 (fK xs') σ' F->R σ')->Qo.c s ⟨298,#[],#[]⟩ U R
theorem J9:∀{a b:List Nat},a.Pairwise (· < ·)->b.Pairwise (· < ·)->(∀x,x∈a↔x∈b)->a=b
 | [],[],_,_,_=>rfl
 | [],y::b,_,_,h=>by have:=(h y).2 aA;simp at this
 | x::a,[],_,_,h=>by have:=(h x).1 aA;simp at this
 | x::a,y::b,ha,hb,h=>by
  rw[sR]at ha hb;have e:x=y:=by
   rcases zW.1 ((h x).1 aA)with h1|h1
   ·exact h1
   ·rcases zW.1 ((h y).2 aA)with h2|h2
    ·exact h2.symm
    ·have:=ha.1 y h2;have:=hb.1 x h1;omega
  subst e
  congr 1
  refine J9 ha.2 hb.2 λz=>?_;have d:=h z;simp only[zW]at d;constructor
  ·intro hza;have:=ha.1 z hza;rcases d.1 (.inr hza)with h1|h1
   ·omega
   ·exact h1
  ·intro hzb;have:=hb.1 z hzb;rcases d.2 (.inr hzb)with h1|h1
   ·omega
   ·exact h1
theorem HG {f:cA->Li->List Int×Li}{x:Bt}:x∈KH f tb ls↔∃c l,tb[x.1]?=some c/\ls[x.1]?=some l/\x.2=(f c l).1/\x.2≠[]:=by
 unfold KH;rw[wz];constructor
 ·rintro⟨k,hk,h⟩;split at h
  ·rename_i c l hc hl;split at h
   ·cases h
   ·rename_i hne;cases h;exact⟨c,l,hc,hl,rfl,hne⟩
  ·cases h
 ·rintro⟨c,l,hc,hl,e,hne⟩;refine⟨x.1,zg.2 (cY.1 hc).1,?_⟩;rw[hc,hl];simp only;rw[zB (by rw[←e];exact hne),←e]
theorem NY {f:cA->Li->List Int×Li}:((KH f tb ls).map (·.1)).Pairwise (· < ·):=by
 unfold KH;have key:∀(n:Nat),(((List.range n).filterMap λk=>match tb[k]?,ls[k]? with
  | some c,some l=>if(f c l).1=[]then none else some ((k,(f c l).1):Bt)
  | _,_=>none).map (·.1)).Pairwise (· < ·)/\∀x∈((List.range n).filterMap λk=>match tb[k]?,ls[k]? with
  | some c,some l=>if(f c l).1=[]then none else some ((k,(f c l).1):Bt)
  | _,_=>none),x.1<n:=by
  intro n
  induction n with
  | zero=>simp
  | succ n ih=>
   rw[qF,wB,zm];refine⟨qE.2 ⟨ih.1,?_,?_⟩,?_⟩
   ·simp only[Cj,List.filterMap_nil];split<;>simp
   ·intro a ha b hb;obtain⟨x,i,rfl⟩:=zE.1 ha;obtain⟨y,g,rfl⟩:=zE.1 hb;have p:=ih.2 x i;obtain⟨m,j,d⟩:=wz.1 g;clear g hb ha;simp only[zN]at j;subst j;split at d
    ·split at d
     ·cases d
     ·cases d;exact p
    ·cases d
   ·intro x i;rcases zM.1 i with i|i
    ·have:=ih.2 x i;omega
    ·obtain⟨m,j,g⟩:=wz.1 i;simp only[zN]at j;subst j;split at g
     ·split at g
      ·cases g
      ·cases g;omega
     ·cases g
 exact(key tb.length).1
def nt (todo:List (Int×Option Addr))(k:Nat):Prop:=((k:Nat):Int)∈todo.map (·.1)
instance (todo:List (Int×Option Addr)) (k:Nat):Decidable (nt todo k):=by unfold nt;infer_instance
theorem Gj {todo:List (Int×Option Addr)}{m k:Nat}:nt (todo.filter λy=>!(y.1==(m:Int))) k↔nt todo k/\k≠m:=by
 unfold nt;simp only[zE,zL,mI,mP];constructor
 ·rintro⟨y,⟨h1,h2⟩,h3⟩;exact⟨⟨y,h1,h3⟩,λe=>h2 O⟩
 ·rintro⟨⟨y,h1,h3⟩,h2⟩;exact⟨y,⟨h1,λe=>h2 O⟩,h3⟩
structure AS (f:cA->Li->List Int×Li) (tb:List cA) (ls:List Li) (todo:List (Int×Option Addr)) (ls':List Li) (outs:List Bt):Prop where
 l:∀k c l,tb[k]?=some c->ls[k]?=some l->ls'[k]?=some (if nt todo k then l else(f c l).2)
 n:(outs.map (·.1)).Nodup
 o:∀x:Bt,x∈outs↔∃c l,tb[x.1]?=some c/\ls[x.1]?=some l/\¬nt todo x.1/\x.2=(f c l).1/\x.2≠[]
theorem AS.step {f:cA->Li->List Int×Li}{todo:List (Int×Option Addr)}{ls':List Li}{outs:List Bt}(h:AS f tb ls todo ls' outs)(hc:tb[k]?=some c)(hl:ls[k]?=some l)(hk:nt todo k) :
 AS f tb ls (todo.filter λy=>!(y.1==(k:Int))) (ls'.set k (f c l).2) (if(f c l).1=[]then outs else outs++[(k,(f c l).1)]):=by
 have r:=h.l k c l hc hl;have w:=(cY.1 r).1;have u:∀x∈outs,x.1≠k:=λx g e=>by
  obtain⟨_,_,_,_,A,_⟩:=(h.o x).1 g;rw[e]at A;exact A hk
 refine⟨λj d m hd p=>?_,?_,λx=>?_⟩
 ·by_cases hj:j=k
  ·subst hj;rw[hc]at hd;cases hd;rw[hl]at p;cases p;rw[zO w,zB (by rw[Gj];exact λg=>g.2 rfl)]
  ·rw[zh (Ne.symm hj),h.l j d m hd p]
   congr 1
   by_cases hi:nt todo j
   ·rw[zC hi,zC (Gj.2 ⟨hi,hj⟩)]
   ·rw[zB hi,zB λg=>hi (Gj.1 g).1]
 ·split
  ·exact h.n
  ·rw[zm,nr];refine⟨h.n,by simp,λa C b B e=>?_⟩;simp only[zR,qh,zN]at B;subst B;obtain⟨x,g,e2⟩:=zE.1 C;exact u x g (e2.trans e)
 ·have s:(∃d m,tb[x.1]?=some d/\ls[x.1]?=some m/\¬nt (todo.filter λy=>!(y.1==(k:Int))) x.1/\x.2=(f d m).1/\x.2≠[])↔x∈outs\/(x=(k,(f c l).1)/\(f c l).1≠[]):=by
   constructor
   ·rintro⟨d,m,hd,p,hi,e,i⟩;by_cases hj:x.1=k
    ·right;rw[hj]at hd p;rw[hc]at hd;cases hd;rw[hl]at p;cases p;exact⟨Prod.ext hj e,by rw[←e];exact i⟩
    ·left;exact(h.o x).2 ⟨d,m,hd,p,λg=>hi (Gj.2 ⟨g,hj⟩),e,i⟩
   ·rintro(g|⟨rfl,i⟩)
    ·obtain⟨d,m,hd,p,hi,e,i⟩:=(h.o x).1 g;exact⟨d,m,hd,p,λz=>hi (Gj.1 z).1,e,i⟩
    ·exact⟨c,l,hc,hl,λz=>(Gj.1 z).2 rfl,rfl,i⟩
  rw[s];split
  ·rename_i he;constructor
   ·exact .inl
   ·rintro(g|⟨_,i⟩)
    ·exact g
    ·exact absurd he i
  ·rename_i he;rw[zM,zN];constructor
   ·rintro(g|g)
    ·exact .inl g
    ·exact .inr ⟨g,he⟩
   ·rintro(g|g)
    ·exact .inl g
    ·exact .inr g.1
set_option maxRecDepth 4000 in
theorem Jq (hso:G9){f:cA->Li->List Int×Li}{fn:Nat}(hf:Bx f fn)(hnil:∀c,c.ok->f c iq=([],iq))(h:eJ U F Y tb bud ls){R:Sl->Hp->Prop}
 (hR:∀σ' s (Q:Rg),Ext F U σ'->(∀q,Q q->U.size<=q)->eJ σ' (λq=>Grow F U q/\¬Q q) Y tb bud (KC f tb ls)->iF s (KH f tb ls) σ' Q->R s σ') :
 XB.c (aW Y.p) ⟨fn,#[],#[]⟩ U R:=by
 refine XB.o ?_;unfold XB.v;refine HN h (cD rfl (bL (h.hd.rM rfl ?_)));have htb:=h.nW;refine xG (a:=.s) h.map (λC (out:Sl) v=>∃(ls':List Li) (w:List Bt) (Q D:Rg) (ps:List (Nat×Sl)),Ext F U v/\(∀q,Q q->U.size<q)/\eJ v (λq=>(Cut F U q\/U.size<q)/\¬Q q) Y tb bud ls' ∧
  bS out 2 (fK ps) v (λq=>Q q/\¬D q)/\kH ps w v D/\(∀q,D q->Q q)/\AS f tb ls C ls' w/\(∀e∈C,e∈kc Y.ps)/\(C.map (·.1)).Nodup/\u7 ps) ?_ ?_ ?_
 ·intro v hz e;refine⟨ls,[],λ_=>False,λ_=>False,[],aG.to e,λq g=>g.elim,((eJ.loc.bP h.cut e).mono λq _ g=>⟨.inl g,id⟩),bS.nil _ _ _ _,⟨rfl,λi p x K=>by simp at K⟩,λq g=>g.elim,⟨λk c l E N=>?_,by simp,λx=>?_⟩,λe P=>P,h.map.nodup,List.Pairwise.nil⟩
  ·by_cases hi:nt (kc Y.ps) k
   ·rw[zC hi,N]
   ·rw[zB hi];have hf0:iX Y.ps k=none:=by
     unfold iX;simp only[tx,og,zT];exact λx r e=>hi (zE.2 ⟨((x.1:Int),some ⟨x.2,0,none⟩),zE.2 ⟨x,r,rfl⟩,by rw[e]⟩)
    have:=h.nil hf0 N;rw[N,this,hnil c (h.ok c (zG E))]
  ·simp only[yW,false_iff];rintro⟨c,l,E,N,hi,e,hne⟩;have hf0:iX Y.ps x.1=none:=by
    unfold iX;simp only[tx,og,zT];exact λy W e=>hi (zE.2 ⟨((y.1:Int),some ⟨y.2,0,none⟩),zE.2 ⟨y,W,rfl⟩,by rw[e]⟩)
   have:=h.nil hf0 N;rw[this,hnil c (h.ok c (zG E))]at e;exact hne e
 ·rintro out v ⟨ls',w,Q,D,ps,e,hQ,hC,X,hB,hD,hI,_,_,V⟩;have hno:∀k,¬nt [] k:=λk hk=>by simp[nt]at hk
  have hls:ls'=KC f tb ls:=by
   apply zt;intro k;by_cases hk:k<tb.length
   ·have E:tb[k]?=some tb[k]:=cX hk;have N:ls[k]?=some (ls[k]'(by rw[h.len];exact hk)):=cX _;rw[hI.l k _ _ E N,zB (hno k)];simp[KC,Da,E,N]
   ·rw[zX (by rw[hC.len];omega),zX (by simp[KC,h.len];omega)]
  subst hls;have hk1:∀(i:Nat) p,ps[i]?=some p->∃x,w[i]?=some x/\p.1=x.1/\cV p.2 1 (Wu x.2) v D/\p.2.len<=p.2.cap:=λi p K=>by
   have hi:=(cY.1 K).1;have r:w[i]?=some (w[i]'(by rw[←hB.1];exact hi)):=cX _;exact⟨_,r,hB.2 i p _ K r⟩
  have B:ps.map (·.1)=w.map (·.1):=by
   apply zt;intro i;simp only[za];cases K:ps[i]? with
   | none=>
    have:w[i]?=none:=by
     rw[List.getElem?_eq_none_iff]at K ⊢;rw[←hB.1];exact K
    rw[this];rfl
   | some p=>
    obtain⟨x,r,e1,_⟩:=hk1 i p K;rw[r];simp[e1]
  have Z:∀x∈w,x.1<40:=λx r=>by
   obtain⟨c,l,E,_⟩:=(hI.o x).1 r;have:=(cY.1 E).1;omega
  have hlen:ps.length<=40:=by
   have hn:=hI.n;rw[←B]at hn;have:=hn.length_le_of_subset (l₂:=List.range 40) λj V=>by
    rw[B]at V;obtain⟨x,r,rfl⟩:=zE.1 V;exact zg.2 (Z x r)
   simpa using this
  refine hso X (λp K=>?_) O λps' v' L hsort e' hrow'=>?_
  ·have:p.1∈w.map (·.1):=by rw[←B];exact zE.2 ⟨p,K,rfl⟩
   obtain⟨x,r,e1⟩:=zE.1 this;have:=Z x r;omega
  ·have hnd:(ps'.map (·.1)).Nodup:=(L.map _).nodup_iff.2 (by rw[B];exact hI.n);have hinc:(ps'.map (·.1)).Pairwise (· < ·):=by
    refine List.Pairwise.map (R:=λa b:Nat×Sl=>a.1<b.1) _ (λa b hab=>hab) ?_;have A:ps'.Pairwise λa b=>a.1≠b.1:=sv.1 hnd;exact(hsort.and A).imp λ{a b} hab=>by have:=hab.1;have:=hab.2;omega
   have hkk:ps'.map (·.1)=(KH f tb ls).map (·.1):=by
    refine J9 hinc NY λj=>?_;rw[(L.map _).mem_iff,B];constructor
    ·intro V;obtain⟨x,r,rfl⟩:=zE.1 V;obtain⟨c,l,E,N,_,e1,e2⟩:=(hI.o x).1 r;exact zE.2 ⟨x,HG.2 ⟨c,l,E,N,e1,e2⟩,rfl⟩
    ·intro V;obtain⟨x,r,rfl⟩:=zE.1 V;obtain⟨c,l,E,N,e1,e2⟩:=HG.1 r;exact zE.2 ⟨x,(hI.o x).2 ⟨c,l,E,N,hno _,e1,e2⟩,rfl⟩
   have eQ:Ext F U v':=e.dW e' λq g=>.inr (sj (hQ q g.1));refine hR v' out Q eQ (λq g=>sj (hQ q g)) ?_ ⟨ps',D,hrow'.o,⟨?_,λi p x K r=>?_⟩,hD,(L.pairwise_iff λ{a b} hab x y A h2 e=>hab y x h2 A e.symm).2 V,λx r=>by
    obtain⟨_,_,_,_,_,h2⟩:=HG.1 r;exact h2⟩
   ·refine(eJ.loc.bT hC e' λq _ g hq2=>g.2 hq2.1).mono λq _ g=>⟨?_,g.2⟩;rcases g.1 with r|r
    ·exact .inl r.1
    ·exact .inr (sj r)
   ·have:=congrArg List.length hkk;simpa using this
   ·have e1:p.1=x.1:=by
     have:=congrArg (λl=>l[i]?) hkk;simp only[za,K,r,ze,Option.some.injEq]at this;exact this
    obtain⟨j,V⟩:=zP (L.mem_iff.1 (zG K));obtain⟨y,W,e2,hs,hcap⟩:=hk1 j p V;have e3:x.2=y.2:=by
     obtain⟨c,l,E,N,_,A,_⟩:=(hI.o y).1 (zG W);obtain⟨c',l',hc',hl',h2,_⟩:=HG.1 (zG r);rw[←e1,e2,E]at hc';cases hc';rw[←e1,e2,N]at hl';cases hl';rw[A,h2]
    rw[e3];exact⟨e1,aH.bT hs e' λq _ g hq2=>hq2.2 g,hcap⟩
 ·rintro C n x out v v' J ⟨ls',w,Q,D,ps,e,hQ,hC,X,hB,hD,hI,hsub,hnd,V⟩ r ho hlt hJ;have e1:Ext F U v':=e.only ho (.inr (zD _));have S:eJ v' (λq=>(Cut F U q\/U.size<q)/\¬Q q) Y tb bud ls':=eJ.loc.bT hC ho.ext λq _ g P=>by
   rcases g.1 with A|A
   ·have:=A.2;omega
   ·omega
  have hrow1:bS out 2 (fK ps) v' (λq=>(Q q/\¬D q)/\q<v'.size):=aI.cut (aI.bT X ho.ext λq _ g P=>by have:=hQ q g.1;omega);have hB1:kH ps w v' (λq=>D q/\q<v'.size):=(kH.loc _ _).cut ((kH.loc _ _).bT hB ho.ext λq _ g P=>by have:=hQ q (hD q g);omega);have hmem:=hsub _ r;simp only[kc,zE,Prod.mk.injEq]at hmem;obtain⟨⟨k,b⟩,hkb,hk1,hx1⟩:=hmem;simp only at hk1 hx1;subst hk1;subst hx1;have hk:=h.keys _ hkb;simp only at hk;have E:tb[k]?=some tb[k]:=cX hk;have N:ls[k]?=some (ls[k]'(by rw[h.len];exact hk)):=cX _;generalize tb[k]=c at E;generalize (ls[k]'(by rw[h.len];exact hk))=l at N;have hcok:=h.ok c (zG E);have hlk:iX Y.ps k=some b:=E9 h.map.nodup hkb;have hin:nt C k:=zE.2 ⟨_,r,rfl⟩;have hl':ls'[k]?=some l:=by rw[hI.l k c l E N,zC hin]
  have M:=hI.step E N hin;have hmF:(λq=>(Cut F U q\/U.size<q)/\¬Q q) Y.m:=by
   obtain⟨H,hH,hm⟩:=S.sep.get .mp;exact hH _ hm.1
  obtain⟨G,hG,hL,hGm,hput⟩:=S.yk hlk hl';have aa:=hG b hL.1;have hbm:b≠Y.m:=λe=>hGm (e▸hL.1);have hbs:b≠U.size:=λe=>by
   subst e;rcases aa.1 with A|A
   ·have:=A.2;omega
   ·omega
  have hblt:b<v'.size:=by obtain⟨_,_,s,hbk,_⟩:=hL;exact hbk.lt
  have hsz1:=ho.1;refine bL (S.hd.rS rfl (ur S.jP E (d:=2) O ?_));simp only[zB (show ¬(2=0) by omega),zB (show ¬(2=1) by omega)];refine hf hL hcok λs z v5 e5 hz hr hL5=>?_;have hs5:=e5.1;obtain⟨eF,h5⟩:=hput v5 _ (λq=>q=b\/z<=q) (e5.sub λq g=>by rw[g];exact hL.1) (λq g=>g.imp (λ(r:q=b)=>by rw[r];exact hL.1) λ(r:z<=q)=>O) hL5;have h5:=h5.cut;have eF5:Ext F U v5:=e1.dW eF λq g=>by
   rcases g.1 with A|A
   ·exact .inl A.1
   ·exact .inr (sj A)
  have hnb:∀q,Q q->q≠b:=λq g hqb=>aa.2 (hqb▸g);have hrow5:=aI.bT hrow1 e5 λq _ g P=>hnb q g.1.1 P;have hB5:=(kH.loc _ _).bT hB1 e5 λq _ g P=>hnb q (hD q g.1) P;have hsl:s.len=(f c l).1.length:=by have:=hr.1;simp[Wu]at this;omega
  have hsub':∀y∈C.filter (λy=>!(y.1==(k:Int))),y∈kc Y.ps:=λy W=>hsub y (zL.1 W).1;have hnd':((C.filter λy=>!(y.1==(k:Int))).map (·.1)).Nodup:=hnd.sublist (List.filter_sublist.map _);by_cases hemp:(f c l).1=[]
  ·rw[zC hemp]at M;refine gg (by rw[hsl,hemp];simp) (hJ out v5 (e5.2 _ O λP=>hbs P.symm) (e5.2 _ S.map.lt λP=>hbm P.symm) ?_);refine⟨_,w,λq=>Q q/\q<v'.size,λq=>D q/\q<v'.size,ps,eF5,λq g=>hQ q g.1,h5.mono λq _ g=>?_,aI.mono hrow5 λq _ g=>⟨⟨g.1.1,g.2⟩,λhd=>g.1.2 hd.1⟩,hB5,λq g=>⟨hD q g.1,g.2⟩,M,hsub',hnd',V⟩;rcases g.1 with A|A|A
   ·exact⟨A.1.1,λr=>A.1.2 r.1⟩
   ·subst A;exact⟨aa.1,λr=>aa.2 r.1⟩
   ·exact⟨.inr O,λr=>O⟩
  ·rw[zB hemp]at M;have hpos:=py.2 hemp;refine lR (by rw[hsl];omega) (nw (cs:=oz (k,s)) λv6 hz6 e6 hb6=>?_);have hrow6:=aI.bP hrow5 e6;have hB6:=(kH.loc _ _).bP hB5 e6;have hr6:=aI.bP (aI.cut hr) e6;have hpl:out.len=ps.length:=by have:=X.1;rw[Vm]at this;omega
   have hol:ps.length<=40:=by
    have B:w.map (·.1)⊆List.range 40:=λj V=>by
     obtain⟨x,r,rfl⟩:=zE.1 V;obtain⟨c,l,E,_⟩:=(hI.o x).1 r;have:=(cY.1 E).1;exact zg.2 O
    have:=hI.n.length_le_of_subset B;rw[hB.1];simpa using this
   refine hrow6.app (ys:=oz (k,s)) rfl rfl ?_ (λv hv=>HE (l:=[(k,s)]) v (by simpa[fK]using hv)) ?_ ?_ nu λs' v7 hl7 e7 hr7=>?_
   ·intro j u hu;rw[add_lit,zH,hb6.cell];exact hu
   ·simp only;have:(out.len+1)*32<=41*32:=mo O O;omega
   ·simp only;omega
   have hs7:=e7.1;have e57:Ext (λq=>(Q q/\¬D q)/\q<v'.size) v5 v7:=(aG.to e6).trans e7;refine hJ s' v7 ?_ ?_ ?_
   ·rw[e57.2 _ O λr=>by have:=hQ _ r.1.1;omega];exact e5.2 _ O λP=>hbs P.symm
   ·rw[e57.2 _ (by have:=S.map.lt;omega) λr=>hmF.2 r.1.1];exact e5.2 _ S.map.lt λP=>hbm P.symm
   refine⟨_,_,λq=>Q q/\q<v'.size\/(v'.size<=q/\q<z)\/v5.size<=q,λq=>D q/\q<v'.size\/(v'.size<=q/\q<z)/\q<v5.size,ps++[(k,s)],eF5.dW e57 λq g=>.inr (sj (hQ q g.1.1)),λq g=>?_,(eJ.loc.bT h5 e57 λq hq5 g r=>?_).mono λq _ g=>?_,?_,⟨?_,λi p y K W=>?_⟩,λq g=>?_,M,hsub',hnd',V.snoc hB1 (λx r=>by
    obtain⟨_,_,_,_,_,_,h2⟩:=(hI.o x).1 r;exact h2) hr.fW hemp (λb hb r W=>by have:=r.2;have:=W.1;omega) k⟩
   ·rcases g with g|g|g
    ·exact hQ q g.1
    ·omega
    ·omega
   ·rcases g.1 with A|A|A
    ·exact A.1.2 r.1.1
    ·exact hnb q r.1.1 A
    ·have:=r.2;omega
   ·have hq5:=g.2;rcases g.1 with A|A|A
    ·exact⟨A.1.1,λr=>by
      rcases r with r|r|r
      ·exact A.1.2 r.1
      ·have:=A.2.1;omega
      ·omega⟩
    ·subst A;exact⟨aa.1,λr=>by
      rcases r with r|r|r
      ·exact aa.2 r.1
      ·omega
      ·omega⟩
    ·exact⟨.inr O,λr=>by
      rcases r with r|r|r<;>omega⟩
   ·rw[Ht];have:fK [(k,s)]=oz (k,s):=by simp[fK]
    rw[this];refine aI.mono hr7 λq _ g=>?_;rcases g with g|g
    ·exact⟨.inl ⟨g.1.1,g.2⟩,λhd=>by
      rcases hd with hd|hd
      ·exact g.1.2 hd.1
      ·omega⟩
    ·exact⟨.inr (.inr O),λhd=>by
      rcases hd with hd|hd<;>omega⟩
   ·rw[zK,zK,hB.1];rfl
   ·rcases kg i ps.length with hi|hi
    ·rw[zd hi]at K;rw[zd (by rw[←hB.1];exact hi)]at W;obtain⟨a1,a2,a3⟩:=hB6.2 i p y K W;exact⟨a1,aH.mono (aH.bT a2 e7 λq _ g r=>r.1.2 g.1) λq _ g=>.inl g,a3⟩
    ·rw[zp hi]at K;rw[zp (by rw[←hB.1];exact hi)]at W;have hi0:i-ps.length=0:=by
      have:=(cY.1 K).1;simp at this;omega
     rw[hi0]at K;rw[show i-w.length=0 by rw[←hB.1];exact hi0]at W;simp at K W;subst K;subst W;exact⟨rfl,aH.mono (aH.bT hr6.fW e7 λq _ g r=>by have:=r.2;have:=g.1;omega) λq _ g=>.inr g,bS.nG hr⟩
   ·rcases g with g|g
    ·exact .inl ⟨hD q g.1,g.2⟩
    ·exact .inr (.inl g.1)
theorem NW (hso:G9)(h:eJ U F Y tb bud ls){R:Sl->Hp->Prop}
 (hR:∀σ' s (Q:Rg),Ext F U σ'->(∀q,Q q->U.size<=q)->eJ σ' (λq=>Grow F U q/\¬Q q) Y tb bud (KC Z4 tb ls)->iF s (KH Z4 tb ls) σ' Q->R s σ'):XX.c (aW Y.p) U R:=by
 refine XX.o ?_;unfold XX.v;exact Jq hso RQ (λc _=>TR c) h hR
theorem OO (hso:G9)(h:eJ U F Y tb bud ls){R:Sl->Hp->Prop}
 (hR:∀σ' s (Q:Rg),Ext F U σ'->(∀q,Q q->U.size<=q)->eJ σ' (λq=>Grow F U q/\¬Q q) Y tb bud (KC Vp tb ls)->iF s (KH Vp tb ls) σ' Q->R s σ'):Xn.c (aW Y.p) U R:=by
 refine Xn.o ?_;unfold Xn.v;exact Jq hso SA Pr h hR
end Go.Ar