/- Texts joined. -/
import Derived.Test.YtoeidadjhkkioaaGreatDoorZ3
set_option linter.unusedVariables false
set_option linter.unusedSimpArgs false
namespace Go.Vc
open Go
def xd (h:Hp)(it r:Nat):Nat:=
 match h[it]?,h[r]? with
 | some (.mapIter _ _ seen _),some (.map es _)=>(es.toList.filter λe=>!seen.contains e.born).length
 | _,_=>0
variable {U:Hp}{k:IntKind}{c:CK}{l todo:List (Int×c.T)}{cur:Option (Int×c.T)}{r it:Nat}
theorem It.num {h:Hp}(hi:It h it k c (some r) l todo cur):xd h it r=todo.length:=by
 obtain⟨i,e,a,g,b,s,j,p,m,d,u⟩:=hi;unfold xd;rw[g,b];have:=congrArg List.length d;simpa using this
theorem It.bT {h h':Hp}(hi:It h it k c (some r) l todo cur)(h1:h'[it]?=h[it]?)(h2:h'[r]?=h[r]?):It h' it k c (some r) l todo cur:=by
 obtain⟨e,d,b,g,i,a⟩:=hi;exact⟨e,d,b,h1.trans g,h2.trans i,a⟩
theorem BB {A:aP}{body:Int->c.T->Hp->(Hp->Prop)->Prop}(hm:dJ U r k c l)(I:List (Int×c.T)->Hp->Prop)
 (h0:∀v,v.size=U.size+1->bL U v->I l v)
 (hend:∀v,I [] v->A v)
 (hstep:∀todo n x v v' (J:aP),I todo v->(n,x)∈todo->QR v v' U.size->U.size<v.size->(∀w,w[U.size]?=v'[U.size]?->w[r]?=v'[r]?->I (todo.filter λy=>!(y.1==n)) w->J w)->body n x v' J) :
 oW k c (some r) U λit v3=>Ya [] (λI=>I v3) λJ1 v4=>pG k c it v4 (A v4) λ_ _ v5=>oK k c it v5 λkey1 val1=>body key1 val1 v5 J1:=by
 refine⟨l,hm,λv L M G=>?_⟩;have E:bL U v:=⟨O,λb j _=>M b j⟩;refine Ep (λw=>∃todo d,It w U.size k c (some r) l todo d/\I todo w/\U.size<w.size) (λw=>xd w U.size r) ⟨l,none,G,h0 v L E,O⟩ ?_;rintro w ⟨todo,d,e,C,s⟩;refine⟨rfl,some r,l,todo,d,e,λN=>?_,λn x B D K g=>?_⟩
 ·subst N;exact hend w C
 ·refine⟨rfl,some r,l,_,n,x,g,hstep todo n x w D _ C B K s λu i m p=>?_⟩;have a:=g.bT i m;refine⟨⟨_,_,a,p,?_⟩,?_⟩
  ·obtain⟨P,F,z,H,_⟩:=a;exact(jP.1 H).1
  ·rw[a.num,e.num];exact B6.2 ⟨(n,x),B,by simp⟩
theorem xN {a:CK}{x0:a.T}{A:a.T->Hp->Prop}{body:Int->c.T->a.T->Hp->(a.T->Hp->Prop)->Prop}(hm:dJ U r k c l)(I:List (Int×c.T)->a.T->Hp->Prop)
 (h0:∀v,v.size=U.size+1->bL U v->I l x0 v)
 (hend:∀z v,I [] z v->A z v)
 (hstep:∀todo n x z v v' (J:a.T->Hp->Prop),I todo z v->(n,x)∈todo->QR v v' U.size->U.size<v.size->(∀z' w,w[U.size]?=v'[U.size]?->w[r]?=v'[r]?->I (todo.filter λy=>!(y.1==n)) z' w->J z' w)->body n x z v' J) :
 oW k c (some r) U λit v3=>Ya [a] (λI=>I x0 v3) λJ1 z v4=>pG k c it v4 (A z v4) λ_ _ v5=>oK k c it v5 λkey1 val1=>body key1 val1 z v5 J1:=by
 refine⟨l,hm,λv N P K=>?_⟩;have G:bL U v:=⟨O,λb m _=>P b m⟩;refine Qg (a:=a) (λz w=>∃todo e,It w U.size k c (some r) l todo e/\I todo z w/\U.size<w.size) (λ_ w=>xd w U.size r) ⟨l,none,K,h0 v N G,O⟩ ?_;rintro z w ⟨todo,e,g,E,B⟩;refine⟨rfl,some r,l,todo,e,g,λQ=>?_,λn x D F M i=>?_⟩
 ·subst Q;exact hend z w E
 ·refine⟨rfl,some r,l,_,n,x,i,hstep todo n x z w F _ E D M B λz' u j p s=>?_⟩;have d:=i.bT j p;refine⟨⟨_,_,d,s,?_⟩,?_⟩
  ·obtain⟨R,H,C,L,_⟩:=d;exact(jP.1 L).1
  ·rw[d.num,g.num];exact B6.2 ⟨(n,x),D,by simp⟩
end Go.Vc
namespace Go.Ar
open Go Go.Vc Go.Proofs
open Go.Bu (Zt)
variable {U:Hp}{F:Rg}{p q r:Nat}{sp:Sp}{l:List (Int×Sl)}{B:Nat->Nat}
theorem QG {α:Type}{l:List (Int×α)}(hn:(l.map (·.1)).Nodup){n:Int}{x:α}(h:(n,x)∈l):bU l n=some x:=by
 induction l with
 | nil=>simp at h
 | cons y l ih=>
  rw[KG];simp only[zS,zt]at hn;rcases zX.1 h with h1|h1
  ·subst h1;rw[zC rfl]
  ·have:¬y.1=n:=λe=>hn.1 (zF.2 ⟨_,h1,e.symm⟩);rw[zB this];exact ih hn.2 h1
end Go.Ar
namespace Go.Bu
open Go Go.Vc Go.Proofs
variable {U:Hp}{p n sb:Nat}{S:Nat->Bool}{ms:List Nat}
def kG (ms:List Nat):List Value:=ms.map λm=>Value.map (some m)
structure Part (B:Nat) (h:Hp) (p n:Nat) (j:Nat) (s:Sl) (ms:List Nat):Prop where
 len:ms.length=j
 sl:s.len=j
 hd:bZ h p [.int .i64 n,.slice s.a s.len s.cap]
 own:Go.Vc.Own (λb=>B<=b/\b≠p/\b∉ms) h s 1 (kG ms)
 new:∀m∈ms,B<=m/\m≠p/\m<h.size
 nd:ms.Nodup
theorem Part.done {B:Nat}{h:Hp}{j:Nat}{s:Sl}(hp:Part B h p n j s ms)(hB:B<=p)(hj:0<j)(n1:1<=n)(n2:n<=1024)(lo:2^j<=2*n)(hi:n<2^j)(jr:Bounded S n)
 (maps:∀k m,ms[k]?=some m->∃B:List (Int×Bool),dJ h m .i64 .b B/\Keys S k B):∃sb,BH h p n S sb ms/\∀b,fp p sb ms b->B<=b:=by
 rcases hp.own.2 with⟨_,hl,_⟩|⟨sb,cs,⟨hq,hqp,hqm⟩,ha,hb,hle,hcl,ht⟩
 ·have:=hp.sl;omega
 ·refine⟨sb,⟨?_,?_,maps,?_,n1,n2,?_,?_,jr⟩,?_⟩
  ·refine⟨s.cap,?_⟩;have:=hp.hd;rw[ha,hp.sl,←hp.len]at this;exact this
  ·refine⟨cs.drop (kG ms).length,?_⟩;have:kG ms++cs.drop (kG ms).length=cs:=by
    conv=>lhs;lhs;rw[←ht]
    exact oa _ _
   show bZ h sb (kG ms++_);rw[this];exact hb
  ·simp only[zt,zX,not_or];exact⟨⟨λe=>hqp e.symm,λa=>(hp.new p a).2.1 rfl⟩,hqm,hp.nd⟩
  ·rw[hp.len];exact lo
  ·rw[hp.len];exact hi
  ·intro b hb;simp only[fp,zX]at hb;rcases hb with rfl|rfl|h
   ·exact hB
   ·exact hq
   ·exact(hp.new b h).1
theorem Part.Ra {B:Nat}{h:Hp}{j:Nat}{s:Sl}(hp:Part B h p n j s ms):cell h ⟨p,1,none⟩=some (.slice s.a s.len s.cap):=by rw[hp.hd.cell];rfl
theorem Part.bP {B:Nat}{h h':Hp}{j:Nat}{s:Sl}(hp:Part B h p n j s ms)(e:bL h h'):Part B h' p n j s ms:=
 ⟨hp.len,hp.sl,e.bW hp.hd id,hp.own.bP e,λm a=>⟨(hp.new m a).1,(hp.new m a).2.1,uu (hp.new m a).2.2 e.1⟩,hp.nd⟩
theorem Part.step {B:Nat}{h:Hp}{j m e t bytes:Nat}{s:Sl}{zs:List Value}{K:Sl->Hp->Prop}(hp:Part B h p n j s ms)(hj:j<=1000)(hbt:bytes<=1000)(hz:zs.length=1)(hm:B<=m)(hmp:m≠p)(hml:m<h.size)(hmn:m∉ms)(hms:¬Hu s m)
 (hpB:p<h.size) (hBh:B<=h.size)
 (hgo:∀s' h',Ext (Hu s) h h'->s'.len=j+1->bZ h' p [.int .i64 n,.slice s.a s.len s.cap] →
  (∀h2,QR h' h2 p->bZ h2 p [.int .i64 n,.slice s'.a s'.len s'.cap]->Part B h2 p n (j+1) s' (ms++[m]))->K s' h') :
 App s 1 bytes e zs ⟨some ⟨h.size,0,none⟩,1,1⟩ (h.push (.cells #[.map (some m)] t (0,0))) K:=by
 have J:=hp.sl;have y:Go.Vc.Own (λb=>B<=b/\b≠p/\b∉ms++[m]) (h.push (.cells #[.map (some m)] t (0,0))) s 1 (kG ms):=by
  have d:=hp.own;have h2:Go.Vc.Own (λb=>B<=b/\b≠p/\b∉ms++[m]) h s 1 (kG ms):=by
   refine⟨d.1,d.2.imp id ?_⟩;rintro⟨b,cs,⟨q1,q2,q3⟩,ha,r⟩;refine⟨b,cs,⟨q1,q2,?_⟩,ha,r⟩;simp only[zK,zP,not_or];exact⟨q3,λe=>hms ⟨0,by rw[ha,e]⟩⟩
  exact h2.bP (HL _ _)
 have z:(h.push (.cells #[.map (some m)] t (0,0))).size=h.size+1:=by simp
 refine y.app (ys:=[.map (some m)]) ?_ hz rfl ψ (by simp[dR]) ?_ ?_ ng λs' h' A M G N=>?_
 ·intro b i;rw[z]at i;refine⟨O,O,?_⟩;simp only[zK,zP,not_or];exact⟨λw=>by have:=(hp.new b w).2.2;omega,O⟩
 ·simp only;have:(s.len+1)*bytes<=1001*1000:=mb O hbt;omega
 ·simp only;omega
 ·simp only at A;have g:Ext (Hu s) h h':=(HL h _).to.trans M;have C:¬Hu s p:=λi=>(hp.own.ji i).1.2.1 rfl;refine hgo s' h' g O (g.bW hp.hd C) λh2 u D=>⟨by simp[hp.len],O,D,?_,?_,?_⟩
  ·have:kG (ms++[m])=kG ms++[.map (some m)]:=by simp[kG]
   rw[this];exact G.bT (Ext.eM (F:=(· = p)) u rfl) (λb E _ H=>E.2.1 H)
  ·intro x hx;have L:h2.size=h'.size:=u.1;have:=g.1;rcases zK.1 hx with d|d
   ·have:=hp.new x d;exact⟨this.1,this.2.1,O⟩
   ·simp at d;subst d;exact⟨hm,hmp,O⟩
  ·rw[nT];refine⟨hp.nd,by simp,?_⟩;intro a ha b i;simp at i;subst i;rintro rfl;exact hmn ha
def iv:Nat->Bool:=λ_=>false
theorem PK (k:Nat):Keys iv k []:=by
 refine⟨by simp,λq a=>?_⟩;have:=Ua a (Vd k q);simp[iv]at this
theorem tC (aF:Int){R:Option Addr->Int->Hp->Prop}(hbad:¬(1<=aF/\aF<=1024)->R none 1 U)
 (hR:∀(n:Nat),aF=(n:Int)->1<=n->n<=1024->∀σ' sb ms,bL U σ'->BH σ' U.size n iv sb ms->(∀b,fp U.size sb ms b->U.size<=b)->R (some ⟨U.size,0,none⟩) 0 σ'):Kl.c aF U R:=by
 refine Kl.o ?_;unfold Kl.v;refine bV.intro (cQ (λg=>cD rfl (hbad O)) λg=>?_);refine cQ (λh2=>hbad O) λh2=>?_;obtain⟨n,rfl⟩:=zc (show 0<=aF by omega);have N:1<=n:=by omega
 have L:n<=1024:=by omega
 unfold Nw;have e0:=HL U (.cells #[.int .i64 (n:Int),.slice none 0 0] 52 (0,0));refine Qg (a:=bO) (λt h=>∃(j:Nat) (s:Sl) (ms:List Nat),t=((2^j:Nat):Int)/\2^j<=2*n/\bL U h/\U.size<h.size/\Part U.size h U.size n j s ms/\∀m∈ms,dJ h m .i64 .b []) (λt _=>2*n+1-t.toNat)
  ⟨0,⟨none,0,0⟩,[],rfl,by simp;omega,Ext.push _ _ _,by simp,⟨rfl,rfl,bZ.push _ _ _,Own.nil _ _ _,by simp,by simp⟩,by simp⟩ ?_
 rintro t h ⟨j,s,ms,rfl,D,M,X,d,w⟩;have hj:j<=11:=by
  apply Classical.byContradiction;intro hc;have:2^12<=2^j:=oL aB O;omega
 have W:=kL j;refine cQ (λZ=>?_) (λG=>?_)
 ·refine aG ?_;rw[add_lit,zH];refine nS d.Ra ?_;have e1:=HL h (.map #[] 0);have P:(h.push (.map #[] 0)).size=h.size+1:=by simp
  have H:=d.bP e1;refine H.step (m:=h.size) O O rfl O O O (λy=>by have:=(d.new _ y).2.2;omega) (λu=>by have:=(d.own.ji u).2;omega) O O λV h' E hl u p=>?_;refine aG (u.Le aA λh2 z K=>?_);have C:=p h2 z K;have A:bL U h2:=by
   refine Ext.fresh (Ext.fresh (M.trans e1) E λi B=>(d.own.ji B).1.1) (Ext.eM (F:=(· = U.size)) z rfl) λi B=>?_;rw[B];exact zD _
  refine cS (m:=2^(j+1)) (by rw[mQ];omega) (by rw[mQ];omega) ⟨⟨j+1,V,ms++[h.size],rfl,by rw[mQ];omega,A,?_,C,?_⟩,by rw[mQ];omega⟩
  ·have:=z.1;have:=E.1;omega
  ·intro m y;have po:∀{m:Nat},dJ (h.push (.map #[] 0)) m .i64 .b []->¬Hu s m->m≠U.size->dJ h2 m .i64 .b []:=λhM hn J=>HB z (E.fR hM hn) J;rcases zK.1 y with g|g
   ·exact po (e1.fR (w m g) id) (λu=>(d.own.ji u).1.2.2 g) (d.new m g).2.1
   ·simp at g;subst g;exact po (dJ.push _ _ _) (λu=>by have:=(d.own.ji u).2;omega) O
 ·have r:0<j:=by
   rcases B3 j with e|e
   ·subst e;simp at G;omega
   ·exact e
  obtain⟨sb,Q,hF⟩:=d.done (S:=iv) (zD _) r N L D O (λx Y=>by simp[iv]at Y) λk m y=>⟨[],w m (zG y),PK k⟩;exact hR n rfl N L h sb ms M Q hF
end Go.Bu
namespace Go.Proofs
open Go.Vc
set_option maxRecDepth 100000
def Xr.h:Hn:=.q .o1 (.q (.cW (.seq [.op,.op,.op,.cR true 5 (RI.ops 5),.op])) .l)
def Xr.v (a:R2)(b:Hp)(c:aO):Prop:=bV (λd e=>c d e) λf=>If (!a.isNone) (bG a 1 b λh=>f (!h.isNone) b) (f false b)
theorem Xr.o {a b c}(d:Xr.v a b c):Xr.c a b c:=Wa Tryz.func133 (x:=Xr.h) (R0 d)
def Kj.h:Hn:=.q .o2 (.q (.q .o3 .aJ) (.q .o3 (.q (.q (.cW (.seq [.op,.op,.op,.cR false 3 (RI.ops 3),.op,.cR false 2 [.op,.op],.op,.cR false 2 [.op,.op]])) .aJ) (.q .o8 (.q .o9 (.q .o9 (.q (.q .o3 (.k (.loop [(61,.I)] (.q .o1 (.q (.c .l .l) (.q (.k (.q .o4 (.q .o7 (.q .o9 (.cW (.gH true [18,21] [] (.tk [0,1,2,3,4,5,6,9,10,11,12,13] (.all [(7,.all [(8,.all [(14,.all [(15,.take 16 (.take 17 (.all [(18,.take 19 (.take 20 (.all [(21,.done)])))])))])]),(14,.all [(8,.all [(15,.take 16 (.take 17 (.all [(18,.take 19 (.take 20 (.all [(21,.done)])))])))])])]),(14,.all [(7,.all [(8,.all [(15,.take 16 (.take 17 (.all [(18,.take 19 (.take 20 (.all [(21,.done)])))])))])])])])))))))) .o2)))))) (.q .o3 .l))))))))
def Kj.v (a:Sl)(b:R2)(c:Int)(d:Hp)(e:Option Addr->Int->Hp->Prop):Prop:=ZO.c a d λf g=>If (!f) (e none 2 g) (X0.c b g λh i=>bV (λj k=>bV (λl m=>bV (λn o=>If n (e none 1 o) (Wp.c a o λp q=>Qt.c q λr s=>Nw (.map #[] 0) s λt u=>aV #[.slice p.a p.len p.cap,.pointer b,.pointer none,.pointer none,.pointer r,.slice none 0 0,.slice none 0 0,.map (some t.block)] 199 u λv w=>Kl.c h w λx y z=>bX (some v) λaa=>aR aa 2 (.pointer x) z λab=>KX.c h ab λac ad ae=>bX (some v) λaf=>aR af 3 (.pointer ac) ae λag=>Ya [bO] (λah=>ah 0 ag) λai (aj:Int) ak=>If (aj<((a.len:Nat):Int)) (Ix a.a a.len aj 3 λal=>aQ al 0 ak λam=>aQ al 1 ak λan=>aQ al 2 ak λao=>aV #[.I 0,.I 0,.I 0] 149 ak λap aq=>aR ap 0 (.I am) aq λar=>aR ap 1 (.I an) ar λau=>aR ap 2 (.I ao) au λav=>aQ ap 0 av λaw=>aQ ap 1 av λax=>aQ ap 2 av λay=>Qy.c aw ax ay av λaz a0 a1=>aQ ap 2 a1 λa2=>Z5.c a2 c a1 λa3 a4 a5=>Jn [] (λa6=>bM (aj+1) λa7=>ai a7 a6) λa8=>dZ a5 λa9=>bX (some v) λba=>aT a9 ba 5 λbb=>bX (some v) λbc=>aT a9 bc 6 λbd=>(aV #[.pointer az] 202 a5 λbe bf=>And (a9 bf) <| (App bb 1 8 202 [.pointer none] ⟨some be,1,1⟩ bf λbg bh=>And (a9 bh) <| aV #[.pointer a3] 204 bh λbi bj=>And (a9 bj) <| App bd 1 8 204 [.pointer none] ⟨some bi,1,1⟩ bj λbk bl=>And (a9 bl) <|
 bX (some v) λbm=>aR bm 5 (.slice bg.a bg.len bg.cap) bl λbn=>bX (some v) λbo=>aR bo 6 (.slice bk.a bk.len bk.cap) bn λbp=>a8 bp) ∧ (aV #[.pointer a3] 204 bf λbq br=>And (a9 br) <| App bb 1 8 202 [.pointer none] ⟨some be,1,1⟩ br λbs bt=>And (a9 bt) <| App bd 1 8 204 [.pointer none] ⟨some bq,1,1⟩ bt λbu bv=>And (a9 bv) <| bX (some v) λbw=>aR bw 5 (.slice bs.a bs.len bs.cap) bv λbx=>bX (some v) λbz=>aR bz 6 (.slice bu.a bu.len bu.cap) bx λb0=>a8 b0)) ∧ (aV #[.pointer a3] 204 a5 λb1 b2=>And (a9 b2) <| aV #[.pointer az] 202 b2 λb3 b4=>And (a9 b4) <| App bb 1 8 202 [.pointer none] ⟨some b3,1,1⟩ b4 λb5 b6=>And (a9 b6) <| App bd 1 8 204 [.pointer none] ⟨some b1,1,1⟩ b6 λb7 b8=>And (a9 b8) <| bX (some v) λb9=>aR b9 5 (.slice b5.a b5.len b5.cap) b8 λca=>bX (some v) λcb=>aR cb 6 (.slice b7.a b7.len b7.cap) ca λcc=>a8 cc)) (e (some v) 0 ak))) λcd=>If l (cd true m) (cd (decide (c>8)) m)) λce=>If j (ce true k) (ce (decide (c<0)) k)) λcf=>If (h<32) (cf true i) (Nz 16 <| cf ((h.tmod 16) != 0) i))
theorem Kj.o {a b c d e}(f:Kj.v a b c d e):Kj.c a b c d e:=Wa Tryz.func154 (x:=Kj.h) (R0 f)
def WQ.h:Hn:=.q .o2 (.q (.q .o4 (.q .o2 (.c (.q .o3 .l) .l))) (.q (.o 12) .l))
def WQ.v (a:R2)(b:Int)(c:Hp)(d:Sl->Int->Hp->Prop):Prop:=Xe.c a b c λe f=>If (e != 0) (d ⟨none,0,0⟩ e f) (bF a 6 f λh=>Ix h.a h.len b 1 λi=>fS i f λj=>WR.c j f λk l m=>d k l m)
theorem WQ.o {a b c d}(e:WQ.v a b c d):WQ.c a b c d:=Wa Tryz.func169 (x:=WQ.h) (R0 e)
def WW.h:Hn:=.q .o2 (.q (.q .o4 (.q .o2 (.c (.q .o3 .l) .l))) (.q (.o 13) .l))
def WW.v (a:R2)(b c:Int)(d:Hp)(e:Sl->Int->Hp->Prop):Prop:=Xe.c a b d λf g=>If (f != 0) (e ⟨none,0,0⟩ f g) (bF a 5 g λi=>Ix i.a i.len b 1 λj=>fS j g λk=>Xp.c k c g λl m n=>e l m n)
theorem WW.o {a b c d e}(f:WW.v a b c d e):WW.c a b c d e:=Wa Tryz.func171 (x:=WW.h) (R0 f)
def Ye.h:Hn:=.q .o1 (.q (.q .o4 (.q .o2 .aJ)) (.q (.o 17) (.q (.q .o2 .aJ) (.q .fZ .l))))
def Ye.v (a:R2)(b:Int)(c:Hp)(d:aN):Prop:=Xe.c a b c λe f=>If (e != 0) (d e f) (bF a 0 f λh=>Ix h.a h.len b 3 λi=>aQ i 1 f λj=>bM (b+1) λk=>YN.c a j 1 k f λl m n=>If (m != 0) (d m n) (bF a 5 n λp=>Ix p.a p.len b 1 λq=>fS q n λr=>Y6.c r l n λs t=>d s t))
theorem Ye.o {a b c d}(e:Ye.v a b c d):Ye.c a b c d:=Wa Tryz.func172 (x:=Ye.h) (R0 e)
def Xc.h:Hn:=.q .o2 (.q (.k (.q .o4 (.c .aL (.q (.cW (.seq [.op,.op,.op,.cR false 2 [.op,.op],.op,.cR false 2 [.op,.op],.op,.cR false 2 [.op,.op],.op,.cR false 5 (RI.ops 5),.op])) .aJ)))) (.q .o9 (.q (.q .o2 (.c (.q .o3 .l) .l)) (.q .o7 (.q .o3 .l)))))
def Xc.v (a:R2)(b c:Int)(d:Hp)(e:Int->Int->Hp->Prop):Prop:=Xr.c a d λf g=>If (!f) (e 0 5 g) (bV (λh i=>bV (λj k=>bV (λl m=>bV (λn o=>If n (e 0 1 o) (YN.c a b c 41 o λp q r=>If (q != 0) (e 0 q r) (bJ a 7 r λt=>kH .i64 bO t p b r λu=>e p 0 u))) λv=>If l (v true m) (bM (c-1) λw=>v ((bits .and .i64 c w) != 0) m)) λx=>If j (x true k) (x (decide (c>16)) k)) λy=>If h (y true i) (y (decide (c<1)) i)) λz=>If (b<1) (z true g) (z (decide (b>64)) g))
theorem Xc.o {a b c d e}(f:Xc.v a b c d e):Xc.c a b c d e:=Wa Tryz.func174 (x:=Xc.h) (R0 f)
def Xb.h:Hn:=.q .o1 (.q (.q .o3 .aK) (.q (.o 11) (.q (.q .o2 .aK) (.q .o6 (.q .o6 .aM)))))
def Xb.v (a:R2)(b:Int)(c:Hp)(d:aN):Prop:=Xr.c a c λe f=>If (!e) (d 5 f) (bJ a 7 f λh=>Lk .i64 bO h b f λi=>If (!i.isSome) (d 8 f) (bJ a 7 f λk=>lG .i64 bO k b f λl=>aV #[.I b,.I (i.getD 0)] 268 l λm n=>Yj.c a ⟨some m,1,1⟩ n λo=>d 0 o))
theorem Xb.o {a b c d}(e:Xb.v a b c d):Xb.c a b c d:=Wa Tryz.func182 (x:=Xb.h) (R0 e)
def Yj.h:Hn:=.q .o3 (.k (.loop [(8,.I)] (.q .o1 (.q (.c .l .l) (.q (.k (.q .o4 (.q (.cW (.tail 8 (RI.ops 8) [.op])) (.q (.cW (.tail 8 (RI.ops 8) [.op])) (.cW (.tail 8 (RI.ops 8) [.op])))))) .o2)))))
def Yj.v (a:R2)(b:Sl)(c:Hp)(d:aP):Prop:=Ya [bO] (λe=>e 0 c) λf (g:Int) h=>If (g<((b.len:Nat):Int)) (Ix b.a b.len g 2 λi=>aQ i 0 h λj=>aQ i 1 h λk=>aV #[.I 0,.I 0] 268 h λl m=>aR l 0 (.I j) m λn=>aR l 1 (.I k) n λo=>bG a 4 o λq=>aQ l 0 o λr=>aQ l 1 o λs=>X1.c q r s o λt u=>bG a 3 u λw=>aQ l 0 u λx=>aQ l 1 u λy=>XD.c w x y u λz aa=>bG a 2 aa λac=>aQ l 0 aa λad=>aQ l 1 aa λae=>Yg.c ac ad ae aa λaf ag=>bM (g+1) λah=>f ah ag) (d h)
theorem Yj.o {a b c d}(e:Yj.v a b c d):Yj.c a b c d:=Wa Tryz.func184 (x:=Yj.h) (R0 e)
def Xa.h:Hn:=.q .o1 (.q (.q .o4 (.q .o2 .aJ)) (.q (.o 14) (.q (.q .o2 .aJ) (.q .o3 .aM))))
def Xa.v (a:R2)(b:Int)(c:Sl)(d:Hp)(e:aN):Prop:=Xe.c a b d λf g=>If (f != 0) (e f g) (bF a 5 g λi=>Ix i.a i.len b 1 λj=>fS j g λk=>YZ.c k c g λl m n=>If (m != 0) (e m n) (Yj.c a l n λo=>e 0 o))
theorem Xa.o {a b c d e}(f:Xa.v a b c d e):Xa.c a b c d e:=Wa Tryz.func194 (x:=Xa.h) (R0 f)
def Xe.h:Hn:=.q .o1 (.q (.k (.q .o4 (.c .aM (.q (.cW (.seq [.op,.op,.op,.cR false 7 (RI.ops 7),.op])) .aK)))) .aM)
def Xe.v (a:R2)(b:Int)(c:Hp)(d:aN):Prop:=Xr.c a c λe f=>If (!e) (d 5 f) (bV (λg h=>If g (d 1 h) (d 0 h)) λi=>If (b<0) (i true f) (bF a 0 f λk=>i (decide (b≥((k.len:Nat):Int))) f))
theorem Xe.o {a b c d}(e:Xe.v a b c d):Xe.c a b c d:=Wa Tryz.func231 (x:=Xe.h) (R0 e)
def YN.h:Hn:=.q .o2 (.q (.o 12) (.kj [(10,.I),(11,.I)] (.q .o2 (.c (.q .o1 (.q (.k (.loop [(12,.I)] (.q (.q .o5 (.c .l .l)) (.k .o3)))) (.q (.q .o4 .aJ) (.o 12)))) .l)) (.q (.q .o2 (.c (.q .o3 .l) .l)) (.q .o7 (.q .o8 (.q .o3 .l))))))
def YN.v (a:R2)(b c d:Int)(e:Hp)(f:Int->Int->Hp->Prop):Prop:=bG a 2 e λh=>XY.c h b c e λi j k=>Jn [bO,bO] (λ(l:Int) (m:Int) n=>If (m != 0) (f 0 m n) (bG a 3 n λp=>XM.c p l b n λq r=>bG a 4 r λt=>Yr.c t l b d r λu v=>f l 0 v)) λw=>If (j==6) (Ya [bO] (λx=>x 16 k) λy (z:Int) aa=>If (z<(if c>b then c else b)) (bM (z*2) λab=>y ab aa) (Y5.c a z aa λac ad=>If (!ac) (f 0 6 ad) (bG a 2 ad λaf=>XY.c af b c ad λag ah ai=>w ag ah ai))) (w i j k)
theorem YN.o {a b c d e f}(g:YN.v a b c d e f):YN.c a b c d e f:=Wa Tryz.func234 (x:=YN.h) (R0 g)
def Y9.h:Hn:=.q .o3 (.q (.q .o3 (.c (.q .o3 .l) .l)) (.q (.q .o2 (.c (.q .o3 .l) .l)) (.q .o8 (.q (.q .o2 (.c (.q .o3 .l) .l)) (.kj [] (.q .o2 (.c (.q .o5 (.k (.loop [] (.q (.cW (.seq [.it .i64 bO,.op])) (.q (.c .l .l) (.k (.q (.cW (.seq [.it .i64 bO,.op,.op,.op,.op])) (.q .o3 (.q (.cW (.seq [.op,.op,.op,.op,.cR true 5 (RI.ops 5)])) (.c (.q .o5 .l) .l)))))))))) .l)) (.q (.o 15) (.q (.q .o2 (.c (.q .o4 .l) .l)) (.q .o6 .l))))))))
def Y9.v (a:R2)(b:Int)(c:Hp)(d:Int->Int->Int->Hp->Prop):Prop:=Xr.c a c λe f=>If (!e) (d 0 0 5 f) (If (b<0) (d 0 0 8 f) (bG a 4 f λh=>Nz 256<|bM (b.tdiv 256) λi=>Zn.c h i f λj k=>If (j==0) (d 0 0 8 k) (Jn [] (λl=>bF a 5 l λn=>bM (j-1) λo=>Ix n.a n.len o 1 λp=>fS p l λq=>Yv.c q b l λr s t=>If (s != 0) (d 0 0 s t) (bM (j-1) λu=>d u r 0 t)) λv=>If (j==41) (bJ a 7 k λx=>oW .i64 bO x k λy z=>Ya [] (λaa=>aa z) λab ac=>pG .i64 bO y ac (v ac) (λad ae af=>oK .i64 bO y af λag ah=>Nz 256<|bM (b.tdiv 256) λai=>bV (λaj ak=>If aj (bM (ag*256) λal=>d (-1) al 0 ak) (ab ak)) λam=>If (ag<=ai) (bM (ag+ah) λan=>am (decide (ai<an)) af) (am false af))) (v k))))
theorem Y9.o {a b c d}(e:Y9.v a b c d):Y9.c a b c d:=Wa Tryz.func238 (x:=Y9.h) (R0 e)
def W7.h:Hn:=.q .o2 (.q (.q .o4 (.q .o2 (.c (.q .o3 .l) .l))) (.q (.q (.o 11) .aJ) (.q (.q .o3 (.k (.loop [(32,.I)] (.q .o1 (.q (.c .l .l) (.q (.k (.q .o3 (.q (.o 14) (.q (.cW (.seq [.op,.op,.op,.cR false 2 [.op,.op]])) .aJ)))) .o2)))))) (.q (.o 13) .l))))
def W7.v (a:R2)(b:Int)(c:Sl)(d:Hp)(e:Bool->Int->Hp->Prop):Prop:=Xe.c a b d λf g=>If (f != 0) (e false f g) (bF a 0 g λi=>Ix i.a i.len b 3 λj=>aQ j 2 g λk=>If (((c.len:Nat):Int) != k) (e false 1 g) (Ya [bO] (λl=>l 0 g) λm (n:Int) o=>If (n<((c.len:Nat):Int)) (Ix c.a c.len n 1 λp=>bN p o λq=>bF a 5 o λs=>Ix s.a s.len b 1 λt=>fS t o λu=>Xl.c u q o λv w x=>bV (λy z=>If y (e false 8 z) (bM (n+1) λaa=>m aa z)) λab=>If (w != 0) (ab true x) (ab (!v) x)) (bF a 6 o λad=>Ix ad.a ad.len b 1 λae=>fS ae o λaf=>Xo.c af c o λag ah ai=>e ag ah ai)))
theorem W7.o {a b c d e}(f:W7.v a b c d e):W7.c a b c d e:=Wa Tryz.func242 (x:=W7.h) (R0 f)
def Y7.h:Hn:=.q .o1 (.q (.cW (.seq [.op,.op,.op,.cR true 7 (RI.ops 7),.op])) .l)
def Y7.v (a:R2)(b:Int)(c:Hp)(d:aO):Prop:=Xr.c a c λe f=>bV (λg h=>d g h) λi=>If e (bG a 3 f λk=>X4.c k b f λl m=>i (decide (l>0)) m) (i false f)
theorem Y7.o {a b c d}(e:Y7.v a b c d):Y7.c a b c d:=Wa Tryz.func284 (x:=Y7.h) (R0 e)
def Y5.h:Hn:=.q .o1 (.q (.q .o2 (.k (.loop [(5,.I)] (.q (.q .o9 (.c .l .l)) (.q (.k (.q (.q .o8 (.c .l .l)) (.q (.q .o3 (.k (.loop [(6,.I)] (.q (.q .o6 (.c .l .l)) (.q (.k .o6) .o3))))) (.q .o7 .aM)))) .o4))))) .aM)
def Y5.v (a:R2)(b:Int)(c:Hp)(d:aO):Prop:=Ya [bO] (λe=>e b c) λf (g:Int) h=>bM (g+b) λi=>bG a 1 h λk=>X0.c k h λl m=>If (i<=l) (bG a 1 m λo=>Zo.c o g b m λp q=>If (p != 0) (bM (g+b) λr=>f r q) (Nz 16<|bM (g.tdiv 16) λs=>Ya [bO] (λt=>t s q) λu (v:Int) w=>bM (g+b) λx=>Nz 16<|bM (x.tdiv 16) λy=>If (v<y) (bG a 3 w λaa=>Yd.c aa v w λab ac=>bM (v+1) λad=>u ad ac) (bG a 2 w λaf=>Yg.c af g b w λag ah=>d true ah))) (d false m)
theorem Y5.o {a b c d}(e:Y5.v a b c d):Y5.c a b c d:=Wa Tryz.func287 (x:=Y5.h) (R0 e)
end Go.Proofs
namespace Go.Ar
open Go Go.Vc Go.Proofs
open Go.Bu (Zt Q0 Zr)
inductive Lb where
 | hd|dF|free|nW|own|dQ|cP|runs
 | cG (k:Nat)
 | cO (k:Nat)
 deriving DecidableEq
structure Lay where
 p:Nat
 hs:Nat
 fr:Nat
 tr:Nat
 op:Nat
 rn:Nat
 dF:Sl
 dQ:Sl
 cP:Sl
 fH:List Nat
 gg:List Nat
def kN (Y:Lay):List Value:=[.slice Y.dF.a Y.dF.len Y.dF.cap,.pointer (some ⟨Y.hs,0,none⟩),.pointer (some ⟨Y.fr,0,none⟩),.pointer (some ⟨Y.tr,0,none⟩),.pointer (some ⟨Y.op,0,none⟩),.slice Y.dQ.a Y.dQ.len Y.dQ.cap,.slice Y.cP.a Y.cP.len Y.cP.cap,.map (some Y.rn)]
def gF (tb:List cA):List Value:=tb.flatMap λc=>[.int .i64 (c.size:Int),.int .i64 (c.aF:Int),.int .i64 (c.batch:Int)]
def fJ (l:List Nat):List Value:=l.map λb=>.pointer (some ⟨b,0,none⟩)
def iN (l:List (Nat×Nat)):List (Int×Int):=l.map λr=>((r.1:Int),(r.2:Int))
def sW (p n:Nat)(S:Nat->Bool):Hp->Rg->Prop:=λU F=>∃sb ms,Go.Bu.BH U p n S sb ms/\∀b,Go.Bu.fp p sb ms b->F b
def mN (p:Nat)(st:List Nat):Hp->Rg->Prop:=λU F=>∃q,ik U p q st/\F p/\F q
def jV (p:Option Nat)(c:Option cA)(ss:Option (List cH)):Hp->Rg->Prop:=λU F=>match p,c,ss with
 | some p,some c,some ss=>∃ps,fD U F p c ps ss
 | _,_,_=>True
def kU (p:Option Nat)(c:Option cA)(room:Nat)(t:Option gK):Hp->Rg->Prop:=λU F=>match p,c,t with
 | some p,some c,some t=>iP U F p c.batch room t
 | _,_,_=>True
def AC (A:AR)(Y:Lay)(T:Nat->Hp->Rg->Prop):Lb->Hp->Rg->Prop
 | .hd=>iB Y.p (kN Y)
 | .dF=>cV Y.dF 3 (gF A.tb)
 | .free=>sW Y.fr A.n A.S
 | .nW=>mN Y.tr A.st
 | .own=>λU F=>je U F Y.op A.ow
 | .dQ=>bS Y.dQ 1 (fJ Y.fH)
 | .cP=>bS Y.cP 1 (fJ Y.gg)
 | .runs=>jH Y.rn .i64 bO (iN A.runs)
 | .cG k=>jV Y.fH[k]? A.tb[k]? A.cG[k]?
 | .cO k=>T k
def cM (A:AR)(Y:Lay)(k:Nat):Hp->Rg->Prop:=kU Y.gg[k]? A.tb[k]? A.room A.cO[k]?
theorem sW.loc (p n:Nat)(S:Nat->Bool):dM (sW p n S):=by
 rintro U σ' F G ⟨i,g,h,s⟩ y r;have j:∀b,Go.Bu.fp p i g b->b<U.size:=λb a=>by
  unfold Go.Bu.fp at a;rcases zX.1 a with h1|h1
  ·obtain⟨c,d⟩:=h.hd;rw[h1];exact d.lt
  rcases zX.1 h1 with h2|h2
  ·obtain⟨c,d⟩:=h.row;rw[h2];exact d.lt
  ·obtain⟨k,x⟩:=zO h2;obtain⟨B,u,_⟩:=h.maps k b x;exact u.lt
 have e:Ext (λb=>¬Go.Bu.fp p i g b) U σ':=⟨y,λb a m=>(r b a (s b (Classical.not_not.1 m))).2⟩;exact⟨i,g,h.bT e λb a w=>w a,λb a=>(r b (j b a) (s b a)).1⟩
theorem mN.loc (p:Nat)(st:List Nat):dM (mN p st):=by
 rintro U σ' F G ⟨q,h,i,j⟩ s a;have e:Ext (λb=>b≠p/\b≠q) U σ':=⟨s,λb m r=>by
  by_cases h1:b=p
  ·subst h1;exact(a b m i).2
  ·have g:b=q:=Classical.byContradiction λg=>r ⟨h1,g⟩;subst g;exact(a b m j).2⟩
 exact⟨q,h.bT e (λd=>d.1 rfl) (λd=>d.2 rfl),(a p h.lt.1 i).1,(a q h.lt.2 j).1⟩
theorem jV.loc (p:Option Nat)(c:Option cA)(ss:Option (List cH)):dM (jV p c ss):=by
 rintro U e F G h b a;unfold jV at *;split
 ·simp only at h;obtain⟨d,h⟩:=h;exact⟨d,fD.loc _ _ _ _ h b a⟩
 ·trivial
theorem kU.loc (p:Option Nat)(c:Option cA)(room:Nat)(t:Option gK):dM (kU p c room t):=by
 rintro U d F G h a b;unfold kU at *;split
 ·exact iP.loc _ _ _ _ h a b
 ·trivial
theorem AC.loc {A:AR}{Y:Lay}{T:Nat->Hp->Rg->Prop}(hT:∀k,dM (T k)):∀i,dM (AC A Y T i)
 | .hd=>iB.loc _ _
 | .dF=>cV.loc _ _ _
 | .free=>sW.loc _ _ _
 | .nW=>mN.loc _ _
 | .own=>je.loc
 | .dQ=>bS.loc _ _ _
 | .cP=>bS.loc _ _ _
 | .runs=>jH.loc _ _ _ _
 | .cG k=>jV.loc _ _ _
 | .cO k=>hT k
theorem cM.loc {A:AR}{Y:Lay}(k:Nat):dM (cM A Y k):=kU.loc _ _ _ _
structure eV (A:AR) (Y:Lay):Prop where
 c:Y.fH.length=A.tb.length
 t:Y.gg.length=A.tb.length
 cG:A.cG.length=A.tb.length
 cO:A.cO.length=A.tb.length
 nE:1<=A.tb.length
 rf:A.tb.length<=40
 n1:32<=A.n
 n2:A.n<=1024
 n3:A.n%16=0
 st:A.st.length=A.n
 room:A.room<=8
 ok:∀c∈A.tb,c.ok
structure dI (U:Hp) (F:Rg) (Y:Lay) (A:AR) (T:Nat->Hp->Rg->Prop):Prop where
 lay:eV A Y
 tl:∀k,dM (T k)
 sep:Sep (AC A Y T) U F
def AH (U:Hp)(F:Rg)(p hs:Nat)(A:AR):Prop:=∃Y:Lay,Y.p=p/\Y.hs=hs/\dI U F Y A (cM A Y)
variable {U:Hp}{F:Rg}{p hs:Nat}{A:AR}{Y:Lay}{T:Nat->Hp->Rg->Prop}
theorem dI.loc:dM λU F=>dI U F Y A T:=λU d F G h a b=>⟨h.lay,h.tl,Sep.loc (AC.loc h.tl) _ _ _ _ h.sep a b⟩
theorem AH.loc:dM λU F=>AH U F p hs A:=λU e F G ⟨Y,d,a,h⟩ b hs=>⟨Y,d,a,dI.loc _ _ _ _ h b hs⟩
theorem dI.bP {σ':Hp}(h:dI U F Y A T)(e:bL U σ'):dI σ' F Y A T:=dM.bP dI.loc h e
theorem AH.bP {σ':Hp}(h:AH U F p hs A)(e:bL U σ'):AH σ' F p hs A:=dM.bP AH.loc h e
theorem dI.hd (h:dI U F Y A T):bZ U Y.p (kN Y):=by
 obtain⟨G,d,b,a⟩:=h.sep.get .hd;exact a
theorem Up (tb:List cA):(gF tb).length=tb.length*3:=by
 induction tb with
 | nil=>rfl
 | cons x l ih=>simp only[gF,qm,zM,zV,lx]at *;omega
theorem GY {tb:List cA}{i:Nat}{c:cA}(h:tb[i]?=some c):(gF tb)[3*i]?=some (.int .i64 (c.size:Int))/\(gF tb)[3*i+1]?=some (.int .i64 (c.aF:Int))/\(gF tb)[3*i+2]?=some (.int .i64 (c.batch:Int)):=by
 induction tb generalizing i with
 | nil=>simp at h
 | cons x l ih=>
  have e:gF (x::l)=[.int .i64 (x.size:Int),.int .i64 (x.aF:Int),.int .i64 (x.batch:Int)]++gF l:=by simp[gF]
  rw[e];cases i with
  | zero=>simp at h;subst h;simp
  | succ i=>
   have:=ih (i:=i) (by simpa using h);rw[show 3*(i+1)=3*i+3 by omega];simpa using this
theorem dI.oM (h:dI U F Y A T):Y.dF.len=A.tb.length:=by
 obtain⟨G,b,a⟩:=h.sep.get .dF;have:=a.1;rw[Up]at this;omega
theorem tn {s:Sl}{tb:List cA}(h:cV s 3 (gF tb) U F){k d:Nat}{c:cA}(hc:tb[k]?=some c)(hd:d<3){K:Int->Prop}(hK:K (if d=0 then c.size else if d=1 then c.aF else c.batch:Nat)) :
 Ix s.a s.len (k:Int) 3 λa=>gJ .i64 (a.add d) U K:=by
 have g:=GY hc;have j:(gF tb)[3*k+d]?=some (.int .i64 ((if d=0 then c.size else if d=1 then c.aF else c.batch:Nat):Int)):=by
  match d,hd with
  | 0,_=>exact g.1
  | 1,_=>exact g.2.1
  | 2,_=>exact g.2.2
 have p:=(cZ.1 hc).1;obtain⟨b,o,i,e⟩:=h.cell j;have m:=h.1;rw[Up]at m;rw[i];refine ix O O ?_;rw[add_lit,add_lit];refine nX ?_ hK;rw[show o+(k:Int).toNat*3+d=o+(3*k+d) by omega];exact e
theorem dI.xG (h:dI U F Y A T){k d:Nat}{c:cA}(hc:A.tb[k]?=some c)(hd:d<3){K:Int->Prop}(hK:K (if d=0 then c.size else if d=1 then c.aF else c.batch:Nat)) :
 Ix Y.dF.a Y.dF.len (k:Int) 3 λa=>gJ .i64 (a.add d) U K:=by
 obtain⟨G,e,b⟩:=h.sep.get .dF;exact tn b hc hd hK
theorem Ap {s:Sl}{l:List Nat}(h:cV s 1 (fJ l) U F){k q:Nat}(hq:l[k]?=some q){K:Option Addr->Prop}(hK:K (some ⟨q,0,none⟩)):Ix s.a s.len (k:Int) 1 λa=>fS a U K:=by
 have i:=(cZ.1 hq).1;obtain⟨b,o,g,d⟩:=h.cell (j:=k) (v:=.pointer (some ⟨q,0,none⟩)) (by simp[fJ,hq]);have e:=h.1;simp[fJ]at e;rw[g];refine ix O O ?_;rw[add_lit];exact vd (by rw[show o+(k:Int).toNat*1=o+k by omega];exact d) hK
theorem dI.lQ (h:dI U F Y A T){k q:Nat}(hq:Y.fH[k]?=some q){K:Option Addr->Prop}(hK:K (some ⟨q,0,none⟩)):Ix Y.dQ.a Y.dQ.len (k:Int) 1 λa=>fS a U K:=by
 obtain⟨G,d,b⟩:=h.sep.get .dQ;exact Ap (bS.fX b) hq hK
theorem dI.sx (h:dI U F Y A T){k q:Nat}(hq:Y.gg[k]?=some q){K:Option Addr->Prop}(hK:K (some ⟨q,0,none⟩)):Ix Y.cP.a Y.cP.len (k:Int) 1 λa=>fS a U K:=by
 obtain⟨G,d,b⟩:=h.sep.get .cP;exact Ap (bS.fX b) hq hK
theorem dI.at_ (h:dI U F Y A T){k:Nat}(hk:k<A.tb.length):∃c ss q t r,A.tb[k]?=some c/\A.cG[k]?=some ss/\Y.fH[k]?=some q/\A.cO[k]?=some t/\Y.gg[k]?=some r/\c.ok:=by
 have a:=h.lay.c;have d:=h.lay.t;have b:=h.lay.cG;have e:=h.lay.cO;exact⟨A.tb[k],A.cG[k],Y.fH[k],A.cO[k],Y.gg[k],by simp,by simp,by simp,by simp,by simp,h.lay.ok _ (ka hk)⟩
theorem FD {k q:Nat}{c:cA}{ss:List cH}{G:Rg}(h1:Y.fH[k]?=some q)(h2:A.tb[k]?=some c)(h3:A.cG[k]?=some ss)(h:AC A Y T (.cG k) U G):∃ps,fD U G q c ps ss:=by
 simp only[AC]at h;rw[h1,h2,h3]at h;exact h
theorem dI.cG (h:dI U F Y A T){k q:Nat}{c:cA}{ss:List cH}(h1:Y.fH[k]?=some q)(h2:A.tb[k]?=some c)(h3:A.cG[k]?=some ss):∃G ps,(∀b,G b->F b)/\fD U G q c ps ss:=by
 obtain⟨G,a,e⟩:=h.sep.get (.cG k);obtain⟨ps,d⟩:=FD h1 h2 h3 e;exact⟨G,ps,a,d⟩
theorem Hl (h:dI U F Y A T){R:aO}(hR:R true U):Xr.c (aW Y.p) U R:=by
 refine Xr.o ?_;unfold Xr.v;exact bV.intro (cD rfl (aG (h.hd.rP rfl hR)))
theorem UA (h:dI U F Y A T)(k:Int){R:aN}(h1:A.ck k=false->R 1 U)(h0:∀x:Nat,k=x->x<A.tb.length->R 0 U):Xe.c (aW Y.p) k U R:=by
 refine Xe.o ?_;unfold Xe.v;have g:=h.oM;have a:¬(0<=k/\k<A.tb.length)->R 1 U:=λe=>h1 (by unfold AR.ck;rw[←uN];exact zL e);refine Hl h (cE rfl (bV.intro (cQ (λd=>cD rfl (a O)) λd=>aG (h.hd.rS rfl (cQ (λb=>?_) λb=>?_)))))
 ·simp only at b;exact a O
 ·simp only at b;exact h0 k.toNat O O
theorem RT (h:dI U F Y A T)(x:Int){R:aO}(hR:R (oQ A x) U):Y7.c (aW Y.p) x U R:=by
 refine Y7.o ?_;unfold Y7.v;obtain⟨G,b,q,a,_⟩:=h.sep.get .nW;refine Hl h (bV.intro (cD rfl (aG (h.hd.rP rfl (Tg a x ?_)))));have:decide (yD A.st x>0)=oQ A x:=by
  unfold yD oQ;by_cases hx:0<=x
  ·by_cases hl:x<A.st.length
   ·rw[zC ⟨hx,hl⟩,zJ hx,rk,decide_eq_decide];omega
   ·rw[zB O,zJ hx,rk,zQ,zW O];rfl
  ·rw[zB O,zL hx];rfl
 rw[this];exact hR
structure iL (A:AR):Prop where
 sR:∀r∈A.runs,∀s∈A.runs,∀x,r.1<=x->x<r.1+r.2->s.1<=x->x<s.1+s.2->r=s
 BQ:∀x,x<1024->A.ow x=41->(rO A x).isSome=true
 cls:∀x,x<1024->A.ow x≠0->A.ow x≠41->A.ow x<=A.tb.length
 fit:∀r∈A.runs,r.1+r.2<=1024
theorem CJ (h:iL A){x:Nat}{r:Nat×Nat}(hr:r∈A.runs)(h1:r.1<=x)(h2:x<r.1+r.2):rO A x=some r:=by
 cases hf:rO A x with
 | none=>
  unfold rO at hf;rw[nY]at hf;have:=hf r hr;simp[h1,h2]at this
 | some s=>
  unfold rO at hf;have b:=s7 hf;have a:=tK hf;simp at a;rw[h.sR r hr s b x h1 h2 a.1 a.2]
theorem Ll (h:dI U F Y A T)(hr:iL A)(x:Int)(hx:iH x){R:Int->Int->Int->Hp->Prop}(h1:∀σ' k a,bL U σ'->U7 A x=some (k,a)->R k (a:Int) 0 σ')(h0:∀σ',bL U σ'->U7 A x=none->R 0 0 8 σ') :
 Y9.c (aW Y.p) x U R:=by
 refine Y9.o ?_;unfold Y9.v;refine Hl h (cE rfl (cQ (λc1=>h0 U (Ext.refl _ _) (by unfold U7;rw[zC c1])) λc1=>aG (h.hd.rP rfl (nz aB ?_))));obtain⟨y,rfl⟩:=zc (show 0<=x by omega);have hy:y<=9223372036854775807:=by unfold iH at hx;omega
 have tp:((y:Int).tdiv 256)=((y/256:Nat):Int):=by rw[YK O];simp
 refine ar (by rw[tp];omega) (by rw[tp];omega) ?_;rw[tp];obtain⟨G,hG,hP⟩:=h.sep.get .own;refine Mp hP _ ?_;have eo:qp A.ow ((y/256:Nat):Int)=if y/256<1024 then A.ow (y/256)else 0:=by
  unfold qp;by_cases hl:y/256<1024
  ·rw[zC O,zC hl];rfl
  ·rw[zB O,zB hl]
 have g:U7 A (y:Int)=(let no:=if y/256<1024 then A.ow (y/256)else 0
  if no=0 then none else if no=41 then(rO A (y/256)).map λr=>(-1,r.1*256)else
  match A.tb[no-1]?,A.cG[no-1]? with
  | some c,some ss=>(rm c ss (y:Int)).map λa=>(((no-1:Nat):Int),a)
  | _,_=>none):=by
  unfold U7;rw[zB c1];rfl
 rw[eo];generalize hno:(if y/256<1024 then A.ow (y/256)else 0)=no at *
 simp only at g;rw[vF];refine cU (λV=>h0 U (Ext.refl _ _) (by rw[g,zC (by simpa using V)])) λV=>?_;have D:no≠0:=by simpa using V
 rw[zB D]at g;have E:y/256<1024:=by
  rcases kb (y/256) 1024 with h|h
  ·exact h
  ·rw[zB O]at hno;exact absurd hno.symm D
 rw[zC E]at hno;refine Jn.intro ?_;have S:(((no:Nat):Int)==41)=(no==41):=l6 no 41;rw[S];refine cU (λQ=>?_) λQ=>?_
 ·have j:no=41:=by simpa using Q
  subst j;rw[zC rfl]at g;obtain⟨r,N⟩:=oA.1 (hr.BQ _ E hno);have w:=s7 N;have C:=tK N;simp at C;obtain⟨G,hG,L⟩:=h.sep.get .runs;refine aG (h.hd.rM rfl ?_);refine BB L.2 (λb v=>bL U v/\(∀z∈b,z∈iN A.runs)/\((r.1:Int),(r.2:Int))∈b) (λv hz e=>⟨e,λz hz=>hz,zF.2 ⟨r,w,rfl⟩⟩) (λv hv=>absurd hv.2.2 aA) ?_;rintro b n z v v' J ⟨e,d,B⟩ hm ho hlt2 hJ;have W:bL U v':=Ext.fresh e ho.ext λi hi=>by omega
  obtain⟨s,P,Z⟩:=zF.1 (d _ hm);cases Z;have hfit:=hr.fit s P;refine nz aB (ar O O ?_);refine bV.intro (cQ (λc3=>ar O O (cQ (λc4=>?_) λc4=>?_)) λc3=>cE rfl ?_)
  ·have X:=CJ hr P (x:=y/256) O O;refine ar O O ?_;have:=h1 v' (-1) (s.1*256) W (by rw[g,X];rfl);simpa using this
  ·refine hJ v' rfl rfl ⟨W,λu hu=>d u (zI.1 hu).1,zI.2 ⟨B,?_⟩⟩;have:¬(r.1:Int)=(s.1:Int):=λe=>by
    have:=CJ hr w C.1 C.2;have e1:r.1=s.1:=by omega
    by_cases h2:r.2=0
    ·omega
    by_cases h3:s.2=0
    ·have:=L.2.nodup;have K:=QG this (zF.2 ⟨r,w,rfl⟩);have M:=QG this (zF.2 ⟨s,P,rfl⟩);rw[e1,M]at K;have:s.2=r.2:=by
      have:(s.2:Int)=(r.2:Int):=Option.some.inj K;omega
     omega
    ·have:=hr.sR r w s P r.1 O O O O;subst this;omega
   simpa using this
  ·refine hJ v' rfl rfl ⟨W,λu hu=>d u (zI.1 hu).1,zI.2 ⟨B,?_⟩⟩;have:¬(r.1:Int)=(s.1:Int):=λe=>by omega
   simpa using this
 ·have j:no≠41:=by simpa using Q
  rw[zB j]at g;have aa:=hr.cls _ E (by rw[hno];exact D) (by rw[hno];exact j);rw[hno]at aa;obtain⟨c,ss,q,t,r,hc,H,hq,_,_,hok⟩:=h.at_ (k:=no-1) O;obtain⟨G,ps,hG,hC⟩:=h.cG hq hc H;rw[hc,H]at g;simp only at g;refine aG (h.hd.rS rfl (cS (m:=no-1) O (by have:=h.lay.rf;omega) (h.lQ hq (Sf hC _ hx (λa ha=>?_) λha=>?_))))
  ·refine cE rfl (cS (m:=no-1) O (by have:=h.lay.rf;omega) (h1 U _ a (Ext.refl _ _) ?_));rw[g,ha];rfl
  ·refine cD rfl (h0 U (Ext.refl _ _) ?_);rw[g,ha];rfl
end Go.Ar
namespace Go.Ar
open Go Go.Vc Go.Proofs
open Go.Bu (Zt Q0 Zr)
open Classical in
theorem _root_.Go.Vc.Sep.jM {L:Type}{C:L->Hp->Rg->Prop}{U:Hp}{F:Rg}(hC:∀i,dM (C i))(h:Sep C U F)(i:L):∃G:Rg,(∀b,G b->F b)/\C i U G/\(∀j,j≠i->∃H:Rg,(∀b,H b->F b)/\(∀b,H b->¬G b)/\C j U H)/\∀(σ':Hp) (C':L->Hp->Rg->Prop) (G':Rg),
 (∀j,j≠i->C' j=C j)->Ext G U σ'->(∀b,G' b->G b\/U.size<=b)->C' i σ' G'->dM (C' i)->Sep C' σ' λb=>F b/\b<U.size/\¬G b\/G' b:=by
 obtain⟨ρ,h⟩:=h;refine⟨_,λb a=>a.1,h i,λj r=>⟨_,λb a=>a.1,λb m w=>r (m.2.symm.trans w.2),h j⟩,λσ' C' G' r e x u y=>⟨λb=>if G' b then i else ρ b,λj=>?_⟩⟩
 by_cases hji:j=i
 ·subst hji;exact y.mono u λb _ a=>⟨.inr a,zC a⟩
 ·rw[r j hji];refine hC j _ _ _ _ (h j) e.1 λb a s=>?_;have d:¬(F b/\ρ b=i):=λp=>hji (s.2.symm.trans p.2);have g:¬G' b:=λp=>by
   rcases x b p with m|m
   ·exact d m
   ·omega
  exact⟨⟨.inl ⟨s.1,a,d⟩,(zB g).trans s.2⟩,e.2 b a d⟩
variable {U:Hp}{F:Rg}{p hs:Nat}{A:AR}{Y:Lay}{T:Nat->Hp->Rg->Prop}
theorem dI.step (h:dI U F Y A T)(i:Lb):∃G:Rg,(∀b,G b->F b)/\AC A Y T i U G/\(∀j,j≠i->∃H:Rg,(∀b,H b->F b)/\(∀b,H b->¬G b)/\AC A Y T j U H)/\∀(σ':Hp) (A':AR) (Y':Lay) (T':Nat->Hp->Rg->Prop) (G' H:Rg),
 eV A' Y'->(∀k,dM (T' k))->(∀j,j≠i->AC A' Y' T' j=AC A Y T j)->Ext G U σ'->(∀b,G' b->G b\/U.size<=b)->AC A' Y' T' i σ' G'->(∀b,(F b/\b<U.size/\¬G b\/G' b)->H b)->dI σ' H Y' A' T':=by
 obtain⟨G,m,p,hd,a⟩:=h.sep.jM (AC.loc h.tl) i;refine⟨G,m,p,hd,λσ' A' Y' T' G' H x g r e s d u=>⟨x,g,?_⟩⟩;exact(Sep.loc (AC.loc g)).mono (a σ' _ G' r e s d (AC.loc g i)) λb _ w=>u b w
theorem HU {U:Hp}{F G G':Rg}(hG:∀b,G b->F b)(hg:∀b,G' b->G b\/U.size<=b):∀b,(F b/\b<U.size/\¬G b\/G' b)->Grow F U b:=λb a=>by
 rcases a with a|a
 ·exact .inl a.1
 ·exact(hg b a).imp (hG b) id
theorem zx {U:Hp}{F G G':Rg}(hG:∀b,G b->F b)(hg:∀b,G' b->G b):∀b,(F b/\b<U.size/\¬G b\/G' b)->F b:=λb a=>by
 rcases a with a|a
 ·exact a.1
 ·exact hG b (hg b a)
theorem Jm {U:Hp}{F G:Rg}(hG:∀b,G b->F b):∀b,(F b/\b<U.size/\¬G b\/Cut G U b)->Cut F U b:=λb a=>by
 rcases a with a|a
 ·exact⟨a.1,a.2.1⟩
 ·exact⟨hG b a.1,a.2⟩
theorem Ij {ow:Nat->Nat}:∀j,j≠Lb.own->AC {A with ow:=ow} Y T j=AC A Y T j:=by
 intro j hj;cases j<;>first|rfl|exact absurd rfl hj
theorem TW {st:List Nat}:∀j,j≠Lb.nW->AC {A with st:=st} Y T j=AC A Y T j:=by
 intro j hj;cases j<;>first|rfl|exact absurd rfl hj
theorem BW {S:Nat->Bool}:∀j,j≠Lb.free->AC {A with S:=S} Y T j=AC A Y T j:=by
 intro j hj;cases j<;>first|rfl|exact absurd rfl hj
theorem Rc {rs:List (Nat×Nat)}:∀j,j≠Lb.runs->AC {A with runs:=rs} Y T j=AC A Y T j:=by
 intro j hj;cases j<;>first|rfl|exact absurd rfl hj
theorem MY {k:Nat}{ss:List cH}:∀j,j≠Lb.cG k->AC {A with cG:=A.cG.set k ss} Y T j=AC A Y T j:=by
 intro j hj;cases j<;>first|rfl|skip
 rename_i k';have a:k≠k':=λe=>hj (by rw[e]);simp only[AC];rw[zg a]
theorem eV.ow {ow:Nat->Nat}(h:eV A Y):eV {A with ow:=ow} Y:=⟨h.c,h.t,h.cG,h.cO,h.nE,h.rf,h.n1,h.n2,h.n3,h.st,h.room,h.ok⟩
theorem eV.A5 {S:Nat->Bool}(h:eV A Y):eV {A with S:=S} Y:=⟨h.c,h.t,h.cG,h.cO,h.nE,h.rf,h.n1,h.n2,h.n3,h.st,h.room,h.ok⟩
theorem eV.qB {rs:List (Nat×Nat)}(h:eV A Y):eV {A with runs:=rs} Y:=⟨h.c,h.t,h.cG,h.cO,h.nE,h.rf,h.n1,h.n2,h.n3,h.st,h.room,h.ok⟩
theorem eV.wh {st:List Nat}(h:eV A Y)(hl:st.length=A.st.length):eV {A with st:=st} Y:=⟨h.c,h.t,h.cG,h.cO,h.nE,h.rf,h.n1,h.n2,h.n3,hl.trans h.st,h.room,h.ok⟩
theorem eV.lf {k:Nat}{ss:List cH}(h:eV A Y):eV {A with cG:=A.cG.set k ss} Y:=⟨h.c,h.t,by simpa using h.cG,h.cO,h.nE,h.rf,h.n1,h.n2,h.n3,h.st,h.room,h.ok⟩
theorem Ih (st:List Nat)(a m:Int)(v:Nat)(fr:List Nat):(UI st a m v fr).length=st.length:=by
 unfold UI;split<;>simp[Vf]
theorem χ (st:List Nat)(k:Int):(iQ st k).length=st.length:=by
 unfold iQ;split<;>simp[Vf]
theorem dI.Clear (h:dI U F Y A T)(a m:Nat)(ha:a<=1000000){R:aN}(hR:∀σ' t,Ext F U σ'->dI σ' (Grow F U) Y {A with ow:=jD A.ow a m 0} T->R t σ'):X1.c (aW Y.op) a m U R:=by
 obtain⟨G,i,p,_,d⟩:=h.step .own;refine JZ p a m ha λσ' e j=>hR σ' _ (e.sub i) ?_;exact d σ' _ _ T (Grow G U) _ h.lay.ow h.tl Ij e (λb g=>g) j (HU i λb g=>g)
theorem dI.Set (h:dI U F Y A T)(a m:Nat)(ha:a<=1000000){no:Nat}(h1:1<=no)(h2:no<=1000){R:aN}(hR:∀σ' t,Ext F U σ'->dI σ' (Grow F U) Y {A with ow:=jD A.ow a m no} T->R t σ'):Yr.c (aW Y.op) a m no U R:=by
 obtain⟨G,i,p,_,d⟩:=h.step .own;refine PF p a m ha h1 h2 λσ' e j=>hR σ' _ (e.sub i) ?_;exact d σ' _ _ T (Grow G U) _ h.lay.ow h.tl Ij e (λb g=>g) j (HU i λb g=>g)
theorem dI.nW (h:dI U F Y A T):∃G:Rg,(∀b,G b->F b)/\∃q,ik U Y.tr q A.st/\F q/\∀(σ':Hp) (st:List Nat),st.length=A.st.length->Ext (· = q) U σ'->ik σ' Y.tr q st->Ext F U σ'/\dI σ' F Y {A with st:=st} T:=by
 obtain⟨G,g,⟨q,p,m,i⟩,_,d⟩:=h.step .nW;refine⟨G,g,q,p,g _ i,λσ' st r e j=>⟨e.sub λb a=>by subst a;exact g _ i,?_⟩⟩;exact d σ' _ _ T G _ (h.lay.wh r) h.tl TW (e.sub λb a=>by subst a;exact i) (λb a=>.inl a) ⟨q,j,m,i⟩ (zx g λb a=>a)
theorem dI.xy (h:dI U F Y A T)(a m:Int){R:aN}(hR:∀σ' t,Ext F U σ'->dI σ' F Y {A with st:=UI A.st a m 2 [1]} T->R t σ'):XD.c (aW Y.tr) a m U R:=by
 obtain⟨G,i,q,g,_,b⟩:=h.nW;refine PO g a m λσ' e d=>?_;have:=b σ' _ (Ih _ _ _ _ _) e d;exact hR σ' _ this.1 this.2
theorem dI.Sb (h:dI U F Y A T)(a m:Int){R:aN}(hR:∀σ' t,Ext F U σ'->dI σ' F Y {A with st:=UI A.st a m 1 [2,3]} T->R t σ'):XM.c (aW Y.tr) a m U R:=by
 obtain⟨G,i,q,g,_,b⟩:=h.nW;refine PA g a m λσ' e d=>?_;have:=b σ' _ (Ih _ _ _ _ _) e d;exact hR σ' _ this.1 this.2
theorem dI.BV (h:dI U F Y A T)(k:Int){R:aN}(hR:∀σ' t,Ext F U σ'->dI σ' F Y {A with st:=iQ A.st k} T->R t σ'):Yd.c (aW Y.tr) k U R:=by
 obtain⟨G,g,q,d,_,a⟩:=h.nW;refine PW d k λσ' e b=>?_;have:=a σ' _ (χ _ _) e b;exact hR σ' _ this.1 this.2
theorem dI.free (h:dI U F Y A T):∃sb ms,Go.Bu.BH U Y.fr A.n A.S sb ms/\∀(σ':Hp) (S:Nat->Bool),Ext (· ∈ ms) U σ'->Go.Bu.BH σ' Y.fr A.n S sb ms->Ext F U σ'/\dI σ' F Y {A with S:=S} T:=by
 obtain⟨G,g,⟨sb,ms,p,i⟩,_,d⟩:=h.step .free;have j:∀b,b∈ms->G b:=λb a=>i b (by unfold Go.Bu.fp;simp[a]);refine⟨sb,ms,p,λσ' S e m=>⟨e.sub λb a=>g b (j b a),?_⟩⟩;exact d σ' _ _ T G _ h.lay.A5 h.tl BW (e.sub j) (λb a=>.inl a) ⟨sb,ms,m,i⟩ (zx g λb a=>a)
theorem dI.wg (h:dI U F Y A T)(a m:Int){R:aN}(hR:∀σ' t,Ext F U σ'->dI σ' F Y {A with S:=Q0 A.n A.S a m} T->R t σ'):Yg.c (aW Y.fr) a m U R:=by
 obtain⟨j,i,g,b⟩:=h.free;refine Go.Bu.re g a m λσ' e d=>?_;have:=b σ' _ e d;exact hR σ' _ this.1 this.2
theorem dI.vE (h:dI U F Y A T)(a m:Int){R:Int->Int->Hp->Prop}(hR:∀σ',Ext F U σ'->dI σ' F Y {A with S:=Go.Bu.jb A.n A.S a m} T->R ((Go.Bu.iT A.n A.S a m:Nat):Int) (Go.Bu.iZ A.n A.S a m) σ'):XY.c (aW Y.fr) a m U R:=by
 obtain⟨j,i,g,b⟩:=h.free;refine Go.Bu.kZ g a m λσ' e d=>?_;have:=b σ' _ e d;exact hR σ' this.1 this.2
def rV (rs:List (Nat×Nat)):List Value:=rs.flatMap λr=>[.int .i64 (r.1:Int),.int .i64 (r.2:Int)]
theorem Fa (rs:List (Nat×Nat)):(rV rs).length=rs.length*2:=by
 induction rs with
 | nil=>rfl
 | cons x l ih=>simp only[rV,qm,zM,zV,lx]at *;omega
theorem Ov {l:List (Nat×Nat)}{i:Nat}{r:Nat×Nat}(h:l[i]?=some r):(rV l)[2*i]?=some (.int .i64 (r.1:Int))/\(rV l)[2*i+1]?=some (.int .i64 (r.2:Int)):=by
 induction l generalizing i with
 | nil=>simp at h
 | cons x l ih=>
  have e:rV (x::l)=[.int .i64 (x.1:Int),.int .i64 (x.2:Int)]++rV l:=by simp[rV]
  rw[e];cases i with
  | zero=>simp at h;subst h;simp
  | succ i=>
   have:=ih (i:=i) (by simpa using h);rw[show 2*(i+1)=2*i+2 by omega];simpa using this
theorem Na (c:cA)(l:List Nat):iM c l=rV (l.map λs=>(s,c.aF)):=by
 simp[iM,rV,List.flatMap_map]
theorem M6 {s:Sl}{rs:List (Nat×Nat)}(h:cV s 2 (rV rs) U F){i:Nat}{r:Nat×Nat}(hr:rs[i]?=some r){K:Int->Int->Prop}(hK:K (r.1:Int) (r.2:Int)) :
 Ix s.a s.len (i:Int) 2 λa=>gJ .i64 (a.add 0) U λu=>gJ .i64 (a.add 1) U λw=>K u w:=by
 have g:=Ov hr;have y:=(cZ.1 hr).1;obtain⟨b,o,j,m⟩:=h.cell g.1;obtain⟨x,o1,d,e⟩:=h.cell g.2;rw[j]at d;cases d;have p:=h.1;rw[Fa]at p;rw[j];refine ix O O ?_;rw[add_lit];refine nX ?_ (nX ?_ hK)<;>rw[add_lit]
 ·rw[show o+(i:Int).toNat*2+0=o+2*i by omega];exact m
 ·rw[show o+(i:Int).toNat*2+1=o+(2*i+1) by omega];exact e
theorem dI.mono {G:Rg}(h:dI U F Y A T)(hs:∀b,b<U.size->F b->G b):dI U G Y A T:=dM.mono dI.loc h hs
theorem dI.cut (h:dI U F Y A T):dI U (Cut F U) Y A T:=dM.cut dI.loc h
theorem N6 (A:AR)(rs:List (Nat×Nat))(r:Nat×Nat):Uu A (rs++[r])=V8 (Uu A rs) r:=by simp[Uu]
theorem Jf (h:dI U F Y A T){sl:Sl}{rs:List (Nat×Nat)}{X:Rg}(hs:cV sl 2 (rV rs) U X)(hX:∀b,b<U.size->X b->¬F b)(hl:rs.length<=1000000)(hb:∀r∈rs,r.1<=1000000){R:aP}
 (hR:∀σ',Ext F U σ'->dI σ' (Grow F U) Y (Uu A rs) T->R σ'):Yj.c (aW Y.p) sl U R:=by
 refine Yj.o ?_;unfold Yj.v;have aa:sl.len=rs.length:=by have:=hs.1;rw[Fa]at this;omega
 have C:cV sl 2 (rV rs) U (Cut X U):=aH.cut hs;refine Qg (a:=bO) (λ(t:Int) v=>∃i:Nat,t=(i:Int)/\i<=rs.length/\Ext F U v/\dI v (Grow F U) Y (Uu A (rs.take i)) T) (λt _=>rs.length-t.toNat) ⟨0,rfl,O,Ext.refl _ _,by simpa[Uu]using h.mono λb _ hb=>.inl hb⟩ ?_;rintro t v ⟨i,rfl,W,e,N⟩;refine cQ (λhlt=>?_) λab=>?_
 ·have s:i<rs.length:=by omega
  have y:rs[i]?=some rs[i]:=cX s;have z:=hb _ (ka s);have D:=aH.bT C e λb J y u=>hX b J y.1 u;refine M6 D y ?_;have M:rs.take (i+1)=rs.take i++[rs[i]]:=by rw[ko,y];rfl
  generalize rs[i]=r at *;refine nw (cs:=[.int .i64 0,.int .i64 0]) λv4 hz4 e4 B=>B.s1 aA λv5 o5 b5=>b5.s1 aA λv6 o6 Q=>?_;have w:bL v v6:=Ext.fresh (Ext.fresh e4 o5.ext λi W=>O) o6.ext λi W=>by omega
  have j:=N.cut.bP w;have Z:¬Cut (Grow F U) v v.size:=λu=>by have:=u.2;omega
  have g:bZ v6 v.size [.int .i64 (r.1:Int),.int .i64 (r.2:Int)]:=Q;have z6:v.size<v6.size:=Q.lt;refine aG (j.hd.rP rfl (g.rI rfl (g.rI rfl (j.Clear r.1 r.2 z λv7 t7 P L=>?_))));have E:=P.bW g Z;have d:=L.mono (G:=λb=>Cut (Grow F U) v b\/v.size<b) λb _ hb=>by
   rcases hb with hb|hb
   ·exact .inl hb
   ·exact .inr O
  have H:¬(Cut (Grow F U) v v.size\/v.size<v.size):=λu=>by
   rcases u with h|h
   ·exact Z h
   ·omega
  refine aG (d.hd.rP rfl (E.rI rfl (E.rI rfl (d.xy _ _ λv8 t8 S x=>?_))));have V:=S.bW E H;refine aG (x.hd.rP rfl (V.rI rfl (V.rI rfl (x.wg _ _ λv9 t9 e9 K=>?_))));have sub:∀b,(Cut (Grow F U) v b\/v.size<b)->Grow F U b:=λb hb=>by
   rcases hb with hb|hb
   ·exact hb.1
   ·exact .inr (by have:=e.1;omega)
  have ee:Ext F U v9:=((((e.trans (bL.to w)).jy (P.sub λb hb=>hb.1))).jy (S.sub sub)).jy (e9.sub sub);refine cS (m:=i+1) O O ⟨⟨i+1,rfl,O,ee,?_⟩,O⟩;rw[M,N6];exact K.mono λb _ hb=>sub b hb
 ·have:i=rs.length:=by omega
  subst this;rw[l0]at N;exact hR v e N
end Go.Ar
namespace Go.Proofs
open Go.Vc
set_option maxRecDepth 100000
def XT.h:Hn:=.q .o1 (.q (.q .o3 .aK) (.q .o1 (.q (.q .o5 (.k (.loop [(3,.I)] (.q (.cW (.seq [.it .i64 .p,.op])) (.q (.c .l .l) (.k (.q (.cW (.seq [.it .i64 .p,.op,.op,.op,.op])) (.oq 17)))))))) .aL)))
def XT.v (a:R2)(b:Hp)(c:aN):Prop:=Xs.c a b λd e=>If (!d) (c 0 e) (bJ a 2 e λg=>oW .i64 .p g e λh i=>Ya [bO] (λj=>j 0 i) λk (l:Int) m=>pG .i64 .p h m (c l m) (λn o p=>oK .i64 .p h p λq r=>bF a 0 p λt=>Ix t.a t.len q 3 λu=>aQ u 0 p λv=>bF r 0 p λx=>bM (v*((x.len:Nat):Int)) λy=>bM (l+y) λz=>k z p))
theorem XT.o {a b c}(d:XT.v a b c):XT.c a b c:=Wa Tryz.func90 (x:=XT.h) (R0 d)
def Xs.h:Hn:=.q .o1 (.q (.cW (.seq [.op,.op,.op,.cR true 5 (RI.ops 5),.op])) .l)
def Xs.v (a:R2)(b:Hp)(c:aO):Prop:=bV (λd e=>c d e) λf=>If (!a.isNone) (bJ a 2 b λh=>f (!h.isNone) b) (f false b)
theorem Xs.o {a b c}(d:Xs.v a b c):Xs.c a b c:=Wa Tryz.func132 (x:=Xs.h) (R0 d)
def Ki.h:Hn:=.q .o2 (.q (.k (.q .o4 (.c .aL (.q (.cW (.seq [.op,.op,.op,.cR false 2 [.op,.op],.op])) .aJ)))) (.q .o8 .l))
def Ki.v (a:Sl)(b:Int)(c:Hp)(d:Option Addr->Int->Hp->Prop):Prop:=ZO.c a c λe f=>If (!e) (d none 2 f) (bV (λg h=>If g (d none 1 h) (Wp.c a h λi j=>Nw (.map #[] 0) j λk l=>aV #[.slice i.a i.len i.cap,.I b,.map (some k.block)] 188 l λm n=>d (some m) 0 n)) λo=>If (b<0) (o true f) (o (decide (b>65536)) f))
theorem Ki.o {a b c d}(e:Ki.v a b c d):Ki.c a b c d:=Wa Tryz.func155 (x:=Ki.h) (R0 e)
def Ym.h:Hn:=.q .o2 (.q .o8 (.q (.q .o2 (.c (.q .o3 .l) .l)) (.q (.q .o6 (.c (.q (.q .o9 (.q .o6 (.c .o8 (.o 11)))) .aL) .l)) (.q .o7 (.q .o8 (.q .fZ (.q .fZ (.q .o3 .l))))))))
def Ym.v (a:R2)(b:Int)(c:Hp)(d:Int->Int->Hp->Prop):Prop:=XC.c a b c λe f g=>If (f != 0) (d 0 f g) (bF e 0 g λi=>If (((i.len:Nat):Int)==0) (bF a 0 g λk=>Ix k.a k.len b 3 λl=>aQ l 2 g λm=>bE e 1 g λo=>If (o<m) (bE e 1 g λq=>bM (q+1) λr=>bX e λs=>aR s 1 (.I r) g λt=>d 0 4 t) (bE e 1 g λv=>bM (v+m) λw=>bX e λx=>aR x 1 (.I (if 128<w then 128 else w)) g λy=>d 0 4 y)) (bF e 0 g λaa=>bM (((aa.len:Nat):Int)-1) λab=>bF e 0 g λad=>Ix ad.a ad.len ab 1 λae=>bN ae g λaf=>bF e 0 g λah=>fo ah 1 0 ab (ah.cap:Nat) λai=>bX e λaj=>aR aj 0 (.slice ai.a ai.len ai.cap) g λak=>bE e 2 ak λam=>bX e λan=>aR an 2 (.I (if ab<am then ab else am)) ak λao=>d af 0 ao))
theorem Ym.o {a b c d}(e:Ym.v a b c d):Ym.c a b c d:=Wa Tryz.func166 (x:=Ym.h) (R0 e)
def Yn.h:Hn:=.q .o2 (.q .o8 (.q (.q .o2 (.c (.q .o3 .l) .l)) (.q (.oq 15) .l)))
def Yn.v (a:R2)(b:Int)(c:Hp)(d:Int->Int->Hp->Prop):Prop:=XC.c a b c λe f g=>If (f != 0) (d 0 f g) (bE e 1 g λi=>bF a 0 g λk=>Ix k.a k.len b 3 λl=>aQ l 2 g λm=>d (if m<i then m else i) 0 g)
theorem Yn.o {a b c d}(e:Yn.v a b c d):Yn.c a b c d:=Wa Tryz.func168 (x:=Yn.h) (R0 e)
def Yc.h:Hn:=.q .o1 (.q .o8 (.q (.q .o2 .aJ) (.q .o3 (.q .o2 (.q .o4 .l)))))
def Yc.v (a:R2)(b:Int)(c:Sl)(d:Hp)(e:aN):Prop:=XC.c a b d λf g h=>If (g != 0) (e g h) (W3.c c h λi j=>Xg.c i j λk=>Xh.c f i k λl m=>e l m)
theorem Yc.o {a b c d e}(f:Yc.v a b c d e):Yc.c a b c d e:=Wa Tryz.func173 (x:=Yc.h) (R0 f)
def YP.h:Hn:=.q .o2 (.q .o8 (.q (.q .o2 (.c (.q .o3 .l) .l)) (.q (.q .o5 (.q .o2 (.c (.q .o3 .l) .l))) (.q (.q (.oq 10) .aJ) (.q .o9 (.kj [] (.q .o6 (.c .o8 .l)) (.q (.o 11) .l)))))))
def YP.v (a:R2)(b c:Int)(d:Hp)(e:Sl->Int->Hp->Prop):Prop:=XC.c a b d λf g h=>If (g != 0) (e ⟨none,0,0⟩ g h) (aV #[.I c] 3 h λi j=>Xh.c f ⟨some i,1,1⟩ j λk l=>If (k != 0) (e ⟨none,0,0⟩ k l) (bF f 0 l λn=>bE f 1 l λp=>If (((n.len:Nat):Int)<=p) (e ⟨none,0,0⟩ 0 l) (bF a 0 l λr=>Ix r.a r.len b 3 λs=>aQ s 2 l λt=>Jn [] (λu=>bF f 0 u λw=>Xq.c f (if((w.len:Nat):Int)<t then((w.len:Nat):Int)else t) u λx y=>e x 0 y) λz=>bE f 1 l λab=>If (ab<t) (bE f 1 l λad=>bM (ad+1) λae=>bX f λaf=>aR af 1 (.I ae) l λag=>z ag) (z l))))
theorem YP.o {a b c d e}(f:YP.v a b c d e):YP.c a b c d e:=Wa Tryz.func176 (x:=YP.h) (R0 f)
def Yl.h:Hn:=.q .o1 (.q (.cW (.gH false [] [(2,.one .b)] (.take 0 (.all [(1,.take 2 (.split 5 (.tk [3,5,6,7] (.all [(4,.all [(8,.tk [9,10,11] (.done))]),(8,.all [(4,.tk [9,10,11] (.done))])])) (.tk [3,4,5,6,7,8,9,10,11] (.done))))])))) .l)
def Yl.v (a:R2)(b:Hp)(c:aO):Prop:=Jn [.b] (λ(d:Bool) e=>c d e) λf=>Xs.c a b λg h=>If g (bX a λi=>(XT.c a h λj k=>aQ i 1 k λl=>f (decide (j>l)) k) ∧ (aQ i 1 h λm=>XT.c a h λn o=>f (decide (n>m)) o)) (f false h)
theorem Yl.o {a b c}(d:Yl.v a b c):Yl.c a b c:=Wa Tryz.func177 (x:=Yl.h) (R0 d)
def Xm.h:Hn:=.q .o1 (.q .o3 .l)
def Xm.v (a:R2)(b:Hp)(c:Sl->Hp->Prop):Prop:=Xv.c a ⟨241,#[],#[]⟩ b λd e=>c d e
theorem Xm.o {a b c}(d:Xm.v a b c):Xm.c a b c:=Wa Tryz.func178 (x:=Xm.h) (R0 d)
def XZ.h:Hn:=.q .o1 (.q .o3 .l)
def XZ.v (a:R2)(b:Hp)(c:Sl->Hp->Prop):Prop:=Xv.c a ⟨243,#[],#[]⟩ b λd e=>c d e
theorem XZ.o {a b c}(d:XZ.v a b c):XZ.c a b c:=Wa Tryz.func183 (x:=XZ.h) (R0 d)
def XC.h:Hn:=.q .o2 (.q (.q .o3 .aJ) (.q .o4 (.q (.q .o2 .aJ) (.q .o3 .l))))
def XC.v (a:R2)(b:Int)(c:Hp)(d:Option Addr->Int->Hp->Prop):Prop:=Xs.c a c λe f=>If (!e) (d none 5 f) (Zz.c a b f λg h=>If g.isNone (d none 1 h) (d g 0 h))
theorem XC.o {a b c d}(e:XC.v a b c d):XC.c a b c d:=Wa Tryz.func229 (x:=XC.h) (R0 e)
def Xh.h:Hn:=.q .o1 (.q (.q .o9 .aK) (.q (.o 11) .aM))
def Xh.v (a:R2)(b:Sl)(c:Hp)(d:aN):Prop:=bF a 0 c λf=>bM (((f.len:Nat):Int)+((b.len:Nat):Int)) λg=>If (g>256) (d 6 c) (bF a 0 c λi=>Xx.c i c λj k=>App j 1 8 3 [.I 0] b k λl m=>bX a λn=>aR n 0 (.slice l.a l.len l.cap) m λo=>d 0 o)
theorem Xh.o {a b c d}(e:Xh.v a b c d):Xh.c a b c d:=Wa Tryz.func237 (x:=Xh.h) (R0 e)
def Xq.h:Hn:=.q .o1 (.q .o8 (.q (.o 11) (.q (.cW (.tail 13 (RI.ops 13) [.op])) .aL)))
def Xq.v (a:R2)(b:Int)(c:Hp)(d:Sl->Hp->Prop):Prop:=bF a 0 c λf=>fo f 1 0 b (f.cap:Nat) λg=>W3.c g c λh i=>bF a 0 i λk=>fo k 1 b (k.len:Nat) (k.cap:Nat) λl=>W3.c l i λm n=>bX a λo=>aR o 0 (.slice m.a m.len m.cap) n λp=>bE a 2 p λr=>bF a 0 p λt=>bX a λu=>aR u 2 (.I (if((t.len:Nat):Int)<r then((t.len:Nat):Int)else r)) p λv=>d h v
theorem Xq.o {a b c d}(e:Xq.v a b c d):Xq.c a b c d:=Wa Tryz.func239 (x:=Xq.h) (R0 e)
def Xv.h:Hn:=.q .o1 (.q (.q .o3 .aK) (.q .o1 (.q (.q .o5 (.k (.loop [(5,.one .s)] (.q (.cW (.seq [.it .i64 .p,.op])) (.q (.c .l .l) (.k (.q (.cW (.seq [.it .i64 .p,.op,.op,.op,.op])) (.q (.o 12) (.q .o3 (.c .o7 .l)))))))))) (.q .o2 .aL))))
def Xv.v (a:R2)(b:Fv)(c:Hp)(d:Sl->Hp->Prop):Prop:=Xs.c a c λe f=>If (!e) (d ⟨none,0,0⟩ f) (bJ a 2 f λh=>oW .i64 .p h f λi j=>Ya [.s] (λk=>k ⟨none,0,0⟩ j) λl (m:Sl) n=>pG .i64 .p i n (Qc.c m ⟨298,#[],#[]⟩ n λo=>d m o) (λp q r=>oK .i64 .p i r λs t=>bF a 0 r λv=>Ix v.a v.len s 3 λw=>aQ w 2 r λx=>VH Tryz.prog b [.pointer t,.I x] [.one .s] r λy z=>If (((y.len:Nat):Int)>0) (aV #[.I s,.slice y.a y.len y.cap] 147 z λaa ab=>App m 2 32 147 [.I 0,.slice none 0 0] ⟨some aa,1,1⟩ ab λac ad=>l ac ad) (l m z)))
theorem Xv.o {a b c d}(e:Xv.v a b c d):Xv.c a b c d:=Wa Tryz.func240 (x:=Xv.h) (R0 e)
def XE.h:Hn:=.q .o1 (.q .o9 (.kj [] (.q .o6 (.c (.o 12) .l)) (.q .o9 .aL)))
def XE.v (a:R2)(b:Int)(c:Hp)(d:Sl->Hp->Prop):Prop:=bE a 2 c λf=>bM (f+1) λg=>Nz 2<|bM (g.tdiv 2) λh=>Xq.c a h c λi j=>Jn [] (λk=>bF a 0 k λm=>bX a λn=>aR n 2 (.I ((m.len:Nat):Int)) k λo=>d i o) λp=>bE a 1 j λr=>If (r>b) (bE a 1 j λt=>bM (t-b) λu=>bX a λv=>aR v 1 (.I (if b>u then b else u)) j λw=>p w) (p j)
theorem XE.o {a b c d}(e:XE.v a b c d):XE.c a b c d:=Wa Tryz.func241 (x:=XE.h) (R0 e)
def YG.h:Hn:=.q .o1 (.q .o8 .l)
def YG.v (a:R2)(b:Int)(c:Hp)(d:Sl->Hp->Prop):Prop:=bF a 0 c λf=>Xq.c a ((f.len:Nat):Int) c λg h=>d g h
theorem YG.o {a b c d}(e:YG.v a b c d):YG.c a b c d:=Wa Tryz.func243 (x:=YG.h) (R0 e)
def Zz.h:Hn:=.q .o1 (.q (.q (.cW (.seq [.op,.op,.op,.op,.cR false 2 [.op,.op],.op,.cR false 7 (RI.ops 7)])) .aK) (.kj [] (.q .o7 (.c .o8 .l)) (.q .o7 .l)))
def Zz.v (a:R2)(b:Int)(c:Hp)(d:Option Addr->Hp->Prop):Prop:=Xs.c a c λe f=>bV (λg h=>bV (λi j=>If i (d none j) (Jn [] (λk=>bJ a 2 k λm=>Lk .i64 .p m b k λn=>d (n.getD none) k) λo=>bX a λp=>bC p 2 j λq=>Lk .i64 .p q b j λr=>If ((r.getD none).isNone) (bJ a 2 j λt=>aV #[.slice none 0 0,.I 1,.I 0] 191 j λu v=>kH .i64 .p t b (some u) v λw=>o w) (o j))) λx=>If g (x true h) (bF a 0 h λz=>x (decide (b≥((z.len:Nat):Int))) h)) λaa=>If (!e) (aa true f) (aa (decide (b<0)) f)
theorem Zz.o {a b c d}(e:Zz.v a b c d):Zz.c a b c d:=Wa Tryz.func281 (x:=Zz.h) (R0 e)
end Go.Proofs
namespace Go.Ar
open Go Go.Vc Go.Proofs
theorem cV.sub {U:Hp}{F:Rg}{s:Sl}{sz:Nat}{xs:List Value}(h:cV s sz xs U F){lo hi mx:Nat}(h1:lo<=hi)(h2:hi<=s.len)(h3:hi<=mx) :
 cV ⟨if mx=lo then s.a else s.a.map (·.add (lo*sz)),hi-lo,mx-lo⟩ sz ((xs.drop (lo*sz)).take ((hi-lo)*sz)) U F:=by
 have g:=h.1;have e1:hi*sz<=s.len*sz:=ma _ h2;have e2:(hi-lo)*sz=hi*sz-lo*sz:=Nat.sub_mul _ _ _;have e:lo*sz<=hi*sz:=ma _ h1;refine⟨by rw[zY,kg];simp only;omega,?_⟩;by_cases hm:mx=lo
 ·left;have:hi-lo=0:=by omega
  rw[this,wz,Al]
 ·rcases h.2 with h0|⟨b,o,cs,hb,ha,hq,hc⟩
  ·left;subst h0;simp
  ·refine .inr ⟨b,o+lo*sz,cs,hb,?_,hq,λj d=>?_⟩
   ·simp only[zB hm,ha,ze,add_lit]
   ·rw[zY,kg]at d;rw[xl,hc _ O,zj,kQ,zC O]
inductive sK where
 | hd|dF|mp
 | li (k:Nat)
 deriving DecidableEq
structure gU where
 p:Nat
 m:Nat
 dF:Sl
 ps:List (Nat×Nat)
def jc (ps:List (Nat×Nat))(k:Nat):Option Nat:=(ps.find? λx=>x.1==k).map (·.2)
def j2 (ps:List (Nat×Nat)):List (Int×Option Addr):=ps.map λx=>((x.1:Int),some ⟨x.2,0,none⟩)
def mX (s:Sl)(l:Li):List Value:=[.slice s.a s.len s.cap,.int .i64 (l.lim:Int),.int .i64 (l.low:Int)]
def iY (b:Nat)(l:Li):Hp->Rg->Prop:=λU F=>F b/\fL l/\∃s:Sl,bZ U b (mX s l)/\cV s 1 (WD l.os) U (λq=>F q/\q≠b)/\s.len<=s.cap
def oS (b:Option Nat)(l:Option Li):Hp->Rg->Prop:=λU F=>match b,l with
 | some b,some l=>iY b l U F
 | none,some l=>l=ir
 | _,none=>True
def A7 (Y:gU)(bud:Nat):List Value:=[.slice Y.dF.a Y.dF.len Y.dF.cap,.int .i64 (bud:Int),.map (some Y.m)]
def CC (tb:List cA)(bud:Nat)(ls:List Li)(Y:gU):sK->Hp->Rg->Prop
 | .hd=>iB Y.p (A7 Y bud)
 | .dF=>cV Y.dF 3 (gF tb)
 | .mp=>jH Y.m .i64 .p (j2 Y.ps)
 | .li k=>oS (jc Y.ps k) ls[k]?
theorem iY.loc (b:Nat)(l:Li):dM (iY b l):=by
 rintro U y F G ⟨u,x,s,j,r,m⟩ w a;have g:=a b j.lt u;obtain⟨e,p⟩:=j;exact⟨g.1,x,s,⟨e,g.2.trans p⟩,cV.loc _ _ _ _ _ _ _ r w λq i d=>⟨⟨(a q i d.1).1,d.2⟩,(a q i d.1).2⟩,m⟩
theorem oS.loc (b:Option Nat)(l:Option Li):dM (oS b l):=by
 intro U σ' F G h hz hs;unfold oS at *;split at h
 ·exact iY.loc _ _ _ _ _ _ h hz hs
 ·exact h
 ·trivial
theorem CC.loc {tb:List cA}{bud:Nat}{ls:List Li}{Y:gU}:∀i,dM (CC tb bud ls Y i)
 | .hd=>iB.loc _ _
 | .dF=>cV.loc _ _ _
 | .mp=>jH.loc _ _ _ _
 | .li k=>oS.loc _ _
structure eH (U:Hp) (F:Rg) (Y:gU) (tb:List cA) (bud:Nat) (ls:List Li):Prop where
 nE:tb.length<=40
 ok:∀c∈tb,c.ok
 len:ls.length=tb.length
 keys:∀x∈Y.ps,x.1<tb.length
 sep:Sep (CC tb bud ls Y) U F
variable {U:Hp}{F G:Rg}{Y:gU}{tb:List cA}{bud:Nat}{ls:List Li}{b k:Nat}{l:Li}
theorem eH.loc:dM λU F=>eH U F Y tb bud ls:=λU d F G h a b=>⟨h.nE,h.ok,h.len,h.keys,Sep.loc CC.loc _ _ _ _ h.sep a b⟩
theorem eH.bP {σ':Hp}(h:eH U F Y tb bud ls)(e:bL U σ'):eH σ' F Y tb bud ls:=dM.bP eH.loc h e
theorem eH.hd (h:eH U F Y tb bud ls):bZ U Y.p (A7 Y bud):=by
 obtain⟨G,b,a⟩:=h.sep.get .hd;exact a.2
theorem eH.jC (h:eH U F Y tb bud ls):cV Y.dF 3 (gF tb) U F:=by
 obtain⟨G,d,a⟩:=h.sep.get .dF;exact aH.mono a λb _ a=>d b a
theorem eH.oM (h:eH U F Y tb bud ls):Y.dF.len=tb.length:=by
 have:=h.jC.1;rw[Up]at this;omega
theorem eH.map (h:eH U F Y tb bud ls):dJ U Y.m .i64 .p (j2 Y.ps):=by
 obtain⟨G,b,a⟩:=h.sep.get .mp;exact a.2
theorem Dg (ps:List (Nat×Nat))(k:Nat):bU (α:=Option Addr) (j2 ps) (k:Int)=(jc ps k).map λb=>some ⟨b,0,none⟩:=by
 induction ps with
 | nil=>rfl
 | cons x l ih=>
  simp only[bU,j2,jc,zS,uv]at *;have e:(((x.1:Nat):Int)==(k:Int))=(x.1==k):=l6 _ _;rw[e];cases x.1==k
  ·exact ih
  ·rfl
theorem IF {ps:List (Nat×Nat)}(h:jc ps k=none):∀x∈ps,x.1≠k:=by
 unfold jc at h;simp only[r5,nY,zT]at h;exact h
theorem Md {ps:List (Nat×Nat)}(h:jc ps k=none)(b:Nat):dB (α:=Option Addr) (j2 ps) (k:Int) (some ⟨b,0,none⟩)=j2 (ps++[(k,b)]):=by
 unfold dB;rw[zB]
 ·simp[j2]
 ·simp only[j2,List.any_map,zy,Function.comp,zT,not_exists,not_and];intro x hx e;exact IF h x hx O
theorem UU {ps:List (Nat×Nat)}(h:jc ps k=none)(b j:Nat):jc (ps++[(k,b)]) j=if j=k then some b else jc ps j:=by
 have a:=IF h;unfold jc at *;rw[List.find?_append];by_cases hj:j=k
 ·subst hj;have:ps.find? (λx=>x.1==j)=none:=by simpa using h
  rw[this];simp
 ·rw[zB hj];cases hf:ps.find? (λx=>x.1==j)with
  | none=>
   have:(k==j)=false:=by simpa using λe=>hj e.symm
   simp[this]
  | some x=>simp
theorem Je {ps:List (Nat×Nat)}(hn:((j2 ps).map (·.1)).Nodup)(h:(k,b)∈ps):jc ps k=some b:=by
 induction ps with
 | nil=>simp at h
 | cons x l ih=>
  simp only[j2,zS,zt]at hn;unfold jc;rw[uv];rcases zX.1 h with rfl|h
  ·simp
  ·have:(x.1==k)=false:=by
    have:x.1≠k:=λe=>hn.1 (zF.2 ⟨(((k:Nat):Int),some ⟨b,0,none⟩),zF.2 ⟨(k,b),h,rfl⟩,by rw[e]⟩);simpa using this
   rw[this];exact ih hn.2 h
theorem HM (h:eH U F Y tb bud ls){R:aO}(hR:R true U):Xs.c (aW Y.p) U R:=by
 refine Xs.o ?_;unfold Xs.v;exact bV.intro (cD rfl (aG (h.hd.rM rfl hR)))
theorem eH.xD (h:eH U F Y tb bud ls)(hb:jc Y.ps k=some b)(hl:ls[k]?=some l):∃G:Rg,(∀q,G q->F q)/\iY b l U G/\¬G Y.m ∧
 ∀(σ':Hp) (l':Li) (G':Rg),Ext G U σ'->(∀q,G' q->Grow G U q)->iY b l' σ' G'->Ext F U σ'/\eH σ' (λq=>F q/\q<U.size/\¬G q\/G' q) Y tb bud (ls.set k l'):=by
 have r:=(cZ.1 hl).1;obtain⟨G,s,g,d,a⟩:=h.sep.jM CC.loc (.li k);have g:iY b l U G:=by
  simp only[CC,oS,hb,hl]at g;exact g
 have i:¬G Y.m:=by
  obtain⟨H,_,hd,p⟩:=d .mp (by intro e;cases e);exact hd _ p.1
 refine⟨G,s,g,i,λσ' l' G' e w x=>⟨e.sub s,h.nE,h.ok,by rw[oZ];exact h.len,h.keys,?_⟩⟩;refine a σ' (CC tb bud (ls.set k l') Y) G' (λj u=>?_) e w ?_ (CC.loc _)
 ·cases j<;>try rfl
  rename_i m;have i:m≠k:=λe=>u (by rw[e]);simp only[CC,zg (Ne.symm i)]
 ·simp only[CC,oS,hb,zN r];exact x
theorem eH.mono (h:eH U F Y tb bud ls)(hs:∀q,q<U.size->F q->G q):eH U G Y tb bud ls:=dM.mono eH.loc h hs
theorem eH.cut (h:eH U F Y tb bud ls):eH U (Cut F U) Y tb bud ls:=dM.cut eH.loc h
theorem eH.eZ {v:Hp}(h:eH v (Grow F U) Y tb bud ls)(e0:Ext F U v)(hb:jc Y.ps k=some b)(hl:ls[k]?=some l):∃G:Rg,iY b l v G ∧
 ∀(σ':Hp) (l':Li) (G':Rg),Ext G v σ'->(∀q,G' q->Grow G v q)->iY b l' σ' G'->Ext F U σ'/\eH σ' (Grow F U) Y tb bud (ls.set k l'):=by
 obtain⟨G,j,p,_,a⟩:=h.xD hb hl;refine⟨G,p,λσ' l' G' e i g=>?_⟩;obtain⟨e1,m⟩:=a σ' l' G' e i g;refine⟨e0.jy e1,m.mono λq _ d=>?_⟩;have:=e0.1;rcases d with d|d
 ·exact d.1
 ·rcases i q d with h2|h2
  ·exact j q h2
  ·exact .inr O
theorem MD (h:eH U F Y tb bud ls)(hk:k<tb.length){R:Option Addr->Hp->Prop}(hR:∀σ' Y' b,Ext F U σ'->Y'.p=Y.p->jc Y'.ps k=some b->eH σ' (Grow F U) Y' tb bud ls->R (some ⟨b,0,none⟩) σ') :
 Zz.c (aW Y.p) (k:Int) U R:=by
 refine Zz.o ?_;unfold Zz.v;have E:k<ls.length:=by rw[h.len];exact hk
 have D:ls[k]?=some ls[k]:=cX E;generalize ls[k]=l at D;have N:=h.oM;refine HM h (bV.intro (cE rfl ?_));refine bV.intro (fV O (aG (h.hd.rS rfl ?_)));refine fV aC ?_;refine Jn.intro (aG (h.hd.rM rfl ⟨_,h.map,?_⟩));rw[Dg];cases hf:jc Y.ps k with
 | some b=>
  refine cE rfl (aG (h.hd.rM rfl ⟨_,h.map,?_⟩));rw[Dg,hf];exact hR U Y b (Ext.refl _ _) rfl hf (h.mono λq _ a=>.inl a)
 | none=>
  refine cD rfl (aG (h.hd.rM rfl (nw (cs:=[.slice none 0 0,.int .i64 1,.int .i64 0]) λv Q e y=>?_)));obtain⟨G,H,s,S,hd,g,w,r⟩:=h.cut.sep.pC CC.loc .mp (.li k) (by intro e;cases e);have K:∀q,G q->F q:=λq a=>(s q a).1;have g:jH Y.m .i64 .p (j2 Y.ps) U G:=g;have w:l=ir:=by
   simp only[CC,oS,hf,D]at w;exact w
  have L:=g.2.lt;have A:dJ v Y.m .i64 .p (j2 Y.ps):=e.fR g.2 id;refine⟨Y.m,_,rfl,A,λv2 z u=>?_⟩;rw[Md hf]at u;have e2:Ext F U v2:=(bL.to e).only z (.inl (K _ g.1));have C:Ext (λq=>G q\/H q) U v2:=(bL.to e).only z (.inl (.inl g.1));have J:bZ v2 U.size [.slice none 0 0,.int .i64 1,.int .i64 0]:=WH z y O;have d:eH v2 (Grow F U) {Y with ps:=Y.ps++[(k,U.size)]} tb bud ls:=by
   refine⟨h.nE,h.ok,h.len,λx i=>?_,?_⟩
   ·rcases zK.1 i with i|i
    ·exact h.keys x i
    ·simp only[zP]at i;subst i;exact hk
   refine(Sep.loc CC.loc).mono (r v2 (CC tb bud ls {Y with ps:=Y.ps++[(k,U.size)]}) G (· = U.size) (λj B M=>?_) C (λq a=>.inl (.inl a)) (λq a=>.inr O) (λq B M=>?_) ⟨g.1,u⟩ ?_ CC.loc) λq _ a=>?_
   ·cases j<;>first|rfl|exact absurd rfl B|skip
    rename_i m;have P:m≠k:=λe=>M (by rw[e]);simp only[CC,UU hf,zB P]
   ·have:=(s q B).2;omega
   ·simp only[CC,UU hf,zR,D,w,oS];exact⟨rfl,fL.nil,⟨none,0,0⟩,J,cV.nil _ _ _ _,zD _⟩
   ·rcases a with a|a|a
    ·exact .inl a.1.1
    ·exact .inl (K q a)
    ·exact .inr O
  refine aG (d.hd.rM rfl ⟨_,d.map,?_⟩);rw[Dg,UU hf,zC rfl];exact hR v2 {Y with ps:=Y.ps++[(k,U.size)]} U.size e2 rfl (by show jc (Y.ps++[(k,U.size)]) k=_;rw[UU hf,zC rfl]) d
theorem yn (h:eH U F Y tb bud ls)(hk:k<tb.length){R:Option Addr->Int->Hp->Prop}(hR:∀σ' Y' b,Ext F U σ'->Y'.p=Y.p->jc Y'.ps k=some b->eH σ' (Grow F U) Y' tb bud ls->R (some ⟨b,0,none⟩) 0 σ') :
 XC.c (aW Y.p) (k:Int) U R:=by
 refine XC.o ?_;unfold XC.v;exact HM h (cE rfl (MD h hk λσ' Y' b e g d a=>cE rfl (hR σ' Y' b e g d a)))
theorem bS.py {s:Sl}{sz:Nat}{xs:List Value}(h:bS s sz xs U F):s.len<=s.cap:=by
 rcases h.2 with⟨q1,q2⟩|⟨_,_,_,_,_,q,_⟩
 ·omega
 ·exact q
theorem HW (h:iY b l U G){m:Nat}(hm:m<=l.os.length){R:Sl->Hp->Prop}
 (hR:∀s z σ',Ext (· = b) U σ'->U.size<=z->bS s 1 (WD (l.os.take m)) σ' (λq=>U.size<=q/\q<z)->iY b (gG m l).2 σ' (λq=>q=b\/z<=q)->R s σ') :
 Xq.c (aW b) (m:Int) U R:=by
 refine Xq.o ?_;unfold Xq.v;obtain⟨X,e,s,B,C,W⟩:=h;have N:s.len=l.os.length:=by have:=C.1;simp[WD]at this;omega
 have E:=e.many;have K:=e.low;have g:=cV.sub C (lo:=0) (hi:=m) (mx:=s.cap) O O O;have e1:((WD l.os).drop (0*1)).take ((m-0)*1)=WD (l.os.take m):=by simp[WD]
 rw[e1]at g;refine aG (B.rS rfl (jj (lo:=0) O aC aC (Ho g V4 aC λs1 L P x D=>?_)));have p:=x.bW B id;have F:=aH.bP C x;have r:=cV.sub F (lo:=m) (hi:=s.len) (mx:=s.cap) O O O;have e2:((WD l.os).drop (m*1)).take ((s.len-m)*1)=WD (l.os.drop m):=by
  rw[lz (by simp[WD];omega)];simp[WD]
 rw[e2]at r;refine aG (p.rS rfl (jj aC aC aC (Ho r V4 aC λs2 V y H u=>?_)));have J:=H.bW p id;refine aG (J.s1 (by simp[mX]) λv3 o3 a=>aG (a.rI rfl (aG (a.rS rfl (aG (a.s1 (by simp[mX]) λv4 o4 i=>?_))))));have d:Ext (· = b) V v4:=o3.ext.trans o4.ext;have Q:=B.lt;have A:=x.1;have w:s2.len=l.os.length-m:=by rw[y];simp only;omega
 refine hR s1 L.size v4 ((bL.to (x.trans H)).trans d) A ?_ ⟨.inl rfl,Ac e,s2,?_,?_,bS.py u⟩
 ·refine aI.bT (aI.bP (aI.mono D (G:=λq=>U.size<=q/\q<L.size) λq j M=>⟨M,j⟩) H) d λq _ j S=>by omega
 ·have:(if((s2.len:Nat):Int)<(l.low:Int)then((s2.len:Nat):Int)else(l.low:Int))=((min l.low (l.os.length-m):Nat):Int):=by rw[w];split<;>omega
  rw[this]at i;exact i
 ·refine aH.mono (aH.bT u.fX d λq _ j S=>O) λq _ j=>⟨.inr j,O⟩
theorem Pu (h:iY b l U G){sl:Sl}{xs:List Int}{X:Rg}(hs:cV sl 1 (WD xs) U X)(hx:xs≠[])(hfit:l.os.length+xs.length<=256){R:aN}
 (hR:∀σ',Ext (· = b) U σ'->iY b (eB xs l) σ' (λq=>q=b\/U.size<=q)->R 0 σ'):Xh.c (aW b) sl U R:=by
 refine Xh.o ?_;unfold Xh.v;obtain⟨K,w,s,g,d,H⟩:=h;have B:s.len=l.os.length:=by have:=d.1;simp[WD]at this;omega
 have E:sl.len=xs.length:=by have:=hs.1;simp[WD]at this;omega
 have z:=qg.2 hx;have y:eB xs l = {l with os:=l.os++xs}:=by unfold eB;rw[zB O]
 refine aG (g.rS rfl (cS (m:=l.os.length+xs.length) aC O (fV O (aG (g.rS rfl ?_)))));refine Xx.o ?_;unfold Xx.v;refine jj (lo:=0) aC aC aC ?_;have C:=g.lt;refine⟨WD l.os,WD xs,by simp[WD];omega,by simp[WD];omega,?_,hs.rd,V4,?_,by simp only;omega,λr=>by simp only at r;omega,λx c i=>?_⟩
 ·by_cases h0:s.len=0
  ·have:l.os=[]:=List.length_eq_zero_iff.1 O;rw[this];simp only[h0,zR];cases s.a<;>simp[Rd,WD]
  ·simp only[zB h0,wz];have:=d.rd;cases ha:s.a with
   | none=>rw[ha]at this;simpa[Rd]using this
   | some a=>rw[ha]at this;simpa[Rd,Addr.add_zero']using this
 ·simp only;have:(s.len-0+sl.len)*8<=256*8:=mb O O;omega
 ·refine nw λv J e p=>aG ((e.bW g id).s1 (by simp[mX]) λF o2 u=>?_);have D:l.os.length+xs.length<=c:=by simp only at i;omega
  refine hR F ((bL.to e).trans o2.ext) ?_;rw[y];have:=yC (xs:=xs) w;rw[y]at this;refine⟨.inl rfl,this,⟨some ⟨U.size,0,none⟩,s.len-0+sl.len,c⟩,u,⟨by simp[WD];omega,.inr ⟨U.size,0,_,⟨.inr (zD _),O⟩,rfl,(WH o2 p O).q,λj A=>?_⟩⟩,by simp only;omega⟩;simp only[WD,zk,zM]at A;rw[zH,zr,←zr,zd (by simp[WD];omega)];simp[WD]
theorem Ol (h:iY b l U G){sl:Sl}{xs:List Int}{X:Rg}(hs:cV sl 1 (WD xs) U X)(hfit:¬l.os.length+xs.length<=256)(hxs:xs.length<=1000000){R:aN}
 (hR:R 6 U):Xh.c (aW b) sl U R:=by
 refine Xh.o ?_;unfold Xh.v;obtain⟨p,d,s,i,a,j⟩:=h;have g:s.len=l.os.length:=by have:=a.1;simp[WD]at this;omega
 have e:sl.len=xs.length:=by have:=hs.1;simp[WD]at this;omega
 have:=d.many;exact aG (i.rS rfl (cS (m:=l.os.length+xs.length) aC O (lV O hR)))
end Go.Ar
namespace Go.Ar
open Go Go.Vc Go.Proofs
variable {U:Hp}{F G:Rg}{Y:gU}{tb:List cA}{bud:Nat}{ls:List Li}{b k:Nat}{l:Li}{c:cA}
theorem eH.cls (h:eH U F Y tb bud ls)(hc:tb[k]?=some c):c.ok/\k<tb.length:=⟨h.ok c (zG hc),(cZ.1 hc).1⟩
theorem iY.st {v:Hp}(h:iY b l U G){s:Sl}{l':Li}(ho:Ext (· = b) U v)(hb:bZ v b (mX s l'))(hs:cV s 1 (WD l'.os) U (λq=>G q/\q≠b))(hc:s.len<=s.cap)(ok:fL l'):iY b l' v G:=
 ⟨h.1,ok,s,hb,aH.bT hs ho λq _ a d=>a.2 d,hc⟩
theorem kZ (h:eH U F Y tb bud ls)(hc:tb[k]?=some c)(hl:ls[k]?=some l){R:Int->Int->Hp->Prop}
 (hR:∀σ' Y',Ext F U σ'->Y'.p=Y.p->eH σ' (Grow F U) Y' tb bud (ls.set k (Ky c l).2)->R ((Ky c l).1.getD 0) (if(Ky c l).1.isSome then 0 else 4) σ'):Ym.c (aW Y.p) (k:Int) U R:=by
 obtain⟨u,hk⟩:=h.cls hc;refine Ym.o ?_;unfold Ym.v;refine yn h hk λv Y' b e Z hb N=>cE rfl ?_;obtain⟨G,hL,J⟩:=N.eZ e hb hl;have B:=hL;obtain⟨S,i,s,g,D,r⟩:=hL;have M:=N.hd;rw[Z]at M;have W:s.len=l.os.length:=by have:=D.1;simp[WD]at this;omega
 have o1:=i.low;have o2:=i.many;have o3:=i.lim;have o4:=i.ns;have a:=EG u i;have fin:∀v' G',Ext G v v'->(∀q,G' q->Grow G v q)->iY b (Ky c l).2 v' G'->R ((Ky c l).1.getD 0) (if(Ky c l).1.isSome then 0 else 4) v':=λv' G' X hg P=>by
  obtain⟨e2,h2⟩:=J v' _ G' X hg P;exact hR v' Y' e2 Z h2
 unfold cA.ok at u;have y:∀{v':Hp},Ext (· = b) v v'->Ext G v v':=λX=>X.sub λq z=>by rw[z];exact S
 refine aG (g.rS rfl ?_);by_cases h0:l.os=[]
 ·have e1:(Ky c l).1=none:=by unfold Ky;rw[h0];rfl
  have e2:(Ky c l).2=if l.lim<c.batch then{l with lim:=l.lim+1}else{l with lim:=min (l.lim+c.batch) 128}:=by unfold Ky;rw[h0];rfl
  rw[e1,e2]at fin;rw[e2]at a;refine cD (by simp[W,h0]) (aG (M.rS rfl (tn N.jC hc (d:=2) O ?_)));simp only[zB (show ¬(2=0) by omega),zB (show ¬(2=1) by omega)];refine aG (g.rI rfl (cQ (λc1=>?_) λc1=>?_))
  ·have A:l.lim<c.batch:=by omega
   rw[zC A]at fin a;refine aG (g.rI rfl (cS (m:=l.lim+1) O O (aG (g.s1 (by simp[mX]) λv' H j=>?_))));exact fin v' G (y H.ext) (λq z=>.inl z) (B.st H.ext j D r a)
  ·have A:¬l.lim<c.batch:=by omega
   rw[zB A]at fin a;refine aG (g.rI rfl (cS (m:=l.lim+c.batch) O O (aG (g.s1 (by simp[mX]) λv' H j=>?_))));refine fin v' G (y H.ext) (λq z=>.inl z) (B.st H.ext ?_ D r a);have:(if(128:Int)<((l.lim+c.batch:Nat):Int)then(128:Int)else((l.lim+c.batch:Nat):Int))=((min (l.lim+c.batch) 128:Nat):Int):=by split<;>omega
   rw[this]at j;exact j
 ·have hpos:=qg.2 h0;obtain⟨x,hx⟩:∃x,l.os[l.os.length-1]?=some x:=⟨_,cX O⟩;have L:l.os.getLast?=some x:=by rw[List.getLast?_eq_getElem?];exact hx
  have e1:(Ky c l).1=some x:=by unfold Ky;rw[L]
  have e2:(Ky c l).2 = {l with os:=l.os.dropLast,low:=min l.low (l.os.length-1)}:=by unfold Ky;rw[L]
  rw[e1,e2]at fin;rw[e2]at a;refine cE (by simp only[mB];omega) ?_;refine aG (g.rS rfl (cS (m:=l.os.length-1) aC O (aG (g.rS rfl (D.mi hx (aG (g.rS rfl ?_)))))));have w:=cV.sub D (lo:=0) (hi:=l.os.length-1) (mx:=s.cap) O O O;have ed:((WD l.os).drop (0*1)).take ((l.os.length-1-0)*1)=WD l.os.dropLast:=by simp[WD,yx]
  rw[ed]at w;refine jj (lo:=0) O aC aC (aG (g.s1 (by simp[mX]) λv1 V C=>aG (C.rI rfl (aG (C.s1 (by simp[mX]) λv2 Q E=>?_)))));have K:=V.ext.trans Q.ext;refine fin v2 G (y K) (λq z=>.inl z) (B.st K ?_ w aC a);have:(if((l.os.length-1:Nat):Int)<(l.low:Int)then((l.os.length-1:Nat):Int)else(l.low:Int))=((min l.low (l.os.length-1):Nat):Int):=by split<;>omega
  rw[this]at E;exact E
theorem Sd (h:eH U F Y tb bud ls)(hc:tb[k]?=some c)(hl:ls[k]?=some l){R:Int->Int->Hp->Prop}
 (hR:∀σ' Y',Ext F U σ'->Y'.p=Y.p->eH σ' (Grow F U) Y' tb bud ls->R ((oz c l:Nat):Int) 0 σ'):Yn.c (aW Y.p) (k:Int) U R:=by
 obtain⟨j,w⟩:=h.cls hc;refine Yn.o ?_;unfold Yn.v;refine yn h w λv Y' b e r y g=>cE rfl ?_;obtain⟨G,A,m⟩:=g.eZ e y hl;obtain⟨x,z,s,i,B,u⟩:=A;have a:=g.hd;rw[r]at a;refine aG (i.rI rfl (aG (a.rS rfl (tn g.jC hc (d:=2) O ?_))));simp only[zB (show ¬(2=0) by omega),zB (show ¬(2=1) by omega)];have:(if(c.batch:Int)<(l.lim:Int)then(c.batch:Int)else(l.lim:Int))=((oz c l:Nat):Int):=by unfold oz;split<;>omega
 rw[this];exact hR v Y' e r g
theorem R8 (l:List Int)(i:Nat)(h:i<l.length):l.reverse[i]?=l[l.length-1-i]? := by
 rw[List.getElem?_reverse h]
theorem Rj {s:Sl}{xs:List Int}(h:bS s 1 (WD xs) U F)(hlen:xs.length<=1000000){R:aP}(hR:∀σ',Ext F U σ'->bS s 1 (WD xs.reverse) σ' F->R σ'):Xg.c s U R:=by
 refine Xg.o ?_;unfold Xg.v;have L:s.len=xs.length:=by have:=h.1;simp[WD]at this;omega
 let jf (i:Nat):List Int:=(List.range xs.length).map λj=>if j<i\/xs.length-i<=j then xs.getD (xs.length-1-j) 0 else xs.getD j 0
 have lh:∀i,(jf i).length=xs.length:=λi=>by simp[jf]
 have bU:∀i j,j<xs.length->(jf i)[j]?=some (if j<i\/xs.length-i<=j then xs.getD (xs.length-1-j) 0 else xs.getD j 0):=λi j e=>by simp[jf,e]
 have P:jf 0=xs:=by
  apply zo;intro j;by_cases e:j<xs.length
  ·rw[bU 0 j e,zB O];simp[zQ,cX e]
  ·rw[zW (by rw[lh];omega),zW O]
 have z:∀i,xs.length<=2*i+1->i<=xs.length->jf i=xs.reverse:=by
  intro i H J;apply zo;intro j;by_cases e:j<xs.length
  ·rw[bU i j e,R8 xs j e,zQ,zQ,cX (show xs.length-1-j<xs.length by omega),cX e];split
   ·rfl
   ·have:xs.length-1-j=j:=by omega
    simp only[this];rfl
  ·rw[zW (by rw[lh];omega),zW aE]
 have step:∀i,2*i+1<xs.length->((jf i).set i (xs.getD (xs.length-1-i) 0)).set (xs.length-1-i) (xs.getD i 0)=jf (i+1):=by
  intro i hi;apply zo;intro j;by_cases e:j<xs.length
  ·rw[bU (i+1) j e,nm,nm];simp only[oZ,lh];by_cases e1:xs.length-1-i=j
   ·subst e1;rw[zC rfl,zC O,zC O]
    congr 2;omega
   ·rw[zB e1];by_cases e2:i=j
    ·subst e2;rw[zC rfl,zC O,zC O]
    ·rw[zB e2,bU i j e];by_cases e3:j<i\/xs.length-i<=j
     ·rw[zC e3,zC O]
     ·rw[zB e3,zB O]
  ·rw[zW (by simp[lh];omega),zW (by rw[lh];omega)]
 refine xh ?_;rw[Ub O O];refine Us (a:=bO) (bb:=bO) (λ(i j:Int) v=>∃n:Nat,i=(n:Int)/\j=(xs.length:Int)-1-n/\n<=xs.length/\Ext F U v/\bS s 1 (WD (jf n)) v F) (λi _ _=>xs.length-i.toNat) ⟨0,rfl,O,O,Ext.refl _ _,by rw[P];exact h⟩ ?_;rintro i j v ⟨n,rfl,rfl,V,ev,w⟩;refine cQ (λQ=>?_) λM=>?_
 ·have r:2*n+1<xs.length:=by omega
  have D:(xs.length:Int)-1-n=((xs.length-1-n:Nat):Int):=by omega
  rw[D];have B:=bU n (xs.length-1-n) O;have C:=bU n n O;rw[zB O]at B C;rw[zQ]at B C;obtain⟨b,p⟩:∃b,s.a=some ⟨b,0,none⟩:=by
   rcases w.2 with⟨q1,q2⟩|⟨b,cs,_,A,_⟩
   ·omega
   ·exact⟨b,A⟩
  have g:∀u,bS s 1 (WD (jf n)) u F->∀(j:Nat) (x:Int),(jf n)[j]?=some x->cell u (Addr.add ⟨b,0,none⟩ ((j:Int).toNat*1))=some (.int .i64 x):=λu y j x N=>by
   obtain⟨E,o,A,K⟩:=y.fX.cell (j:=j) (v:=.int .i64 x) (by simp[WD,N]);rw[p]at A;cases A;rw[add_lit,show 0+(j:Int).toNat*1=0+j by omega];exact K
  rw[p];refine⟨λu=>bS s 1 (WD (jf n)) u F,w,?_⟩;refine ix O O ⟨_,λu y=>g u y _ _ B,?_⟩;refine ix O O ⟨_,λu y=>g u y _ _ C,?_⟩;refine ix O O ?_;refine w.st (j:=n) (by simp[WD,lh];omega) (λE d=>by rw[p]at d;cases d;rw[add_lit];simp) λS e1 H=>?_;refine ix O O ?_;refine H.st (j:=xs.length-1-n) (by simp[WD,lh];omega) (λE d=>by rw[p]at d;cases d;rw[add_lit];simp) λW e2 J=>?_;refine cS (m:=n+1) O O (cS (m:=xs.length-1-n-1) O O ⟨⟨n+1,rfl,O,O,(ev.trans e1).trans e2,?_⟩,O⟩);rw[←step n r,zQ,zQ];have G:∀(l:List Int) (i:Nat) (x:Int),WD (l.set i x)=(WD l).set i (.int .i64 x):=λl i x=>by simp[WD,uD]
  rw[G,G];exact J
 ·rw[z n O O]at w;exact hR v ev w
theorem σ (h:iY b l U G){sl:Sl}(hz:sl.len=0){R:aN}(hR:∀σ',Ext (· = b) U σ'->iY b l σ' G->R 0 σ'):Xh.c (aW b) sl U R:=by
 refine Xh.o ?_;unfold Xh.v;have C:=h;obtain⟨E,j,s,z,g,D⟩:=h;have x:s.len=l.os.length:=by have:=g.1;simp[WD]at this;omega
 have r:=j.many;refine aG (z.rS rfl (cS (m:=l.os.length) aC O (fV O (aG (z.rS rfl ?_)))));refine Xx.o ?_;unfold Xx.v;refine jj (lo:=0) aC aC aC ?_;have d:=cV.sub g (lo:=0) (hi:=s.len) (mx:=s.len) O O O;have A:((WD l.os).drop (0*1)).take ((s.len-0)*1)=WD l.os:=by rw[x,lz (by simp[WD])];simp
 rw[A]at d;have key:∀(e:Sl),cV e 1 (WD l.os) U (λq=>G q/\q≠b)->e.len<=e.cap->bX (some ⟨b,0,none⟩) λw=>dU (w.add 0) (.slice e.a e.len e.cap) U λv2=>R 0 v2:=λe u p=>by
  refine aG (z.s1 (by simp[mX]) λv2 o2 y=>hR v2 o2.ext ?_);exact C.st (l':=l) (s:=e) o2.ext y u p j
 refine⟨WD l.os,[],by simp[WD];omega,by simp[hz],d.rd,by cases sl.a<;>simp[Rd],by simp,?_,by simp only;omega,λB=>?_,λi=>absurd (by simp only[hz];omega) i⟩
 ·simp only[hz];have:(s.len-0+0)*8<=256*8:=mb O O;omega
 ·simp only[hz,kc];cases ha:(if s.len=0 then s.a else s.a.map (·.add (0*1)))
  ·rw[ha]at d;exact key ⟨none,s.len-0,s.len-0⟩ d (zD _)
  ·rw[ha]at d;exact key ⟨some _,s.len-0,s.len-0⟩ d (zD _)
theorem E7 (h:iY b l U G){sl:Sl}{xs:List Int}{X:Rg}(hs:cV sl 1 (WD xs) U X)(hfit:l.os.length+xs.length<=256){R:aN}
 (hR:∀σ',Ext (· = b) U σ'->iY b (eB xs l) σ' (Grow G U)->R 0 σ'):Xh.c (aW b) sl U R:=by
 by_cases hx:xs=[]
 ·subst hx;have g:eB [] l=l:=by unfold eB;rw[zB (by simp only[lx]at hfit ⊢;omega)];simp
  refine σ h (by have:=hs.1;simp[WD]at this;omega) λσ' e d=>hR σ' e ?_;rw[g];exact(iY.loc _ _).mono d λq _ a=>.inl a
 ·exact Pu h hs hx hfit λσ' e d=>hR σ' e ((iY.loc _ _).mono d λq _ a=>a.imp (λe=>by rw[e];exact h.1) id)
theorem O2 (h:eH U F Y tb bud ls)(hc:tb[k]?=some c)(hl:ls[k]?=some l){sl:Sl}{xs:List Int}{X:Rg}(hs:cV sl 1 (WD xs) U X)(hX:∀q,X q->¬F q)(hfit:l.os.length+xs.length<=256){R:aN}
 (hR:∀σ' Y',Ext F U σ'->Y'.p=Y.p->eH σ' (Grow F U) Y' tb bud (ls.set k (eB xs.reverse l))->R 0 σ'):Yc.c (aW Y.p) (k:Int) sl U R:=by
 obtain⟨s,y⟩:=h.cls hc;have B:sl.len=xs.length:=by have:=hs.1;simp[WD]at this;omega
 refine Yc.o ?_;unfold Yc.v;refine yn h y λv Y' b e x C w=>cE rfl ?_;have i:=aH.bT hs e λq _ a=>hX q a;refine Ho i V4 O λs1 H E e1 j=>?_;refine Rj j O λv2 e2 r=>?_;have d:bL v v2:=Ext.fresh e1 e2 λq a=>a;obtain⟨G,u,g⟩:=(w.bP d).eZ (e.trans (bL.to d)) C hl;refine E7 u r.fX aE λv3 A m=>?_;obtain⟨D,z⟩:=g v3 _ _ (A.sub λq a=>a▸u.1) (λq a=>a) m;exact hR v3 Y' D x z
theorem Qz {α:Type}{ls:List α}{k:Nat}{l:α}(h:ls[k]?=some l):ls.set k l=ls:=by
 apply zo;intro j;by_cases hj:j=k
 ·subst hj;rw[zN (cZ.1 h).1,h]
 ·rw[zg (Ne.symm hj)]
theorem LW (h:eH U F Y tb bud ls)(hc:tb[k]?=some c)(hl:ls[k]?=some l)(x:Int){R:Sl->Int->Hp->Prop}
 (hR:∀σ' Y' s e (Q:Rg),Ext F U σ'->Y'.p=Y.p->(l.os.length+1<=256->e=0)->(∀q,Q q->U.size<=q)->bS s 1 (WD (dL c x l).1) σ' Q->eH σ' (λq=>Grow F U q/\¬Q q) Y' tb bud (ls.set k (dL c x l).2)->R s e σ'):YP.c (aW Y.p) (k:Int) x U R:=by
 obtain⟨ab,hk⟩:=h.cls hc;refine YP.o ?_;unfold YP.v;refine yn h hk λv Y' b e hp hb h'=>cE rfl ?_;have hσv:=e.1;obtain⟨G,hG,hL,_,W⟩:=h'.xD hb hl;have hblt:b<v.size:=by obtain⟨_,_,s,hbk,_⟩:=hL;exact hbk.lt
 have u:=hL.1;have S:=hL.2.1;have hmany:=S.many;have r:∀(σ':Hp) (l':Li) (G':Rg),Ext G v σ'->(∀q,G' q->Grow G v q)->iY b l' σ' G'->Ext F U σ'/\eH σ' (λq=>Grow F U q/\q<v.size/\¬G q\/G' q) Y' tb bud (ls.set k l'):=λσ' l' G' e' hg hL'=>by
  obtain⟨e1,h1⟩:=W σ' l' G' e' hg hL';exact⟨e.jy e1,h1⟩
 have hin:∀{G':Rg} {q:Nat},(∀q,G' q->Grow G v q)->(Grow F U q/\q<v.size/\¬G q\/G' q)->Grow F U q:=λhg a=>by
  rcases a with a|a
  ·exact a.1
  ·rcases hg _ a with H|H
   ·exact hG _ H
   ·exact .inr O
 refine nw (cs:=[.int .i64 x]) λv1 hz1 e1 hb1=>?_;have K:=(iY.loc _ _).bP hL e1;have J:cV ⟨some ⟨v.size,0,none⟩,1,1⟩ 1 (WD [x]) v1 (· = v.size):=hb1.fX (o:=0) rfl (by simp[WD]) (λj hj=>by
  simp only[WD,zS,rp,zV,lx]at hj ⊢;rw[zH])
 by_cases hfit:l.os.length+1<=256
 ·refine E7 K J (by simpa using hfit) λv2 e2 C=>cE rfl ?_;have B:Ext G v v2:=(bL.to e1).trans (e2.sub λq a=>a▸u);have aa:∀q,Grow G v1 q->Grow G v q:=λq a=>a.imp id λN=>by omega
  obtain⟨eF2,H⟩:=r v2 _ _ B aa C;have i:(eB [x] l).os=l.os++[x]/\(eB [x] l).lim=l.lim/\(eB [x] l).low=l.low:=by unfold eB;rw[zB (by simp only[zV,lx];omega)];exact⟨rfl,rfl,rfl⟩
  have A:=C;obtain⟨_,ok2,s2,g,M,E⟩:=C;have hs2l:s2.len=l.os.length+1:=by have:=M.1;simp[WD,i.1]at this;omega
  refine aG (g.rS rfl (aG (g.rI rfl ?_)));rw[i.2.1];refine cQ (λc1=>?_) λc1=>?_
  ·have D:l.os.length+1<=l.lim:=by simp only at c1;omega
   have w:dL c x l=([],eB [x] l):=by unfold dL;rw[zB O,zC D]
   refine hR v2 Y' _ 0 (λ_=>False) eF2 hp (λ_=>rfl) (λq a=>a.elim) (by rw[w];exact bS.nil _ _ _ _) ?_;rw[w];exact H.mono λq _ a=>⟨hin aa a,id⟩
  ·have D:¬l.os.length+1<=l.lim:=by simp only at c1;omega
   have w:dL c x l=gG (min c.batch (l.os.length+1)) (mJ c (eB [x] l)):=by unfold dL;rw[zB O,zB D]
   have ad:=H.hd;rw[hp]at ad;refine aG (ad.rS rfl (tn H.jC hc (d:=2) O ?_));simp only[zB (show ¬(2=0) by omega),zB (show ¬(2=1) by omega)];refine Jn.intro ?_;have y:∀v3,Ext (· = b) v2 v3->iY b (mJ c (eB [x] l)) v3 (Grow G v1)->bX (some ⟨b,0,none⟩) λa62=>ju (a62.add 0) v3 λX=>Xq.c (aW b) (if((X.len:Nat):Int)<(c.batch:Int)then((X.len:Nat):Int)else(c.batch:Int)) v3 λt67 v4=>R t67 0 v4:=by
    intro v3 e3 hL3;have P:=hL3;obtain⟨_,ok3,s3,Z,hs3,hcap3⟩:=hL3;have ac:(mJ c (eB [x] l)).os=l.os++[x]:=by unfold mJ;split<;>exact i.1
    have L:s3.len=l.os.length+1:=by have:=hs3.1;simp[WD,ac]at this;omega
    refine aG (Z.rS rfl ?_);have em:(if((s3.len:Nat):Int)<(c.batch:Int)then((s3.len:Nat):Int)else(c.batch:Int))=((min c.batch (l.os.length+1):Nat):Int):=by rw[L];split<;>omega
    rw[em];refine HW P (by rw[ac];simp;omega) λs z v4 e4 hz hr hL4=>?_;have e24:Ext (· = b) v2 v4:=e3.trans e4;have e04:Ext G v v4:=B.trans (e24.sub λq a=>a▸u);have hs23:=e3.1;have hs02:=B.1;obtain⟨eF4,h4⟩:=r v4 _ (λq=>q=b\/z<=q) e04 (λq a=>a.imp (λ(N:q=b)=>by rw[N];exact u) λ(N:z<=q)=>O) hL4;refine hR v4 Y' s 0 (λq=>v3.size<=q/\q<z) eF4 hp (λ_=>rfl) (λq a=>O) (by rw[w];exact hr) ?_;rw[w];refine h4.mono λq _ a=>⟨?_,λhQ=>?_⟩
    ·rcases a with a|a|a
     ·exact a.1
     ·subst a;exact hG _ u
     ·exact .inr O
    ·rcases a with a|a|a<;>omega
   refine aG (g.rI rfl ?_);rw[i.2.1];refine cQ (λc2=>?_) λc2=>?_
   ·have c2':l.lim<c.batch:=by omega
    have eu:mJ c (eB [x] l) = {eB [x] l with lim:=l.lim+1}:=by unfold mJ;rw[i.2.1,zC c2']
    have V:=FF ab ok2;refine aG (g.rI rfl ?_);rw[i.2.1];have hl128:=S.lim;refine cS (m:=l.lim+1) O O (aG (g.s1 (by simp[mX]) λv3 o3 hb3=>y v3 o3.ext ?_));rw[eu]at V ⊢;exact A.st o3.ext hb3 M E V
   ·have eu:mJ c (eB [x] l)=eB [x] l:=by unfold mJ;rw[i.2.1,zB O]
    exact y v2 (Ext.refl _ _) (by rw[eu];exact A)
 ·refine Ol K J (by simpa using hfit) aA (cD rfl ?_);have w:dL c x l=([],l):=by unfold dL;rw[zC O]
  refine hR v1 Y' _ 6 (λ_=>False) (e.trans (bL.to e1)) hp (λN=>absurd N hfit) (λq a=>a.elim) (by rw[w];exact bS.nil _ _ _ _) ?_;rw[w,Qz hl];exact(h'.bP e1).mono λq _ a=>⟨a,id⟩
end Go.Ar
namespace Go.Ar
open Go Go.Vc Go.Proofs
open Go.Bu (Zt Q0 Zr)
variable {U:Hp}{F:Rg}{p hs:Nat}{A:AR}{Y:Lay}{T:Nat->Hp->Rg->Prop}
theorem dI.tg (h:dI U F Y A T){k q:Nat}{c:cA}{ss:List cH}(h1:Y.fH[k]?=some q)(h2:A.tb[k]?=some c)(h3:A.cG[k]?=some ss) :
 ∃G:Rg,(∀b,G b->F b)/\(∃ps,fD U G q c ps ss)/\(∀j,∃H:Rg,(∀b,H b->F b)/\(∀b,H b->¬G b)/\T j U H)/\∀(σ':Hp) (ss':List cH) (ps':List (Nat×Nat)) (G' H:Rg),
  Ext G U σ'->(∀b,G' b->G b\/U.size<=b)->fD σ' G' q c ps' ss'->(∀b,(F b/\b<U.size/\¬G b\/G' b)->H b)->dI σ' H Y {A with cG:=A.cG.set k ss'} T:=by
 obtain⟨G,d,p,hd,a⟩:=h.step (.cG k);have r:k<A.cG.length:=(cZ.1 h3).1;refine⟨G,d,FD h1 h2 h3 p,λj=>hd (.cO j) (by intro e;cases e),λσ' ss' ps' G' H e g i m=>?_⟩;refine a σ' _ _ T G' H h.lay.lf h.tl MY e g ?_ m;simp only[AC];rw[h1,h2,zN r];exact⟨ps',i⟩
theorem S6 (h:dI U F Y A T)(k m:Int){R:Sl->Int->Hp->Prop}(hR:∀s σ',Ext F U σ'->bS s 1 (ints (Yt A k m)) σ' (λb=>U.size<=b)->dI σ' (Cut F U) Y (YM A k m) T->R s (QV A k m) σ') :
 WW.c (aW Y.p) k m U R:=by
 refine WW.o ?_;unfold WW.v;refine UA h k (λj=>?_) λx E w=>?_
 ·have e1:QV A k m=1:=by unfold QV;rw[j];rfl
  have e2:YM A k m=A:=by unfold YM;rw[e1];rfl
  have g:Yt A k m=[]:=by unfold Yt;rw[e1];rfl
  have:=hR ⟨none,0,0⟩ U (Ext.refl _ _) (by rw[g];exact bS.nil _ _ _ _) (by rw[e2];exact h.cut);rw[e1]at this;exact cD rfl this
 ·subst E;have j:A.ck (x:Int)=true:=by unfold AR.ck;simp;omega
  obtain⟨c,ss,q,t,r,y,a,B,_,_,J⟩:=h.at_ w;obtain⟨G,z,⟨K,C⟩,_,d⟩:=h.tg B y a;refine cE rfl (aG (h.hd.rS rfl (h.lQ B ?_)));by_cases hm:m<0
  ·have e1:QV A x m=1:=by unfold QV;rw[j,zC rfl,zC hm]
   have e2:YM A x m=A:=by unfold YM;rw[e1];rfl
   have g:Yt A x m=[]:=by unfold Yt;rw[e1];rfl
   have:=hR ⟨none,0,0⟩ U (Ext.refl _ _) (by rw[g];exact bS.nil _ _ _ _) (by rw[e2];exact h.cut);rw[e1]at this;exact Pf C m hm this
  ·have e1:QV A x m=0:=by unfold QV;rw[j,zC rfl,zB hm]
   have D:VP A x m=Kt c m.toNat ss:=by unfold VP;simp only[dD];rw[y,a]
   have e2:YM A x m = {A with cG:=A.cG.set x (Kt c m.toNat ss).2}:=by unfold YM;rw[e1,zC rfl,D];rfl
   have g:Yt A x m=(Kt c m.toNat ss).1:=by unfold Yt;rw[e1,zC rfl,D]
   refine Pl C m O λs σ' e i u=>?_;have:=hR s σ' (e.sub z) (by rw[g];exact i) (by rw[e2];exact d σ' _ _ (Cut G U) _ e (λb H=>.inl H.1) u (Jm z));rw[e1]at this;exact this
theorem My {k:Nat}{f:gK->gK}:∀j,j≠Lb.cO k->AC {A with cO:=A.cO.modify k f} Y (cM {A with cO:=A.cO.modify k f} Y) j=AC A Y (cM A Y) j:=by
 intro j hj;cases j<;>first|rfl|skip
 rename_i k';have a:k≠k':=λe=>hj (by rw[e]);simp only[AC,cM];simp[tu,a]
theorem eV.j5 {k:Nat}{f:gK->gK}(h:eV A Y):eV {A with cO:=A.cO.modify k f} Y:=⟨h.c,h.t,h.cG,by simpa using h.cO,h.nE,h.rf,h.n1,h.n2,h.n3,h.st,h.room,h.ok⟩
theorem dI.sP (h:dI U F Y A (cM A Y)){k q:Nat}{c:cA}{t:gK}(h1:Y.gg[k]?=some q)(h2:A.tb[k]?=some c)(h3:A.cO[k]?=some t) :
 ∃G:Rg,(∀b,G b->F b)/\iP U G q c.batch A.room t/\∀(σ':Hp) (f:gK->gK) (G' H:Rg),
  Ext G U σ'->(∀b,G' b->G b\/U.size<=b)->iP σ' G' q c.batch A.room (f t)->(∀b,(F b/\b<U.size/\¬G b\/G' b)->H b)->dI σ' H Y {A with cO:=A.cO.modify k f} (cM {A with cO:=A.cO.modify k f} Y):=by
 obtain⟨G,i,g,hd,a⟩:=h.step (.cO k);have d:iP U G q c.batch A.room t:=by
  simp only[AC,cM]at g;rw[h1,h2,h3]at g;exact g
 refine⟨G,i,d,λσ' f G' H e m p r=>?_⟩;refine a σ' _ _ _ G' H h.lay.j5 (λj=>cM.loc j) My e m ?_ r;simp only[AC,cM];rw[h1,h2,List.getElem?_modify_eq,h3];exact p
theorem GT (h:dI U F Y A (cM A Y))(k:Int){R:Sl->Int->Hp->Prop}(hR:∀s σ',Ext F U σ'->(∀b,kM s b->F b)->cV s 1 (WD (YI A k)) σ' (kM s)->s.len<=s.cap->dI σ' (λb=>F b/\¬kM s b) Y (ZQ A k) (cM (ZQ A k) Y)->R s (Qi A k) σ') :
 WQ.c (aW Y.p) k U R:=by
 refine WQ.o ?_;unfold WQ.v;refine UA h k (λz=>?_) λx N E=>?_
 ·have e1:Qi A k=1:=by unfold Qi;rw[z];rfl
  have e2:ZQ A k=A:=by unfold ZQ;rw[e1];rfl
  have u:YI A k=[]:=by unfold YI;rw[e1];rfl
  have:=hR ⟨none,0,0⟩ U (Ext.refl _ _) (λb d=>by obtain⟨a,g,_⟩:=d;cases g) (by rw[u];exact cV.nil _ _ _ _) (zD _) (by rw[e2];exact h.mono λb _ d=>⟨d,λ⟨a,g,_⟩=>by cases g⟩);rw[e1]at this;exact cD rfl this
 ·subst N;have z:A.ck (x:Int)=true:=by unfold AR.ck;simp;omega
  obtain⟨c,Q,q,t,r,L,K,S,B,H,P⟩:=h.at_ E;obtain⟨G,D,J,i⟩:=h.sP H L B;refine cE rfl (aG (h.hd.rS rfl (h.sx H ?_)));by_cases d:t.bs=[]
  ·have e1:Qi A x=4:=by unfold Qi;rw[z,zC rfl];simp only[dD];rw[B];simp[d]
   have e2:ZQ A x=A:=by unfold ZQ;rw[e1];rfl
   have u:YI A x=[]:=by unfold YI;rw[e1];rfl
   have:=hR ⟨none,0,0⟩ U (Ext.refl _ _) (λb d=>by obtain⟨a,g,_⟩:=d;cases g) (by rw[u];exact cV.nil _ _ _ _) (zD _) (by rw[e2];exact h.mono λb _ d=>⟨d,λ⟨a,g,_⟩=>by cases g⟩);rw[e1]at this;exact OH J d this
  ·have e1:Qi A x=0:=by unfold Qi;rw[z,zC rfl];simp only[dD];rw[B];simp[d]
   have e2:ZQ A x = {A with cO:=A.cO.modify x gK.rem}:=by unfold ZQ;rw[e1,zC rfl];rfl
   have u:YI A x=t.bs.getLast?.getD []:=by unfold YI;rw[e1,zC rfl];simp only[dD];rw[B]
   refine Sy J d λs σ' e y w m C=>?_;have j:∀b,(F b/\b<U.size/\¬G b\/G b/\¬kM s b)->F b/\¬kM s b:=λb d=>by
    rcases d with d|d
    ·exact⟨d.1,λM=>d.2.2 (y b M)⟩
    ·exact⟨D b d.1,d.2⟩
   have:=hR s σ' (e.sub D) (λb d=>D b (y b d)) (by rw[u];exact w) m (by rw[e2];exact i σ' _ (λb=>G b/\¬kM s b) _ e (λb d=>.inl d.1) C j);rw[e1]at this;exact this
theorem T1 (h:dI U F Y A (cM A Y))(k:Int){sl:Sl}{xs:List Int}{X:Rg}(hs:cV sl 1 (WD xs) U X)(hi:∀x∈xs,iH x){R:Bool->Int->Hp->Prop}(hR:∀σ',Ext F U σ'->dI σ' (Grow F U) Y (Ks A k xs) (cM (Ks A k xs) Y)->R (VD A k xs) (Hm A k xs) σ') :
 W7.c (aW Y.p) k sl U R:=by
 refine W7.o ?_;unfold W7.v;have u:sl.len=xs.length:=by have:=hs.1;simp[WD]at this;omega
 have V:∀e:Int,e≠0->Hm A k xs=e->R false e U:=λe he D=>by
  have e3:VD A k xs=false:=by unfold VD;rw[zL O];rfl
  have e2:Ks A k xs=A:=by unfold Ks;rw[e3];rfl
  have:=hR U (Ext.refl _ _) (by rw[e2];exact h.mono λb _ g=>.inl g);rw[D,e3]at this;exact this
 refine UA h k (λhk=>cD rfl (V 1 aB (by unfold Hm;rw[hk];rfl))) λx P hlt=>?_;subst P;have hk:A.ck (x:Int)=true:=by unfold AR.ck;simp;omega
 obtain⟨c,Q,q,t,r,M,E,hq,ht,hr,hok⟩:=h.at_ hlt;obtain⟨G1,ps,hG1,hCe⟩:=h.cG hq M E;obtain⟨G,hG,hC,H⟩:=h.sP hr M ht;have N:Hm A x xs=if xs.length=c.batch then(if xs.all (λx=>dY c Q x==some true)then 0 else 8)else 1:=by unfold Hm;rw[hk,zC rfl];simp only[dD];rw[M,E]
 refine cE rfl (aG (h.hd.rS rfl (h.xG (d:=2) M O ?_)));simp only[zB (show ¬(2=0) by omega),zB (show ¬(2=1) by omega)];rw[qO];refine cU (λg=>?_) λg=>?_
 ·have:¬xs.length=c.batch:=by rw[←u];simpa using g
  exact V 1 aB (by rw[N,zB this])
 have L:xs.length=c.batch:=by rw[←u];simpa using g
 rw[zC L]at N;have h32:c.batch<=32:=hok.2.2.2.2.2.2.2;refine Qg (a:=bO) (λ(i:Int) v=>∃j:Nat,i=(j:Int)/\j<=xs.length/\v=U/\∀y∈xs.take j,dY c Q y=some true) (λi _=>xs.length-i.toNat) ⟨0,rfl,O,rfl,by simp⟩ ?_;rintro i v ⟨j,rfl,hj,rfl,s⟩;refine cQ (λhlt2=>?_) λhge=>?_
 ·have K:j<xs.length:=by omega
  have P:xs[j]?=some xs[j]:=cX K;have W:xs.take (j+1)=xs.take j++[xs[j]]:=by rw[ko,P];rfl
  have w:=ka K;generalize xs[j]=y at *;have J:dY c Q y≠some true->R false 8 v:=λZ=>V 8 aB (by
   rw[N,zB];intro ha;rw[kf]at ha;exact Z (by simpa using ha y w))
  refine hs.mi P (aG (h.hd.rS rfl (h.lQ hq (DF hCe _ (hi y w) (λb g=>?_) λg=>?_))))
  ·refine bV.intro (cE rfl ?_);cases b
   ·exact cD rfl (J (by rw[g];simp))
   ·refine cE rfl (cS (m:=j+1) O O ⟨⟨j+1,rfl,O,rfl,λz hz=>?_⟩,O⟩);rw[W]at hz;rcases zK.1 hz with D|D
    ·exact s z D
    ·simp at D;rw[D];exact g
  ·exact bV.intro (cD rfl (cD rfl (J (by rw[g];simp))))
 ·have:j=xs.length:=by omega
  subst this;rw[l0]at s;have B:Hm A x xs=0:=by
   rw[N,zC];rw[kf];intro y hy;simp[s y hy]
  have C:VD A x xs=decide (t.bs.length<A.room):=by unfold VD;rw[B];simp only[dD];rw[ht];simp
  refine aG (h.hd.rS rfl (h.sx hr (τ hC hs O (λZ=>absurd L Z) (λ_ hf=>?_) λ_ hf σ' e S=>?_)))
  ·rw[zL O]at C;have e2:Ks A x xs=A:=by unfold Ks;rw[C];rfl
   have:=hR v (Ext.refl _ _) (by rw[e2];exact h.mono λb _ g=>.inl g);rw[B,C]at this;exact this
  ·rw[zJ O]at C;have e2:Ks A x xs = {A with cO:=A.cO.modify x λt=>{t with bs:=t.bs++[xs]}}:=by unfold Ks;rw[C,zC rfl];rfl
   have:=hR σ' (e.sub hG) (by rw[e2];exact H σ' (λt=>{t with bs:=t.bs++[xs]}) (Grow G v) _ e (λb g=>g) S (HU hG λb g=>g));rw[B,C]at this;exact this
theorem fD.Oy {q:Nat}{c:cA}{ps:List (Nat×Nat)}{ss:List cH}{G:Rg}(h:fD U G q c ps ss):∀s∈ss,s.st<=1024:=by
 intro s hs;obtain⟨i,a⟩:=zO hs;have b:=(cZ.1 a).1;have d:i<ps.length:=by rw[h.len];exact b
 have:=(h.sp _ _ _ (cX d) a).fit;omega
theorem Ny (h:dI U F Y A T)(k:Int){sl:Sl}{xs:List Int}(hi:∀x∈xs,iH x)(hl:xs.length<=1000000)(hcap:sl.len<=sl.cap)
 (hs:(∃X:Rg,cV sl 1 (WD xs) U X/\∀b,b<U.size->X b->¬F b)\/∃j,∀H,T j U H->cV sl 1 (WD xs) U H)
 {R:aN} (hR:∀σ',Ext F U σ'->dI σ' (Grow F U) Y (ZN A k xs) T->R (Kd A k xs) σ') :
 Xa.c (aW Y.p) k sl U R:=by
 refine Xa.o ?_;unfold Xa.v;have no:∀e:Int,e≠0->Kd A k xs=e->R e U:=λe he V=>by
  have e2:ZN A k xs=A:=by unfold ZN;rw[zB O]
  have:=hR U (Ext.refl _ _) (by rw[e2];exact h.mono λb _ d=>.inl d);rw[V]at this;exact this
 refine UA h k (λS=>cD rfl (no 1 aB (by unfold Kd;rw[S];rfl))) λx hx aa=>?_;subst hx;have S:A.ck (x:Int)=true:=by unfold AR.ck;simp;omega
 obtain⟨c,g,q,t,r,E,u,hq,_,_,hok⟩:=h.at_ aa;obtain⟨G,P,⟨ps,L⟩,hd,B⟩:=h.tg hq E u;have hX:∃X:Rg,cV sl 1 (WD xs) U X/\∀b,X b->¬G b:=by
  rcases hs with⟨X,V,h2⟩|⟨j,hj⟩
  ·exact⟨Cut X U,aH.cut V,λb d hg=>h2 b d.2 d.1 (P b hg)⟩
  ·obtain⟨H,_,D,hT⟩:=hd j;exact⟨H,hj H hT,D⟩
 obtain⟨X,W,J⟩:=hX;have N:Kd A x xs=iE c g xs:=by unfold Kd;rw[S,zC rfl];simp only[dD];rw[E,u]
 refine cE rfl (aG (h.hd.rS rfl (h.lQ hq (Tu L W J hi hl hcap (λD=>?_) λh0 o σ1 e1 m K=>?_))))
 ·refine cD (by simpa using D) (no _ D N)
 ·refine cE rfl ?_;have eS:ZN A x xs=Uu {A with cG:=A.cG.set x (cK (xs.foldl (fE c) g))} ((QF (xs.foldl (fE c) g)).map λs=>(s,c.aF)):=by
   unfold ZN;rw[N,zC h0];simp only[dD];rw[E,u]
  have Z:=B σ1 _ _ (Cut G U) _ e1 (λb d=>.inl d.1) K (Jm P);rw[Na]at m;have C:((QF (xs.foldl (fE c) g)).map λs=>(s,c.aF)).length<=1000000/\∀r∈((QF (xs.foldl (fE c) g)).map λs=>(s,c.aF)),r.1<=1000000:=by
   have i:∀(ys:List Int) (ls:List cH),((ys.foldl (fE c) ls).map (·.st))=ls.map (·.st):=by
    intro ys
    induction ys with
    | nil=>intro ls;rfl
    | cons y ys ih=>
     intro ls;rw[qv,ih];unfold fE;split
     ·rename_i j hj;split
      ·rename_i s a;split
       ·simp only[uD];apply zo;intro z;rw[nm];by_cases w:j=z
        ·subst w;rw[zC rfl];have:=(cZ.1 a).1;rw[zC (by simpa using this)];simp[a,cH.put]
        ·rw[zB w]
       ·rfl
      ·rfl
     ·rfl
   have Q:∀s∈QF (xs.foldl (fE c) g),s∈g.map (·.st):=by
    intro s a;rw[←i xs g];unfold QF at a;simp only[zF,zI]at a ⊢;obtain⟨z,w,rfl⟩:=a;exact⟨z,w.1,rfl⟩
   have hfew:=L.p8;refine⟨?_,λr hr=>?_⟩
   ·have:(QF (xs.foldl (fE c) g)).length<=(xs.foldl (fE c) g).length:=by
     unfold QF;rw[zk];exact pd _ _
    have h2:(xs.foldl (fE c) g).length=g.length:=by have:=congrArg List.length (i xs g);simpa using this
    rw[zk];omega
   ·obtain⟨s,a,rfl⟩:=zF.1 hr;obtain⟨z,w,rfl⟩:=zF.1 (Q s a);have:=L.Oy z w;simp only;omega
  refine Jf Z m.fX (λb _ d hf=>by have:=hf.2;omega) C.1 C.2 λσ2 e2 M=>?_;have:=hR σ2 ((e1.sub P).trans (e2.sub λb d=>d.1)) ?_
  ·rw[N,h0]at this;exact this
  ·rw[eS];exact M.mono λb _ d=>by
    rcases d with d|d
    ·exact .inl d.1
    ·exact .inr (j9 e1.1 d)
theorem N1 (l:List (Nat×Nat))(x:Int):bU (iN l) x=(l.find? λr=>(r.1:Int)==x).map λr=>(r.2:Int):=by
 induction l with
 | nil=>rfl
 | cons r l ih=>
  have:iN (r::l)=((r.1:Int),(r.2:Int))::iN l:=rfl;rw[this,KG,uv,ih];by_cases h:(r.1:Int)=x
  ·simp[h]
  ·have:((r.1:Int)==x)=false:=by simpa using h
   rw[this,zB h]
theorem No (l:List (Nat×Nat))(x:Int):cT (iN l) x=iN (l.filter λq=>!((q.1:Int)==x)):=by
 unfold cT iN;rw[wW];rfl
theorem JM (l:List (Nat×Nat))(x m:Nat):dB (iN l) (x:Int) (m:Int)=iN (cC.mset2 l x m):=by
 unfold dB cC.mset2 iN;have e:(l.map λr=>((r.1:Int),(r.2:Int))).any (λy=>y.1==(x:Int))=l.any λr=>r.1==x:=by
  rw[List.any_map]
  congr 1
  funext r
  exact l6 r.1 x
 rw[e];split
 ·rw[lB,lB];apply ke;intro r _;simp only[Function.comp_def];rw[l6];split<;>rfl
 ·simp
theorem dI.rX (h:dI U F Y A T):F Y.rn/\dJ U Y.rn .i64 bO (iN A.runs)/\∀(σ':Hp) (rs:List (Nat×Nat)),QR U σ' Y.rn->dJ σ' Y.rn .i64 bO (iN rs)->dI σ' F Y {A with runs:=rs} T:=by
 obtain⟨G,g,⟨e,p⟩,_,a⟩:=h.step .runs;refine⟨g _ e,p,λσ' rs m j=>?_⟩;exact a σ' _ _ T G _ h.lay.qB h.tl Rc (m.ext.sub λb d=>by subst d;exact e) (λb d=>.inl d) ⟨e,j⟩ (zx g λb d=>d)
theorem MX (h:dI U F Y A T)(x:Int)(hf:∀r∈A.runs,r.1<=1000000){R:aN}(hR:∀σ',Ext F U σ'->dI σ' (Grow F U) Y (QT A x) T->R (Vp A x) σ') :
 Xb.c (aW Y.p) x U R:=by
 refine Xb.o ?_;unfold Xb.v;obtain⟨P,H,e⟩:=h.rX;refine Hl h (cE rfl (aG (h.hd.rM rfl ⟨_,H,?_⟩)));rw[N1];cases hr:(A.runs.find? λr=>(r.1:Int)==x)with
 | none=>
  have e1:Vp A x=8:=by unfold Vp pO;rw[hr];rfl
  have e2:QT A x=A:=by unfold QT pO;rw[hr]
  have:=hR U (Ext.refl _ _) (by rw[e2];exact h.mono λb _ a=>.inl a);rw[e1]at this;exact cD rfl this
 | some r=>
  have e1:Vp A x=0:=by unfold Vp pO;rw[hr];rfl
  have e2:QT A x=V8 {A with runs:=A.runs.filter λq=>!((q.1:Int)==x)} r:=by unfold QT pO;rw[hr]
  have w:=s7 hr;have z:(r.1:Int)=x:=by simpa using tK hr
  refine cE rfl (aG (h.hd.rM rfl ⟨_,H,λm y _ D=>?_⟩));have o1:=y _ rfl;have d:dJ m Y.rn .i64 bO (cT (iN A.runs) x):=D;rw[No]at d;have C:=e m _ o1 d;simp only[ze,qk];refine nw (cs:=[.int .i64 x,.int .i64 (r.2:Int)]) λN L g E=>?_;have u:=C.cut.bP g;have B:cV ⟨some ⟨m.size,0,none⟩,1,1⟩ 2 (rV [r]) N (· = m.size):=by
   refine⟨rfl,.inr ⟨_,0,_,rfl,rfl,E.q,λj Q=>?_⟩⟩;have:rV [r]=[.int .i64 (r.1:Int),.int .i64 (r.2:Int)]:=rfl;rw[this,z,zH]
  refine Jf u B (λb _ a K=>by have:=K.2;omega) aA (λq J=>by simp at J;subst J;exact hf _ w) λv3 M G=>?_;have s:Ext F U v3:=(o1.ext.sub λb a=>by subst a;exact P).trans ((bL.to g).trans (M.sub λb a=>a.1));have:=hR v3 s (by
   rw[e2];exact G.mono λb _ a=>by
    rcases a with a|a
    ·exact .inl a.1
    ·exact .inr (by have:=o1.1;omega))
  rw[e1]at this;exact this
theorem VF (rs:List (Nat×Nat)):∀A:AR,(Uu A rs).tb=A.tb/\(Uu A rs).room=A.room/\(Uu A rs).cO=A.cO/\(Uu A rs).cG=A.cG/\(Uu A rs).runs=A.runs/\(Uu A rs).n=A.n:=by
 induction rs with
 | nil=>intro A;exact⟨rfl,rfl,rfl,rfl,rfl,rfl⟩
 | cons r rs ih=>intro A;exact ih (V8 A r)
theorem UC (A:AR)(k:Int)(xs:List Int):(ZN A k xs).tb=A.tb/\(ZN A k xs).room=A.room/\(ZN A k xs).cO=A.cO/\(ZN A k xs).runs=A.runs/\(ZN A k xs).n=A.n:=by
 unfold ZN;split
 ·split
  ·exact⟨(VF _ _).1,(VF _ _).2.1,(VF _ _).2.2.1,(VF _ _).2.2.2.2.1,(VF _ _).2.2.2.2.2⟩
  ·exact⟨rfl,rfl,rfl,rfl,rfl⟩
 ·exact⟨rfl,rfl,rfl,rfl,rfl⟩
theorem gK.pz (t:gK):∀xs∈t.tick.bs,xs∈t.bs:=λxs h=>tG h
theorem Vs {α:Type}{l:List α}{k:Nat}{t:α}{f:α->α}(h:l[k]?=some t):l.modify k f=l.set k (f t):=by
 apply zo;intro i;rw[nm,tu];by_cases hi:k=i
 ·subst hi;have:=(cZ.1 h).1;rw[zC rfl,zC this,h];simp
 ·simp[hi]
def BK (A:AR)(Y:Lay)(k r:Nat)(c:cA)(t:gK)(out:Sl)(sls:List Sl)(j:Nat):Hp->Rg->Prop:=
 if j=k then λU G=>iP U G r c.batch A.room t.tick/\cV out 1 (sls.map pU) U G/\q9 sls t.out U G else cM A Y j
theorem BK.loc {k r:Nat}{c:cA}{t:gK}{out:Sl}{sls:List Sl}(j:Nat):dM (BK A Y k r c t out sls j):=by
 unfold BK;split
 ·exact λU i F G ⟨g,d,e⟩ b a=>⟨iP.loc _ _ _ _ g b a,cV.loc _ _ _ _ _ _ _ d b a,q9.loc _ _ _ _ _ _ e b a⟩
 ·exact cM.loc j
end Go.Ar
namespace Go.Bu
variable {n:Nat}{S:Nat->Bool}
theorem Ul {m a k x:Nat}(h:ZT n S m a k=some x):∃j,j<k/\m<=2^j/\a<=2^j/\(YT n S j).head?=some x/\∀i,i<j->m<=2^i->a<=2^i->YT n S i=[]:=by
 have xr:∀k,ZT n S m a k=none->∀i,i<k->m<=2^i->a<=2^i->YT n S i=[]:=by
  intro k
  induction k with
  | zero=>intro _ i hi;omega
  | succ k ih=>
   intro hn i hi d b;rw[ZT]at hn;split at hn
   ·cases hn
   ·rename_i hn';by_cases e:i=k
    ·subst e;rw[zC ⟨d,b⟩]at hn;simpa using hn
    ·exact ih hn' i O d b
 induction k with
 | zero=>simp[ZT]at h
 | succ k ih=>
  rw[ZT]at h;split at h
  ·rename_i y hy;cases h;obtain⟨j,d,b⟩:=ih hy;exact⟨j,O,b⟩
  ·rename_i hn;split at h
   ·rename_i hc;exact⟨k,O,hc.1,hc.2,h,xr k hn⟩
   ·cases h
theorem Hb {m a:Nat}:∀{k},ZT n S m a k=none->∀i,i<k->m<=2^i->a<=2^i->YT n S i=[]
 | 0,_,i,hi,_,_=>by omega
 | k+1,hn,i,hi,h1,h2=>by
  rw[ZT]at hn;split at hn
  ·cases hn
  ·rename_i hn';by_cases e:i=k
   ·subst e;rw[zC ⟨h1,h2⟩]at hn;simpa using hn
   ·exact Hb hn' i O h1 h2
theorem kP (hb:Bounded S n){m a x:Nat}(h:Zr n S m a=some x):x+m<=n/\∀y,x<=y->y<x+m->S y=true:=by
 obtain⟨j,_,i,_,e,_⟩:=Ul h;have b:x∈YT n S j:=List.mem_of_head? e;obtain⟨q,rfl,d⟩:=(Kb hb).1 b;have:=ZZ hb (ZP.1 d).1;exact⟨O,λy p g=>Ua d (Qp.2 O)⟩
end Go.Bu
namespace Go.Ar
open Go Go.Vc Go.Proofs
open Go.Bu (Zt Q0 Zr)
variable {U:Hp}{F H:Rg}{p hs:Nat}{A:AR}{sp:Sp}{Y:Lay}{T:Nat->Hp->Rg->Prop}
structure W2 (U:Hp) (F H:Rg) (Y:Lay) (A:AR) (T:Nat->Hp->Rg->Prop) (sp:Sp):Prop where
 a:dI U F Y A T
 s:dN U H Y.hs sp
 d:∀b,F b->¬H b
 g:Gl U
 o:iW F
 o2:iW H
def ja (F H:Rg):Rg:=λb=>F b\/H b
theorem W2.l4 (h:W2 U F H Y A T sp){σ':Hp}{A':AR}(e:Ext F U σ')(ha:dI σ' F Y A' T):W2 σ' F H Y A' T sp:=
 ⟨ha,dM.bT dN.loc h.s e λb _ a i=>h.d b i a,h.d,h.g.bT e h.o,h.o,h.o2⟩
theorem W2.space (h:W2 U F H Y A T sp){σ':Hp}{sp':Sp}(e:Ext H U σ')(hs:dN σ' H Y.hs sp'):W2 σ' F H Y A T sp':=
 ⟨dM.bT dI.loc h.a e λb _ i j=>h.d b i j,hs,h.d,h.g.bT e h.o2,h.o,h.o2⟩
theorem W2.bP (h:W2 U F H Y A T sp){σ':Hp}(e:bL U σ'):W2 σ' F H Y A T sp:=⟨h.a.bP e,h.s.bP e,h.d,h.g.bP e,h.o,h.o2⟩
theorem W2.cut (h:W2 U F H Y A T sp):W2 U (Cut F U) (Cut H U) Y A T sp:=⟨h.a.cut,dM.cut dN.loc h.s,λb e i=>h.d b e.1 i.1,h.g,h.o.sub λb e=>e.1,h.o2.sub λb e=>e.1⟩
theorem W2.ox (h:W2 U F H Y A T sp){σ':Hp}{A':AR}(e:Ext F U σ')(ha:dI σ' (Grow F U) Y A' T):W2 σ' (Grow F U) (Cut H U) Y A' T sp:=
 ⟨ha,dM.bT dN.loc (dM.cut dN.loc h.s) e λb _ a j=>h.d b j a.1,λb a i=>by
  rcases a with a|a
  ·exact h.d b a i.1
  ·have:=i.2;omega,h.g.bT e h.o,h.o.grow h.g,h.o2.sub λb a=>a.1⟩
theorem W2.Em (h:W2 U F H Y A T sp){K:Option Addr->Prop}(hK:K (some ⟨Y.hs,0,none⟩)):fS (Addr.add ⟨Y.p,0,none⟩ 1) U K:=h.a.hd.rP rfl hK
theorem Iy (st:List Nat)(a m:Nat):U2 st a (m+1)=iQ (U2 st a m) ((a+m:Nat):Int):=by
 unfold U2;rw[pZ,jU,vt];rfl
theorem NX {a m:Int}(h:fA sp a m≠0):fW sp a m=sp:=by unfold fW;rw[zB h]
theorem Ms {size:Nat}(h1:1<=size)(h:∀j,1<=j->j*size+size<=sp.st.length->fA sp ((j*size:Nat):Int) (size:Int)≠0):di sp size=none:=by
 unfold di;rw[nY];intro x hx;obtain⟨j,b,rfl⟩:=zF.1 hx;rw[zh]at b;have d:(j+1)*size<=sp.st.length:=j9 (ma size b) (xT _ _);rw[zl,Nat.one_mul]at d;by_cases h0:j=0
 ·subst h0;simp
 ·have:=h j O d;have a:(fA sp ((j*size:Nat):Int) (size:Int)==0)=false:=by simpa only[mB]using this
  rw[a,tW];simp
theorem LI {size j:Nat}(h1:1<=size)(h0:1<=j)(hf:j*size+size<=sp.st.length)(hm:fA sp ((j*size:Nat):Int) (size:Int)=0)(h:∀i,1<=i->i<j->fA sp ((i*size:Nat):Int) (size:Int)≠0):di sp size=some (j*size):=by
 unfold di;have m:j<sp.st.length/size:=by
  rw[Nat.lt_iff_add_one_le,Nat.le_div_iff_mul_le h1,zl,Nat.one_mul];exact hf
 have a:List.range (sp.st.length/size)=List.range j++(j::(List.range (sp.st.length/size-j-1)).map (j+1 + ·)):=by
  apply zo;intro i;rw[List.getElem?_append,xO];by_cases d:i<j
  ·rw[zC d,nt O,nt d]
  ·rw[zB d];by_cases hij:i=j
   ·subst hij;rw[oU,yY,nt m]
   ·rw[show i-j=(i-j-1)+1 by omega,yu,za];by_cases hl:i<sp.st.length/size
    ·rw[nt hl,nt O];simp only[ze]
     congr 1;omega
    ·rw[zW (by rw[xO];omega),zW (by rw[xO];omega)];rfl
 rw[a,jU,List.find?_append];have b:((List.range j).map (· * size)).find? (λ(s:Nat)=>s != 0&&fA sp s size==0)=none:=by
  rw[nY];intro x hx;obtain⟨i,d,rfl⟩:=zF.1 hx;rw[zh]at d;by_cases h0:i=0
  ·subst h0;simp
  ·have:=h i O d;have g:(fA sp ((i*size:Nat):Int) (size:Int)==0)=false:=by simpa only[mB]using this
   rw[g,tW];simp
 rw[b,zS,uv];have:(j*size != 0&&fA sp ((j*size:Nat):Int) (size:Int)==0)=true:=by
  rw[hm];have p:0<j*size:=Nat.mul_pos O O;have e:j*size≠0:=by omega
  simp[e]
 rw[this];rfl
theorem S5 (h:W2 U F H Y A T sp){size:Nat}(h1:size=16\/size=32\/size=64){R:aO}(h0:U3 A sp size=none->∀σ',Ext (ja F H) U σ'->W2 σ' F H Y A T sp->R false σ')
 (hR:∀A' sp',U3 A sp size=some (A',sp')->∀σ',Ext (ja F H) U σ'->W2 σ' F H Y A' T sp'->R true σ'):Y5.c (aW Y.p) (size:Int) U R:=by
 refine Y5.o ?_;unfold Y5.v;have hn2:sp.st.length<=1024:=by obtain⟨q,r,l,B,hh⟩:=h.s;exact hh.n2
 have es:∀{a b:Hp},Ext H a b->Ext (ja F H) a b:=λe=>e.sub λb P=>.inr P;have Z:∀{a b:Hp},Ext F a b->Ext (ja F H) a b:=λe=>e.sub λb P=>.inl P;have d:∀j,j*size+size=(j+1)*size:=λj=>by rw[zl,Nat.one_mul]
 refine Qg (a:=bO) (λ(t:Int) v=>∃j:Nat,t=((j*size:Nat):Int)/\1<=j/\j*size<=1024+64/\Ext (ja F H) U v/\W2 v F H Y A T sp/\∀i,1<=i->i<j->i*size+size<=sp.st.length->fA sp ((i*size:Nat):Int) (size:Int)≠0) (λt _=>2000-t.toNat)
  ⟨1,O,zD _,O,Ext.refl _ _,h,λi h1 h2=>O⟩ ?_
 rintro t v ⟨j,rfl,hj,P,e,z,x⟩;refine cS (m:=j*size+size) O O (aG (z.Em (D6 z.s (cQ (λhlt=>?_) λhge=>?_))))
 ·have hf:j*size+size<=sp.st.length:=by omega
  refine aG (z.Em (LX z.s z.g z.o2 _ _ λv2 e2 E=>?_));refine cU (λQ=>?_) λQ=>?_
  ·have M:fA sp ((j*size:Nat):Int) (size:Int)≠0:=by simpa using Q
   rw[NX M]at E;refine cS (m:=(j+1)*size) (by rw[←d];omega) (by rw[←d];omega) ⟨⟨j+1,rfl,O,by rw[←d];omega,e.trans (es e2),z.space e2 E,λi y G C=>?_⟩,by rw[←d];omega⟩;by_cases hij:i=j
   ·subst hij;exact M
   ·exact x i y O C
  ·have W:fA sp ((j*size:Nat):Int) (size:Int)=0:=by simpa using Q
   have X:=z.space e2 E;have L:∀i,i<j->i*size+size<=sp.st.length:=λi hi=>by
    have:(i+1)*size<=j*size:=ma _ hi;rw[d];omega
   have D:=LI (sp:=sp) O hj hf W λi y G=>x i y G (L i G);have J:U3 A sp size=some ({A with st:=U2 A.st (j*size/16) (size/16),S:=Q0 A.n A.S ((j*size:Nat):Int) size},fW sp ((j*size:Nat):Int) size):=by unfold U3;rw[D]
   have hd16:(j*size)%16=0:=by
    rcases h1 with rfl|rfl|rfl
    ·omega
    ·omega
    ·omega
   refine nz aB (cS (m:=j*size/16) (by rw[YK O];simp) O ?_);refine Qg (a:=bO) (λ(t:Int) w=>∃i:Nat,t=((j*size/16+i:Nat):Int)/\i<=size/16/\Ext (ja F H) U w/\W2 w F H Y {A with st:=U2 A.st (j*size/16) i} T (fW sp ((j*size:Nat):Int) size)) (λt _=>200-t.toNat)
    ⟨0,O,O,e.trans (es e2),X⟩ ?_
   rintro t w ⟨i,rfl,hi,ew,u⟩;refine cS (m:=j*size+size) O O (nz aB (cS (m:=(j*size+size)/16) (by rw[YK O];simp) O (cQ (λhlt2=>?_) λhge2=>?_)))
   ·refine aG (u.a.hd.rP rfl (u.a.BV _ λw2 t2 N K=>?_));refine cS (m:=j*size/16+(i+1)) O O ⟨⟨i+1,rfl,O,ew.trans (Z N),?_⟩,O⟩;rw[Iy];exact u.l4 N K
   ·have V:i=size/16:=by omega
    subst V;refine aG (u.a.hd.rP rfl (u.a.wg _ _ λw2 t2 N K=>?_));exact hR _ _ J w2 (ew.trans (Z N)) (u.l4 N K)
 ·have D:=Ms (sp:=sp) (size:=size) O λi y C=>by
   by_cases hij:i<j
   ·exact x i y hij C
   ·have:j*size<=i*size:=ma _ O;omega
  have J:U3 A sp size=none:=by unfold U3;rw[D]
  exact h0 J v e z
theorem LV {m a:Nat}(h1:1<=m)(h2:m<=64)(ha:a=1\/a=2\/a=4\/a=8\/a=16):Go.Bu.fM (m:Int) (a:Int)=true:=by
 have b:Go.Bu.eW (a:Int)=true:=by rcases ha with rfl|rfl|rfl|rfl|rfl<;>decide
 unfold Go.Bu.fM;rw[b];simp only[u9,zE,zU];omega
theorem W2.take (h:W2 U F H Y A T sp){m a:Nat}(hok:Go.Bu.fM (m:Int) (a:Int)=true){R:Int->Int->Hp->Prop}(h0:Zr A.n A.S m a=none->∀σ',Ext F U σ'->W2 σ' F H Y A T sp->R 0 6 σ')
 (h1:∀x,Zr A.n A.S m a=some x->x+m<=A.n->∀σ',Ext F U σ'->W2 σ' F H Y {A with S:=Go.Bu.take A.S x (x+m)} T sp->R (x:Int) 0 σ'):XY.c (aW Y.fr) (m:Int) (a:Int) U R:=by
 have b:Go.Bu.Bounded A.S A.n:=by obtain⟨r,p,i,_⟩:=h.a.free;exact i.jr
 refine h.a.vE _ _ λσ' e j=>?_;have d:=h.l4 e j;cases ht:Zr A.n A.S m a with
 | none=>
  have e1:Go.Bu.iZ A.n A.S (m:Int) (a:Int)=6:=by unfold Go.Bu.iZ;rw[hok,zC rfl];simp only[dD];rw[ht]
  have e2:Go.Bu.iT A.n A.S (m:Int) (a:Int)=0:=by unfold Go.Bu.iT;rw[hok,zC rfl];simp only[dD];rw[ht]
  have g:Go.Bu.jb A.n A.S (m:Int) (a:Int)=A.S:=by unfold Go.Bu.jb;rw[hok,zC rfl];simp only[dD];rw[ht]
  rw[e1,e2];rw[g]at d;exact h0 ht σ' e d
 | some x=>
  have e1:Go.Bu.iZ A.n A.S (m:Int) (a:Int)=0:=by unfold Go.Bu.iZ;rw[hok,zC rfl];simp only[dD];rw[ht]
  have e2:Go.Bu.iT A.n A.S (m:Int) (a:Int)=x:=by unfold Go.Bu.iT;rw[hok,zC rfl];simp only[dD];rw[ht]
  have g:Go.Bu.jb A.n A.S (m:Int) (a:Int)=Go.Bu.take A.S x (x+m):=by unfold Go.Bu.jb;rw[hok,zC rfl];simp only[dD];rw[ht]
  rw[e1,e2];rw[g]at d;exact h1 x ht (Go.Bu.kP b ht).1 σ' e d
theorem Nk {size:Nat}{A':AR}{sp':Sp}(h:U3 A sp size=some (A',sp')):A'.n=A.n:=by
 unfold U3 at h;split at h
 ·cases h
 ·cases h;rfl
def Fits (U:Hp)(F H F' H':Rg):Prop:=(∀b,F' b->Grow F U b)/\∀b,H' b->H b
theorem EF (h:W2 U F H Y A T sp){m a no:Nat}(h1:1<=m)(h2:m<=64)(ha:a=1\/a=2\/a=4\/a=8\/a=16)(hn1:1<=no)(hn2:no<=1000){R:Int->Int->Hp->Prop}
 (h0:(dA A sp m a no).1=none->∀σ',Ext (ja F H) U σ'->W2 σ' F H Y (dA A sp m a no).2.1 T (dA A sp m a no).2.2->R 0 6 σ')
 (hR:∀x,(dA A sp m a no).1=some x->x+m<=A.n->∀σ' F' H',Fits U F H F' H'->Ext (ja F H) U σ'->W2 σ' F' H' Y (dA A sp m a no).2.1 T (dA A sp m a no).2.2->R (x:Int) 0 σ') :
 YN.c (aW Y.p) (m:Int) (a:Int) (no:Int) U R:=by
 refine YN.o ?_;unfold YN.v;have G:=LV h1 h2 ha;have es:∀{a b:Hp},Ext H a b->Ext (ja F H) a b:=λe=>e.sub λb j=>.inr j;have r:∀{a b:Hp},Ext F a b->Ext (ja F H) a b:=λe=>e.sub λb j=>.inl j;have fin:∀(v:Hp) (x:Nat) (A1:AR) (sp1:Sp),Ext (ja F H) U v->x+m<=A.n->W2 v F H Y {A1 with S:=Go.Bu.take A1.S x (x+m)} T sp1->dA A sp m a no=(some x,dP A1 x m no,sp1) →
  bX (some ⟨Y.p,0,none⟩) λK=>fS (K.add 3) v λZ=>XM.c Z (x:Int) (m:Int) v λt55 u=>bX (some ⟨Y.p,0,none⟩) λQ=>fS (Q.add 4) u λM=>Yr.c M (x:Int) (m:Int) (no:Int) u λt63 v3=>R (x:Int) 0 v3:=by
  intro v x A1 sp1 e hxm D y;have W:x<=1000000:=by have:=h.a.lay.n2;omega
  refine aG (D.a.hd.rP rfl (D.a.Sb _ _ λu t2 e2 N=>?_));have g:=D.l4 e2 N;refine aG (g.a.hd.rP rfl (g.a.Set x m W hn1 hn2 λv3 t3 e3 aa=>?_));have L:=g.ox e3 aa;refine hR x (by rw[y]) hxm v3 (Grow F u) (Cut H u) ⟨λb j=>?_,λb j=>j.1⟩ ((e.trans (r e2)).trans (r e3)) (by rw[y];exact L);rcases j with j|j
  ·exact .inl j
  ·exact .inr (j9 (e.trans (r e2)).1 j)
 refine aG (h.a.hd.rP rfl (h.take G (λE v e D=>?_) λx E B v e D=>?_))
 ·refine Jn.intro (cD rfl ?_);have P:(if(a:Int)>(m:Int)then(a:Int)else(m:Int))=((max m a:Nat):Int):=by
   by_cases hgt:(a:Int)>(m:Int)
   ·rw[zC hgt];omega
   ·rw[zB hgt];omega
  rw[P];refine Qg (a:=bO) (λ(t:Int) w=>w=v/\(t=16\/t=32/\16<max m a\/t=64/\32<max m a)) (λt _=>100-t.toNat) ⟨rfl,.inl rfl⟩ ?_;rintro(t:Int) w ⟨rfl,hcase⟩;have ab:a<=16:=by omega
  refine cQ (λhlt=>?_) λhge=>?_
  ·have:t=16\/t=32:=by omega
   rcases this with rfl|rfl
   ·exact ar O O ⟨⟨rfl,O⟩,by decide⟩
   ·exact ar O O ⟨⟨rfl,O⟩,by decide⟩
  ·have X:t=((Kn (max m a):Nat):Int):=by
    unfold Kn;by_cases c1:max m a<=16
    ·rw[zC c1];omega
    ·rw[zB c1];by_cases c2:max m a<=32
     ·rw[zC c2];omega
     ·rw[zB c2];omega
   subst X;have V:Kn (max m a)=16\/Kn (max m a)=32\/Kn (max m a)=64:=by omega
   refine S5 D V (λy σ' J s=>?_) λA' z y σ' J s=>?_
   ·have d:dA A sp m a no=(none,A,sp):=by unfold dA;rw[E];simp only;rw[y]
    exact cD rfl (h0 (by rw[d]) σ' ((r e).trans J) (by rw[d];exact s))
   ·refine cE rfl (aG (s.a.hd.rP rfl (s.take G (λC u e2 g=>?_) λx C B u e2 g=>?_)))
    ·have d:dA A sp m a no=(none,A',z):=by unfold dA;rw[E];simp only;rw[y];simp only;rw[C]
     exact cD rfl (h0 (by rw[d]) u (((r e).trans J).trans (r e2)) (by rw[d];exact g))
    ·have d:dA A sp m a no=(some x,dP A' x m no,z):=by unfold dA;rw[E];simp only;rw[y];simp only;rw[C]
     exact cE rfl (fin u x A' z (((r e).trans J).trans (r e2)) (by rw[←Nk y];exact B) g d)
 ·have d:dA A sp m a no=(some x,dP A x m no,sp):=by unfold dA;rw[E]
  refine Jn.intro (cE rfl (cE rfl (fin v x A sp (r e) B D d)))
theorem Fits.refl:Fits U F H F H:=⟨λb a=>.inl a,λb a=>a⟩
theorem W2.mono {F' H':Rg}(h:W2 U F H Y A T sp)(hF:iW F')(hF2:∀b,b<U.size->F b->F' b)(hH:∀b,H' b->H b)(hH2:∀b,b<U.size->H b->H' b)(hd:∀b,F' b->¬H' b):W2 U F' H' Y A T sp:=
 ⟨h.a.mono hF2,dM.mono dN.loc h.s hH2,hd,h.g,hF,h.o2.sub hH⟩
theorem NZ (h:W2 U F H Y A T sp)(k:Int){R:aN}(hR:∀σ' F' H',Fits U F H F' H'->Ext (ja F H) U σ'->W2 σ' F' H' Y (cN A sp k).1 T (cN A sp k).2->R (Vl A sp k) σ') :
 Ye.c (aW Y.p) k U R:=by
 refine Ye.o ?_;unfold Ye.v;refine UA h.a k (λE=>?_) λx hx S=>?_
 ·have e1:Vl A sp k=1:=by unfold Vl;rw[E];rfl
  have e2:cN A sp k=(A,sp):=by unfold cN;rw[E];rfl
  have:=hR U F H Fits.refl (Ext.refl _ _) (by rw[e2];exact h);rw[e1]at this;exact cD rfl this
 ·subst hx;have E:A.ck (x:Int)=true:=by unfold AR.ck;simp;omega
  obtain⟨c,K,q,t,r,J,z,W,_,_,V⟩:=h.a.at_ S;have ht2:=h.a.lay.rf;obtain⟨_,_,_,M,hp4,_⟩:=V;refine cE rfl (aG (h.a.hd.rS rfl (h.a.xG (d:=1) J O ?_)));simp only[zB (show ¬(1=0) by omega),zR];refine cS (m:=x+1) O O ?_;have Z:Vl A sp x=match (dA A sp c.aF 1 (x+1)).1 with
   | some y=>GN c K y
   | none=>6:=by unfold Vl;rw[E,zC rfl];simp only[dD];rw[J,z];rfl
  have eS:cN A sp x=match dA A sp c.aF 1 (x+1)with
   | (some y,A',u)=>(if GN c K y=0 then{A' with cG:=A'.cG.set x (il c K y)}else A',u)
   | (none,A',u)=>(A',u):=by unfold cN;rw[E,zC rfl];simp only[dD];rw[J,z];rfl
  refine EF (a:=1) h M O (.inl rfl) O O (λC σ' e w=>?_) λy C hyn σ' F' H' i e w=>?_
  ·have:=hR σ' F H Fits.refl e;rw[Z,eS,C]at this;generalize dA A sp c.aF 1 (x+1)=g at *;obtain⟨g1,g2,g3⟩:=g;simp only at C;subst C;exact cD rfl (this w)
  ·have B:(dA A sp c.aF 1 (x+1)).2.1.tb=A.tb/\(dA A sp c.aF 1 (x+1)).2.1.cG=A.cG:=by
    unfold dA;split
    ·exact⟨rfl,rfl⟩
    ·split
     ·exact⟨rfl,rfl⟩
     ·rename_i A1 sp1 hga;have:A1.tb=A.tb/\A1.cG=A.cG:=by
       unfold U3 at hga;split at hga
       ·cases hga
       ·cases hga;exact⟨rfl,rfl⟩
      split
      ·exact this
      ·exact this
   have s:=λσ' F' H'=>hR σ' F' H';rw[Z,eS]at s;generalize dA A sp c.aF 1 (x+1)=g at *;obtain⟨g1,A',u⟩:=g;simp only at C w B s;subst C;simp only at s;have hWc:=w;obtain⟨G,Q,⟨ps,hC⟩,_,D⟩:=w.a.tg W (by rw[B.1];exact J) (by rw[B.2];exact z);have hn2:=h.a.lay.n2;refine cE rfl (aG (w.a.hd.rS rfl (w.a.lQ W (ο hC O (λX v e2=>?_) λh0 v ps' e2 L=>?_))))
   ·have:=s v F' H' i (e.fT e2) (by rw[X];exact w.bP e2);rw[X]at this;exact this
   ·have N:=D v _ _ (Grow G σ') _ e2 (λb j=>j) L (HU Q λb j=>j);have P:=w.ox (e2.sub Q) N;have:=s v (Grow F' σ') (Cut H' σ') ⟨λb j=>?_,λb j=>i.2 b j.1⟩ (e.dS (e2.sub Q) λb j=>?_) (by rw[h0];exact P)
    ·rw[h0]at this;exact this
    ·rcases j with j|j
     ·exact i.1 b j
     ·exact .inr (j9 e.1 j)
    ·rcases i.1 b j with h1|h1
     ·exact .inl (.inl h1)
     ·exact .inr h1
theorem Gk (A:AR)(sp:Sp)(m a no:Nat):(dA A sp m a no).2.1.tb=A.tb/\(dA A sp m a no).2.1.cG=A.cG/\(dA A sp m a no).2.1.cO=A.cO/\(dA A sp m a no).2.1.room=A.room/\(dA A sp m a no).2.1.runs=A.runs/\(dA A sp m a no).2.1.n=A.n:=by
 unfold dA;split
 ·exact⟨rfl,rfl,rfl,rfl,rfl,rfl⟩
 ·split
  ·exact⟨rfl,rfl,rfl,rfl,rfl,rfl⟩
  ·rename_i A1 sp1 hga;have:A1.tb=A.tb/\A1.cG=A.cG/\A1.cO=A.cO/\A1.room=A.room/\A1.runs=A.runs/\A1.n=A.n:=by
    unfold U3 at hga;split at hga
    ·cases hga
    ·cases hga;exact⟨rfl,rfl,rfl,rfl,rfl,rfl⟩
   split
   ·exact this
   ·exact this
theorem J9:∀a:Nat,a<17->1<=a->((bits .and .i64 (a:Int) ((a:Int)-1) != 0) = !(a==1||(a==2||(a==4||(a==8||a==16))))):=by decide
theorem M5 (h:W2 U F H Y A T sp)(m a:Int){R:Int->Int->Hp->Prop}(hR:∀σ' F' H',Fits U F H F' H'->Ext (ja F H) U σ'->W2 σ' F' H' Y (cC A sp m a).1 T (cC A sp m a).2->R ((Qh A sp m a:Nat):Int) (QJ A sp m a) σ') :
 Xc.c (aW Y.p) m a U R:=by
 refine Xc.o ?_;unfold Xc.v;have G:Kz m a=false->R 0 1 U:=λu=>by
  have e1:QJ A sp m a=1:=by unfold QJ;rw[u];rfl
  have e2:cC A sp m a=(A,sp):=by unfold cC;rw[u];rfl
  have Z:Qh A sp m a=0:=by unfold Qh;rw[u];rfl
  have:=hR U F H Fits.refl (Ext.refl _ _) (by rw[e2];exact h);rw[e1,Z]at this;exact this
 have d:¬(1<=m/\m<=64/\(a=1\/a=2\/a=4\/a=8\/a=16))->R 0 1 U:=λhn=>G (by
  rw[←qT];intro hp;unfold Kz at hp;simp at hp;omega)
 refine Hl h.a (cE rfl (bV.intro (cQ (λc1=>bV.intro (cD rfl (bV.intro (cD rfl (bV.intro (cD rfl (cD rfl (d O)))))))) λc1=>?_)));refine bV.intro (cQ (λX=>bV.intro (cD rfl (bV.intro (cD rfl (cD rfl (d O)))))) λX=>?_);refine bV.intro (cQ (λc3=>bV.intro (cD rfl (cD rfl (d O)))) λc3=>?_);refine bV.intro (cQ (λc4=>cD rfl (d O)) λc4=>ar O O ?_);obtain⟨y,rfl⟩:=zc (show 0<=m by omega);obtain⟨z,rfl⟩:=zc (show 0<=a by omega);rw[J9 z O O];refine cU (λE=>?_) λE=>?_
 ·refine d (λhh=>?_);simp at E;omega
 ·have hz:z=1\/z=2\/z=4\/z=8\/z=16:=by
   simp at E;omega
  have u:Kz (y:Int) (z:Int)=true:=by
   unfold Kz;simp;omega
  have P:QJ A sp y z=if(dA A sp y z 41).1.isSome then 0 else 6:=by unfold QJ;rw[u,zC rfl];rfl
  have Q:Qh A sp y z=(dA A sp y z 41).1.getD 0:=by unfold Qh;rw[u,zC rfl];rfl
  have S:cC A sp y z=match dA A sp y z 41 with
   | (some x,A',j)=>({A' with runs:=cC.mset2 A'.runs x y},j)
   | (none,A',j)=>(A',j):=by unfold cC;rw[u,zC rfl];rfl
  refine EF (no:=41) h O O hz O O (λw σ' e B=>?_) λx w W σ' F' H' s e B=>?_
  ·have:=hR σ' F H Fits.refl e;rw[P,S,Q,w]at this;generalize dA A sp y z 41=g at *;obtain⟨V,g2,g3⟩:=g;simp only at w;subst w;exact cD rfl (this B)
  ·have r:=λσ' F' H'=>hR σ' F' H';rw[P,S,Q]at r;generalize dA A sp y z 41=g at *;obtain⟨V,A',j⟩:=g;simp only at w B r;subst w;simp only at r;obtain⟨gr,hm,C⟩:=B.a.rX;refine cE rfl (aG (B.a.hd.rM rfl ⟨_,_,rfl,hm,λv N M=>?_⟩));have D:dJ v Y.rn .i64 bO (dB (iN A'.runs) (x:Int) (y:Int)):=M;rw[JM]at D;have J:=C v _ N D;have e2:Ext F' σ' v:=N.ext.sub λb K=>by subst K;exact gr
   have L:=B.l4 e2 J;exact r v F' H' s (e.dS e2 λb K=>by
    rcases s.1 b K with h1|h1
    ·exact .inl (.inl h1)
    ·exact .inr h1) L
end Go.Ar
namespace Go.Proofs
open Go.Vc
set_option maxRecDepth 100000
end Go.Proofs
namespace Go.Ar
open Go Go.Vc Go.Proofs
variable {U:Hp}{Q:Rg}{key:Nat->Nat}
end Go.Ar
namespace Go.Ar
open Go Go.Vc Go.Proofs
variable {U:Hp}{F:Rg}{p q:Nat}{st:List Nat}
end Go.Ar
namespace Go.Ar
open Go Go.Vc Go.Proofs
open Go.Bu (Zt Q0 Zr)
variable {U:Hp}{F H:Rg}{p hs:Nat}{A:AR}{sp:Sp}{Y:Lay}{T:Nat->Hp->Rg->Prop}
theorem dI.cO (h:dI U F Y A (cM A Y)){k q:Nat}{c:cA}{t:gK}(h1:Y.gg[k]?=some q)(h2:A.tb[k]?=some c)(h3:A.cO[k]?=some t):∃G:Rg,(∀b,G b->F b)/\iP U G q c.batch A.room t:=by
 obtain⟨G,d,a,_⟩:=h.sP h1 h2 h3;exact⟨G,d,a⟩
def part {α:Type}(f:cA->α->Nat)(tb:List cA)(l:List α)(i:Nat):Nat:=(((tb.zip l).take i).map λx=>f x.1 x.2).sum
end Go.Ar
namespace Go.Ar
open Go Go.Vc Go.Proofs
variable {U:Hp}
theorem F8:∀(xs:List (Int×Int×Int)),uw xs=true↔∀(i:Nat) a b,xs[i]?=some a->xs[i+1]?=some b->a.1<b.1
 | []=>by simp[uw]
 | [x]=>by simp[uw]
 | x::y::l=>by
  have ih:=F8 (y::l);show(decide (x.1<y.1)&&uw (y::l))=true↔_;rw[zE,ih,zU];constructor
  ·rintro⟨h1,h2⟩ i a b e d;cases i with
   | zero=>simp at e d;subst e;subst d;exact h1
   | succ i=>exact h2 i a b (by simpa using e) (by simpa using d)
  ·intro h;exact⟨h 0 x y rfl rfl,λi a b e d=>h (i+1) a b (by simpa using e) (by simpa using d)⟩
theorem QB (xs:List (Int×Int×Int)):QK xs=true↔1<=xs.length/\xs.length<=40/\(∀(i:Nat) t,xs[i]?=some t->Uz t.1 t.2.1 t.2.2=true)/\∀(i:Nat) a b,xs[i]?=some a->xs[i+1]?=some b->a.1<b.1:=by
 unfold QK;simp only[zE,zU,F8,kf];constructor
 ·rintro⟨h1,h2,h3,h4⟩;exact⟨h1,h2,λi t d=>h3 t (zG d),h4⟩
 ·rintro⟨h1,h2,h3,h4⟩;exact⟨h1,h2,λt d=>by obtain⟨i,e⟩:=zO d;exact h3 i t e,h4⟩
theorem G2 {s:Sl}{xs:List (Int×Int×Int)}(ha:iw U s xs){R:aO}(hR:∀σ',bL U σ'->R (QK xs) σ'):ZO.c s U R:=by
 refine ZO.o ?_;unfold ZO.v;have L:∀σ',bL U σ'->¬(1<=xs.length/\xs.length<=40/\(∀(i:Nat) t,xs[i]?=some t->Uz t.1 t.2.1 t.2.2=true)/\∀(i:Nat) a b,xs[i]?=some a->xs[i+1]?=some b->a.1<b.1)->R false σ':=λσ' e hn=>by
  have:=hR σ' e;have hf:QK xs=false:=by rw[←qT,QB];exact hn
  rw[hf]at this;exact this
 have Y:=ha.1;refine bV.intro (cQ (λc1=>cD rfl (L U (Ext.refl _ _) λh=>O)) λc1=>?_);refine cQ (λc2=>L U (Ext.refl _ _) λh=>O) λc2=>?_;refine Qg (a:=bO) (λ(t:Int) v=>∃i:Nat,t=(i:Int)/\i<=xs.length/\bL U v/\(∀(j:Nat) t,j<i->xs[j]?=some t->Uz t.1 t.2.1 t.2.2=true)/\∀(j:Nat) a b,j+1<i->xs[j]?=some a->xs[j+1]?=some b->a.1<b.1) (λt _=>xs.length-t.toNat)
  ⟨0,rfl,O,Ext.refl _ _,λj t h=>O,λj a b h=>O⟩ ?_
 rintro t v ⟨i,rfl,N,e,Z,h2⟩;have P:=Qb ha e;refine cQ (λhlt=>?_) λhge=>?_
 ·have S:i<xs.length:=by omega
  have A:xs[i]?=some xs[i]:=cX S;generalize xs[i]=r at A;obtain⟨x,y,z⟩:=r;refine Ah P A ?_;refine nw (cs:=[.int .i64 0,.int .i64 0,.int .i64 0]) λv2 hz2 e2 b2=>b2.s1 aA λv3 o3 b3=>b3.s1 aA λv4 o4 b4=>b4.s1 aA λv5 o5 J=>?_;have e5:bL v v5:=Ext.fresh (Ext.fresh (Ext.fresh e2 o3.ext λi N=>O) o4.ext λi N=>O) o5.ext λi N=>by omega
  refine Jn.intro ⟨(· = v5),rfl,⟨x,λm D=>by rw[D,add_lit,J.cell];rfl,⟨y,λm D=>by rw[D,add_lit,J.cell];rfl,⟨z,λm D=>by rw[D,add_lit,J.cell];rfl,?_⟩⟩⟩⟩;refine Fi x y z λv7 W=>?_;have w:=(Ext.trans e e5).trans W;have C:(Uz x y z=false\/∃a,0<i/\xs[i-1]?=some a/\x<=a.1)->R false v7:=λV=>L v7 w λK=>by
   rcases V with V|⟨a,H,hb1,hb2⟩
   ·have:=K.2.2.1 i _ A;simp only at this;rw[V]at this;cases this
   ·have:=K.2.2.2 (i-1) a (x,y,z) hb1 (by rw[show i-1+1=i by omega];exact A);simp only at this;omega
  cases hc:Uz x y z
  ·exact cD rfl (cD rfl (C (.inl hc)))
  ·have next:(∀a,0<i->xs[i-1]?=some a->a.1<x)->Ar .i64 ((i:Int)+1) λg=>(∃i:Nat,g=(i:Int)/\i<=xs.length/\bL U v7/\(∀(j:Nat) t,j<i->xs[j]?=some t->Uz t.1 t.2.1 t.2.2=true)/\∀(j:Nat) a b,j+1<i->xs[j]?=some a->xs[j+1]?=some b->a.1<b.1)/\xs.length-g.toNat<xs.length-(i:Int).toNat:=by
    intro H;refine cS (m:=i+1) O O ⟨⟨i+1,rfl,O,w,λj t hj B=>?_,λj a b hj u d=>?_⟩,O⟩
    ·by_cases hji:j=i
     ·subst hji;rw[A]at B;cases B;exact hc
     ·exact Z j t O B
    ·by_cases hji:j+1=i
     ·subst hji;rw[A]at d;cases d;exact H a O u
     ·exact h2 j a b O u d
   refine cE rfl (cQ (λH=>?_) λH=>cE rfl (next λa j7=>O))
   have p:xs[i-1]?=some (xs[i-1]' O):=cX _;generalize xs[i-1]' O=r at p;obtain⟨Q,y',z'⟩:=r;have E:=Qb ha w;obtain⟨b,o,g1,g2,g3,g4,g5⟩:=E.2 (i-1) Q y' z' p;have X:=W.bW J id;refine cS (m:=i-1) O O ?_;rw[g1];refine ix O O ?_;have G:cell v7 ⟨b,o+(((i-1:Nat):Int)).toNat*3+0,none⟩=some (.int .i64 Q):=by simpa using g3
   have fin:If (decide (x<=Q)) (R false v7) (Ar .i64 ((i:Int)+1) λg=>(∃i:Nat,g=(i:Int)/\i<=xs.length/\bL U v7/\(∀(j:Nat) t,j<i->xs[j]?=some t->Uz t.1 t.2.1 t.2.2=true)/\∀(j:Nat) a b,j+1<i->xs[j]?=some a->xs[j+1]?=some b->a.1<b.1)/\xs.length-g.toNat<xs.length-(i:Int).toNat):=by
    refine cQ (λM=>C (.inr ⟨_,O,p,M⟩)) λhgt=>next λa _ F=>?_
    rw[p]at F;cases F;simp only;omega
   rw[add_lit b o];exact⟨X.rI rfl (eY G fin),eY G (X.rI rfl fin)⟩
 ·have:i=xs.length:=by omega
  subst this;have K:QK xs=true:=(QB xs).2 ⟨O,O,λi t B=>Z i t (cZ.1 B).1 B,λi a b u d=>h2 i a b (cZ.1 d).1 u d⟩;have:=hR v e;rw[K]at this;exact this
end Go.Ar
namespace Go.Ar
open Go Go.Vc Go.Proofs
open Go.Bu (Zt Q0 Zr)
variable {U:Hp}{F H:Rg}{p hs:Nat}{A:AR}{sp:Sp}{Y:Lay}{T:Nat->Hp->Rg->Prop}
open Classical in
theorem _root_.Go.Vc.Sep.put {L:Type}{C C':L->Hp->Rg->Prop}{U:Hp}{F G:Rg}(hC:∀i,dM (C i))(h:Sep C U F)(i:L)(hd:∀b,G b->¬F b)(hj:∀j,j≠i->C' j=C j)(hi:C' i U G)(hL:dM (C' i)):Sep C' U λb=>F b\/G b:=by
 obtain⟨ρ,h⟩:=h;refine⟨λb=>if G b then i else ρ b,λj=>?_⟩
 by_cases hji:j=i
 ·subst hji;exact hL.mono hi λb _ d=>⟨.inr d,zC d⟩
 ·rw[hj j hji];refine(hC j).mono (h j) λb _ a=>⟨.inl a.1,?_⟩;show(if G b then i else ρ b)=j
  rw[zB λe=>hd b e a.1];exact a.2
def gD (A:AR)(Y:Lay)(T:Nat->Hp->Rg->Prop)(cs:List Value):Lb->Hp->Rg->Prop
 | .hd=>iB Y.p cs
 | i=>AC A Y T i
theorem gD.loc {cs:List Value}(hT:∀k,dM (T k)):∀i,dM (gD A Y T cs i)
 | .hd=>iB.loc _ _
 | .dF=>AC.loc (A:=A) (Y:=Y) hT .dF
 | .free=>AC.loc (A:=A) (Y:=Y) hT .free
 | .nW=>AC.loc (A:=A) (Y:=Y) hT .nW
 | .own=>AC.loc (A:=A) (Y:=Y) hT .own
 | .dQ=>AC.loc (A:=A) (Y:=Y) hT .dQ
 | .cP=>AC.loc (A:=A) (Y:=Y) hT .cP
 | .runs=>AC.loc (A:=A) (Y:=Y) hT .runs
 | .cG k=>AC.loc (A:=A) (Y:=Y) hT (.cG k)
 | .cO k=>AC.loc (A:=A) (Y:=Y) hT (.cO k)
theorem ι:gD A Y T (kN Y)=AC A Y T:=by
 funext i;cases i<;>rfl
theorem EI {cs:List Value}(hT:∀k,dM (T k))(h:Sep (gD A Y T cs) U F)(hlen:A.cG.length<=Y.fH.length)(hl:Y.fH.length<=40){vb cp ty:Nat}(hb:bZ U vb [.pointer (some ⟨cp,0,none⟩)])(hvb:¬F vb){K:Sl->Hp->Prop}
 (hK:∀s' σ',Ext F U σ'->Sep (gD A {Y with dQ:=s',fH:=Y.fH++[cp]} T cs) σ' (Grow F U)->K s' σ'):App Y.dQ 1 8 ty [.pointer none] ⟨some ⟨vb,0,none⟩,1,1⟩ U K:=by
 obtain⟨G,g,d,_,a⟩:=h.jM (gD.loc hT) .dQ;have d:bS Y.dQ 1 (fJ Y.fH) U G:=d;have m:Y.dQ.len=Y.fH.length:=by have:=d.1;simp[fJ]at this;omega
 refine d.app (ys:=[.pointer (some ⟨cp,0,none⟩)]) rfl rfl ?_ (by simp[dR]) aC aC ng λs' σ' r e p=>hK s' σ' (e.sub g) ?_
 ·intro j u hu;rw[add_lit,zH,hb.cell];exact hu
 refine(Sep.loc (gD.loc hT)).mono (a σ' (gD A {Y with dQ:=s',fH:=Y.fH++[cp]} T cs) (Grow G U) (λj i=>?_) e (λb hb=>hb) ?_ (gD.loc hT _)) λb _ hb=>HU g (λb hb=>hb) b hb
 ·cases j<;>first|rfl|exact absurd rfl i|skip
  rename_i k;show jV (Y.fH++[cp])[k]? A.tb[k]? A.cG[k]?=jV Y.fH[k]? A.tb[k]? A.cG[k]?;rcases kb k Y.fH.length with h1|h1
  ·rw[zd h1]
  ·have:A.cG[k]?=none:=zW O;rw[this]
   funext U F
   unfold jV;cases(Y.fH++[cp])[k]?<;>cases Y.fH[k]?<;>cases A.tb[k]?<;>rfl
 ·show bS s' 1 (fJ (Y.fH++[cp])) σ' (Grow G U);have:fJ (Y.fH++[cp])=fJ Y.fH++[.pointer (some ⟨cp,0,none⟩)]:=by simp[fJ]
  rw[this];exact p
theorem Sk (hlen:A.cO.length<=Y.gg.length)(tp:Nat)(s':Sl):cM A {Y with cP:=s',gg:=Y.gg++[tp]}=cM A Y:=by
 funext k
 unfold cM;simp only;rcases kb k Y.gg.length with h1|h1
 ·rw[zd h1]
 ·have:A.cO[k]?=none:=zW O;rw[this]
  funext U F
  unfold kU;cases(Y.gg++[tp])[k]?<;>cases Y.gg[k]?<;>cases A.tb[k]?<;>rfl
theorem FM {cs:List Value}(h:Sep (gD A Y (cM A Y) cs) U F)(hlen:A.cO.length<=Y.gg.length)(hl:Y.gg.length<=40){vb tp ty:Nat}(hb:bZ U vb [.pointer (some ⟨tp,0,none⟩)])(hvb:¬F vb){K:Sl->Hp->Prop}
 (hK:∀s' σ',Ext F U σ'->Sep (gD A {Y with cP:=s',gg:=Y.gg++[tp]} (cM A {Y with cP:=s',gg:=Y.gg++[tp]}) cs) σ' (Grow F U)->K s' σ'):App Y.cP 1 8 ty [.pointer none] ⟨some ⟨vb,0,none⟩,1,1⟩ U K:=by
 have g:∀k,dM (cM A Y k):=λk=>cM.loc k;obtain⟨G,i,d,_,a⟩:=h.jM (gD.loc g) .cP;have d:bS Y.cP 1 (fJ Y.gg) U G:=d;have m:Y.cP.len=Y.gg.length:=by have:=d.1;simp[fJ]at this;omega
 refine d.app (ys:=[.pointer (some ⟨tp,0,none⟩)]) rfl rfl ?_ (by simp[dR]) aC aC ng λs' σ' r e p=>hK s' σ' (e.sub i) ?_
 ·intro j u hu;rw[add_lit,zH,hb.cell];exact hu
 rw[Sk hlen];refine(Sep.loc (gD.loc g)).mono (a σ' (gD A {Y with cP:=s',gg:=Y.gg++[tp]} (cM A Y) cs) (Grow G U) (λj s=>?_) e (λb hb=>hb) ?_ (gD.loc g _)) λb _ hb=>HU i (λb hb=>hb) b hb
 ·cases j<;>first|rfl|exact absurd rfl s
 ·show bS s' 1 (fJ (Y.gg++[tp])) σ' (Grow G U);have:fJ (Y.gg++[tp])=fJ Y.gg++[.pointer (some ⟨tp,0,none⟩)]:=by simp[fJ]
  rw[this];exact p
theorem DM {cs:List Value}(hT:∀k,dM (T k))(h:Sep (gD A Y T cs) U F){i:Nat}{v:Value}(hi:i<cs.length){K:aP}(hK:∀σ',Ext F U σ'->Sep (gD A Y T (cs.set i v)) σ' F->K σ'):dU (Addr.add ⟨Y.p,0,none⟩ i) v U K:=by
 obtain⟨G,g,d,_,e⟩:=h.jM (gD.loc hT) .hd;have d:iB Y.p cs U G:=d;refine d.2.s1 O λσ' o b=>hK σ' (o.ext.sub λb a=>by subst a;exact g _ d.1) ?_;rw[zH]at b;refine(Sep.loc (gD.loc hT)).mono (e σ' (gD A Y T (cs.set i v)) G (λj m=>?_) (o.ext.sub λb a=>by subst a;exact d.1) (λb a=>.inl a) ⟨d.1,b⟩ (gD.loc hT _)) λb _ a=>zx g (λb a=>a) b a;cases j<;>first|rfl|exact absurd rfl m
theorem mu {cs:List Value}(h:Sep (gD A Y T cs) U F):bZ U Y.p cs/\F Y.p:=by
 obtain⟨G,d,b,a⟩:=h.get .hd;exact⟨a,d _ b⟩
theorem R7 {cs:List Value}{i cp tp:Nat}{c:cA}{ss:List cH}{t:gK}{ps:List (Nat×Nat)}{Gc Gt:Rg}(h:Sep (gD A Y (cM A Y) cs) U F)(hlc:A.cG.length=i)(hlt:A.cO.length=i)(hcp:Y.fH[i]?=some cp)(htp:Y.gg[i]?=some tp)(hc:A.tb[i]?=some c)
 (hC:fD U Gc cp c ps ss) (hTf:iP U Gt tp c.batch A.room t) (d1:∀b,Gc b->¬F b) (d2:∀b,Gt b->¬F b) (d3:∀b,Gc b->¬Gt b) :
 Sep (gD {A with cG:=A.cG++[ss],cO:=A.cO++[t]} Y (cM {A with cG:=A.cG++[ss],cO:=A.cO++[t]} Y) cs) U λb=>(F b\/Gc b)\/Gt b:=by
 have m:∀k,dM (cM A Y k):=λk=>cM.loc k;have u:Sep (gD {A with cG:=A.cG++[ss]} Y (cM A Y) cs) U λb=>F b\/Gc b:=by
  refine h.put (gD.loc m) (.cG i) d1 (λj g=>?_) ?_ (gD.loc m _)
  ·cases j<;>first|rfl|skip
   rename_i k;have p:k≠i:=λe=>g (by rw[e]);show jV Y.fH[k]? A.tb[k]? (A.cG++[ss])[k]?=jV Y.fH[k]? A.tb[k]? A.cG[k]?;rcases kb k i with h2|h2
   ·rw[zd O]
   ·have r:(A.cG++[ss])[k]?=none:=zW (by rw[zM,uU];omega);have d:A.cG[k]?=none:=zW O;rw[r,d]
  ·show jV Y.fH[i]? A.tb[i]? (A.cG++[ss])[i]? U Gc;rw[hcp,hc,zm O,hlc,oU];exact⟨ps,hC⟩
 refine u.put (gD.loc m) (.cO i) (λb s a=>?_) (λj g=>?_) ?_ (gD.loc (λk=>cM.loc k) _)
 ·rcases a with a|a
  ·exact d2 b s a
  ·exact d3 b a s
 ·cases j<;>first|rfl|skip
  rename_i k;have p:k≠i:=λe=>g (by rw[e]);show kU Y.gg[k]? A.tb[k]? A.room (A.cO++[t])[k]?=kU Y.gg[k]? A.tb[k]? A.room A.cO[k]?;rcases kb k i with h2|h2
  ·rw[zd O]
  ·have r:(A.cO++[t])[k]?=none:=zW (by rw[zM,uU];omega);have d:A.cO[k]?=none:=zW O;rw[r,d]
 ·show kU Y.gg[i]? A.tb[i]? A.room (A.cO++[t])[i]? U Gt;rw[htp,hc,zm O,hlt,oU];exact hTf
open Classical in
noncomputable def jz {L:Type}(C:L->Hp->Rg->Prop)(S:L->Prop)(i:L):Hp->Rg->Prop:=if S i then C i else yE
theorem jz.loc {L:Type}{C:L->Hp->Rg->Prop}{S:L->Prop}(hC:∀i,dM (C i))(i:L):dM (jz C S i):=by
 unfold jz;split
 ·exact hC i
 ·exact yE.loc
theorem jz.put {L:Type}{C:L->Hp->Rg->Prop}{S:L->Prop}{F G:Rg}(hC:∀i,dM (C i))(h:Sep (jz C S) U F)(i:L)(hd:∀b,G b->¬F b)(hi:C i U G):Sep (jz C λj=>S j\/j=i) U λb=>F b\/G b:=by
 refine h.put (jz.loc hC) i hd (λj a=>?_) ?_ (jz.loc hC i)
 ·unfold jz;by_cases hS:S j
  ·rw[zC (.inl hS),zC hS]
  ·rw[zB (λh=>hS (h.resolve_right a)),zB hS]
 ·unfold jz;rw[zC (.inr rfl)];exact hi
theorem jz.all {L:Type}{C:L->Hp->Rg->Prop}{S:L->Prop}{F:Rg}(h:Sep (jz C S) U F)(hS:∀i,S i):Sep C U F:=by
 have:jz C S=C:=by
  funext i;unfold jz;rw[zC (hS i)]
 rw[this]at h;exact h
theorem jz.one {L:Type}{C:L->Hp->Rg->Prop}(S:L->Prop)(l:L)(h:∀i,S i->C i U λ_=>False):Sep (jz C S) U λ_=>False:=by
 refine⟨λ_=>l,λi=>?_⟩;have:(λ(b:Nat)=>False/\l=i)=λ_=>False:=by funext b;simp
 rw[this];unfold jz;by_cases hS:S i
 ·rw[zC hS];exact h i hS
 ·rw[zB hS];trivial
theorem JT {tb:List cA}:∀v∈gF tb,dR v=true:=by
 intro v hv;simp only[gF,List.mem_flatMap]at hv;obtain⟨c,_,a⟩:=hv;simp at a;rcases a with rfl|rfl|rfl<;>rfl
theorem Hx {s:Sl}{xs:List (Int×Int×Int)}(ha:iw U s xs)(hv:QK xs=true){i:Nat}{c:cA}(hc:(xs.map Qo)[i]?=some c):xs[i]?=some ((c.size:Int),(c.aF:Int),(c.batch:Int))/\c.ok:=by
 rw[za,nR]at hc;obtain⟨⟨x,y,z⟩,g,rfl⟩:=hc;obtain⟨c,a,j,b,d,e⟩:=G4 (((QB xs).1 hv).2.2.1 i _ g);simp only at b d e;rw[j,g,b,d,e];exact⟨rfl,a⟩
theorem Uh {s:Sl}{xs:List (Int×Int×Int)}(ha:iw U s xs)(hv:QK xs=true){R:Sl->Hp->Prop}(hR:∀s' σ',bL U σ'->cV s' 3 (gF (xs.map Qo)) σ' (λb=>U.size<=b)->R s' σ'):Wp.c s U R:=by
 refine Wp.o ?_;unfold Wp.v;have C:=(QB xs).1 hv;have z:=ha.1;have w:0<(xs.map Qo).length:=by rw[zk];omega
 have H:(xs.map Qo)[0]?=some (xs.map Qo)[0]:=cX w;obtain⟨L,d,a,_⟩:=ha.2 0 _ _ _ (Hx ha hv H).1;refine cE (by rw[a];rfl) (nw (cs:=[]) λv K e1 B=>?_);have r:=Qb ha e1;refine(bS.nil v (λb=>U.size<=b) 3 (some ⟨U.size,0,none⟩)).app (ys:=gF (xs.map Qo)) rfl (by rw[Up,zk];omega) ?_ JT aC aC O λs' A G E g=>hR s' A (Ext.fresh e1 E λi p=>p) ?_
 ·rw[a];intro j u hu;have x:=(cZ.1 hu).1;rw[Up,zk]at x;have p:j/3<(xs.map Qo).length:=by rw[zk];omega
  have m:(xs.map Qo)[j/3]?=some (xs.map Qo)[j/3]:=cX p;generalize (xs.map Qo)[j/3]=c at m;have e:=GY m;obtain⟨b,o,y,_,J,D,F⟩:=r.2 (j/3) _ _ _ (Hx ha hv m).1;rw[a]at y;cases y;rw[add_lit];rcases(by omega:j=3*(j/3)\/j=3*(j/3)+1\/j=3*(j/3)+2)with hj|hj|hj
  ·rw[hj]at hu;rw[e.1]at hu;cases hu;rw[show d+j=d+j/3*3 by omega];exact J
  ·rw[hj]at hu;rw[e.2.1]at hu;cases hu;rw[show d+j=d+j/3*3+1 by omega];exact D
  ·rw[hj]at hu;rw[e.2.2]at hu;cases hu;rw[show d+j=d+j/3*3+2 by omega];exact F
 ·rw[sH]at g;refine aH.mono g.fX λb _ e=>?_;rcases e with h|h
  ·exact h
  ·omega
def fB (n room:Nat)(tb:List cA):AR:={n:=n,room:=room,tb:=tb,S:=Go.Bu.iv,st:=List.replicate n 0,ow:=λ_=>0,cG:=List.replicate tb.length [],cO:=List.replicate tb.length ⟨0,[]⟩,runs:=[]}
def jk (n room:Nat)(tb:List cA)(i:Nat):AR:={fB n room tb with cG:=List.replicate i [],cO:=List.replicate i ⟨0,[]⟩}
def kW (xs:List (Int×Int×Int))(n:Nat)(room:Int):Int:=if QK xs then(if 32<=n/\n%16=0/\0<=room/\room<=8 then 0 else 1)else 2
def S0:Lb->Prop
 | .dQ | .cP | .cG _ | .cO _=>True
 | _=>False
theorem F6 {i cp tp:Nat}{c:cA}{ss:List cH}{t:gK}{ps:List (Nat×Nat)}{Gc Gt:Rg}{dQ cP:Sl}(hpos:Y.fH.length=i/\Y.gg.length=i)
 (h:Sep (gD A {Y with dQ:=dQ,cP:=cP,fH:=Y.fH++[cp],gg:=Y.gg++[tp]} (cM A {Y with dQ:=dQ,cP:=cP,fH:=Y.fH++[cp],gg:=Y.gg++[tp]}) (kN Y)) U F)
 (hlc:A.cG.length=i) (hlt:A.cO.length=i) (hc:A.tb[i]?=some c) (hC:fD U Gc cp c ps ss) (hTf:iP U Gt tp c.batch A.room t) (d1:∀b,Gc b->¬F b) (d2:∀b,Gt b->¬F b) (d3:∀b,Gc b->¬Gt b) {K:aP}
 (hK:∀σ' Y',Ext F U σ'->Y'.p=Y.p->Y'.hs=Y.hs->Y'.fH.length=i+1->Y'.gg.length=i+1->Sep (gD {A with cG:=A.cG++[ss],cO:=A.cO++[t]} Y' (cM {A with cG:=A.cG++[ss],cO:=A.cO++[t]} Y') (kN Y')) σ' (λb=>(F b\/Gc b)\/Gt b)->K σ') :
 bX (some ⟨Y.p,0,none⟩) λa93=>dU (a93.add 5) (.slice dQ.a dQ.len dQ.cap) U λv25=>bX (some ⟨Y.p,0,none⟩) λa95=>dU (a95.add 6) (.slice cP.a cP.len cP.cap) v25 K:=by
 have m:∀k,dM (cM A {Y with dQ:=dQ,cP:=cP,fH:=Y.fH++[cp],gg:=Y.gg++[tp]} k):=λk=>cM.loc k;refine aG (DM (Y:={Y with dQ:=dQ,cP:=cP,fH:=Y.fH++[cp],gg:=Y.gg++[tp]}) m h (i:=5) (by simp[kN]) λx e1 w=>aG (DM (Y:={Y with dQ:=dQ,cP:=cP,fH:=Y.fH++[cp],gg:=Y.gg++[tp]}) m w (i:=6) (by simp[kN]) λr e2 s=>?_));have g:=(fD.loc (c:=c) (ps:=ps) (ss:=ss) (p:=cp)).bT ((fD.loc (c:=c) (ps:=ps) (ss:=ss) (p:=cp)).bT hC e1 λb _ e d=>d1 b e d) e2 λb _ e d=>d1 b e d;have j:=(iP.loc (p:=tp) (batch:=c.batch) (room:=A.room) (t:=t)).bT ((iP.loc (p:=tp) (batch:=c.batch) (room:=A.room) (t:=t)).bT hTf e1 λb _ e d=>d2 b e d) e2 λb _ e d=>d2 b e d;have u:=R7 (cp:=cp) (tp:=tp) s hlc hlt (by simp only;rw[zm O,hpos.1,oU];rfl) (by simp only;rw[zm O,hpos.2,oU];rfl) hc g j d1 d2 d3;exact hK r {Y with dQ:=dQ,cP:=cP,fH:=Y.fH++[cp],gg:=Y.gg++[tp]} (e1.trans e2) rfl rfl (by simp[hpos.1]) (by simp[hpos.2]) u
theorem qE {cs:List Value}{σ':Hp}(hT:∀k,dM (T k))(h:Sep (gD A Y T cs) U F)(e:bL U σ'):Sep (gD A Y T cs) σ' F:=(Sep.loc (gD.loc hT)).bP h e
theorem Du {cs:List Value}(hT:∀k,dM (T k))(h:Sep (gD A Y T cs) U F):Sep (gD A Y T cs) U (Cut F U):=(Sep.loc (gD.loc hT)).cut h
theorem RJ (n room:Nat)(tb:List cA)(i:Nat):({jk n room tb i with cG:=(jk n room tb i).cG++[[]],cO:=(jk n room tb i).cO++[⟨0,[]⟩]}:AR)=jk n room tb (i+1):=by
 unfold jk;simp only[←Cj]
theorem R4 (n room:Nat)(tb:List cA):jk n room tb tb.length=fB n room tb:=rfl
theorem O5 {i cp tp:Nat}{c:cA}{ss:List cH}{t:gK}{ps:List (Nat×Nat)}{Gc Gt:Rg}{z:Nat}(hF:∀b,F b->z<=b/\b<U.size)(hpos:Y.fH.length=i/\Y.gg.length=i)(hi:i<40)
 (h:Sep (gD A Y (cM A Y) (kN Y)) U F) (hlc:A.cG.length=i) (hlt:A.cO.length=i) (hc:A.tb[i]?=some c) (hC:fD U Gc cp c ps ss) (hTf:iP U Gt tp c.batch A.room t) (d1:∀b,Gc b->¬F b/\z<=b/\b<U.size) (d2:∀b,Gt b->¬F b/\z<=b/\b<U.size) (d3:∀b,Gc b->¬Gt b) {J4:aP}
 (hK:∀σ' Y',Ext F U σ'->Y'.p=Y.p->Y'.hs=Y.hs->Y'.fH.length=i+1->Y'.gg.length=i+1->Sep (gD {A with cG:=A.cG++[ss],cO:=A.cO++[t]} Y' (cM {A with cG:=A.cG++[ss],cO:=A.cO++[t]} Y') (kN Y')) σ' (λb=>z<=b)->J4 σ') :
 dZ U λS=>bX (some ⟨Y.p,0,none⟩) λa80=>gE S .s (a80.add 5) λ(t82:Sl)=>bX (some ⟨Y.p,0,none⟩) λa87=>gE S .s (a87.add 6) λ(t89:Sl)=>
  (Nw (.cells #[.pointer (some ⟨cp,0,none⟩)] 202 (0,0)) U λn84 v21=>And (S v21) <|
   (App t82 1 8 202 [.pointer none] ⟨some n84,1,1⟩ v21 λt85 v22=>And (S v22)<|Nw (.cells #[.pointer (some ⟨tp,0,none⟩)] 204 (0,0)) v22 λn91 v23=>And (S v23)<|App t89 1 8 204 [.pointer none] ⟨some n91,1,1⟩ v23 λt92 v24=>And (S v24) <|
   bX (some ⟨Y.p,0,none⟩) λa93=>dU (a93.add 5) (.slice t85.a t85.len t85.cap) v24 λv25=>bX (some ⟨Y.p,0,none⟩) λa95=>dU (a95.add 6) (.slice t92.a t92.len t92.cap) v25 λv26=>J4 v26) ∧
   (Nw (.cells #[.pointer (some ⟨tp,0,none⟩)] 204 (0,0)) v21 λn911 v27=>And (S v27)<|App t82 1 8 202 [.pointer none] ⟨some n84,1,1⟩ v27 λt851 v28=>And (S v28)<|App t89 1 8 204 [.pointer none] ⟨some n911,1,1⟩ v28 λt921 v29=>And (S v29) <|
   bX (some ⟨Y.p,0,none⟩) λa931=>dU (a931.add 5) (.slice t851.a t851.len t851.cap) v29 λv30=>bX (some ⟨Y.p,0,none⟩) λa951=>dU (a951.add 6) (.slice t921.a t921.len t921.cap) v30 λv31=>J4 v31)) ∧
  (Nw (.cells #[.pointer (some ⟨tp,0,none⟩)] 204 (0,0)) U λn912 v32=>And (S v32)<|Nw (.cells #[.pointer (some ⟨cp,0,none⟩)] 202 (0,0)) v32 λn841 v33=>And (S v33) <|
  App t82 1 8 202 [.pointer none] ⟨some n841,1,1⟩ v33 λt852 v34=>And (S v34)<|App t89 1 8 204 [.pointer none] ⟨some n912,1,1⟩ v34 λt922 v35=>And (S v35) <|
  bX (some ⟨Y.p,0,none⟩) λa932=>dU (a932.add 5) (.slice t852.a t852.len t852.cap) v35 λv36=>bX (some ⟨Y.p,0,none⟩) λa952=>dU (a952.add 6) (.slice t922.a t922.len t922.cap) v36 λv37=>J4 v37):=by
 have E:∀k,dM (cM A Y k):=λk=>cM.loc k;have N:=fD.loc (c:=c) (ps:=ps) (ss:=ss) (p:=cp);have L:=iP.loc (p:=tp) (batch:=c.batch) (room:=A.room) (t:=t);refine⟨λm=>bZ m Y.p (kN Y),(mu h).1,aG ⟨Y.dQ,λm hm=>by rw[add_lit,hm.cell];rfl,aG ⟨Y.cP,λm hm=>by rw[add_lit,hm.cell];rfl,?_⟩⟩⟩;have D:∀(w:Hp) (F1:Rg) (b1 b2:Nat),bL U w->(∀b,F1 b->F b)->Sep (gD A Y (cM A Y) (kN Y)) w F1->bZ w b1 [.pointer (some ⟨cp,0,none⟩)]->bZ w b2 [.pointer (some ⟨tp,0,none⟩)]->U.size<=b1->U.size<=b2 →
  App Y.dQ 1 8 202 [.pointer none] ⟨some ⟨b1,0,none⟩,1,1⟩ w λt85 v28=>And (bZ v28 Y.p (kN Y))<|App Y.cP 1 8 204 [.pointer none] ⟨some ⟨b2,0,none⟩,1,1⟩ v28 λt92 v29=>And (bZ v29 Y.p (kN Y)) <|
   bX (some ⟨Y.p,0,none⟩) λa93=>dU (a93.add 5) (.slice t85.a t85.len t85.cap) v29 λv30=>bX (some ⟨Y.p,0,none⟩) λa95=>dU (a95.add 6) (.slice t92.a t92.len t92.cap) v30 λv31=>J4 v31:=by
  intro w F1 b1 b2 ew hF1 hw hb1 hb2 hz1 hz2;have B:∀b,F1 b->z<=b/\b<U.size:=λb d=>hF b (hF1 b d);have hsw:=ew.1;refine EI E hw O O hb1 (λg=>by have:=B _ g;omega) λs1 v28 H ab=>?_;have X:=(mu ab).1;have aa:Sep (gD A {Y with dQ:=s1,fH:=Y.fH++[cp]} (cM A {Y with dQ:=s1,fH:=Y.fH++[cp]}) (kN Y)) v28 (Grow F1 w):=ab;refine⟨X,?_⟩;have c28:Sep (gD A {Y with dQ:=s1,fH:=Y.fH++[cp]} (cM A {Y with dQ:=s1,fH:=Y.fH++[cp]}) (kN Y)) v28 (λb=>F1 b\/w.size<=b):=aa;have R:=H.bW hb2 λg=>by have:=B _ g;omega
  have hb2lt:=hb2.lt;refine FM c28 aC aC R (λg=>by
   rcases g with g|g
   ·have:=B _ g;omega
   ·omega) λs2 v29 e29 P=>?_
  refine⟨(mu P).1,?_⟩;have J:∀b,(F1 b\/w.size<=b)->F b\/U.size<=b:=λb d=>by
   rcases d with d|d
   ·exact .inl (hF1 b d)
   ·exact .inr O
  have j:Ext F U v29:=((bL.to ew).trans (H.sub hF1)).dS e29 J;have Q:=N.bT hC j λb _ d g=>(d1 b d).1 g;have af:=L.bT hTf j λb _ d g=>(d2 b d).1 g;have hs28:=H.1;refine F6 (F:=Grow (λb=>F1 b\/w.size<=b) v28) hpos P hlc hlt hc Q af (λb d g=>?_) (λb d g=>?_) d3 λw2 Y' e2 p1 p2 p3 p4 h2=>?_
  ·have:=d1 b d;rcases g with(g|g)|g
   ·exact this.1 (hF1 b g)
   ·omega
   ·omega
  ·have:=d2 b d;rcases g with(g|g)|g
   ·exact this.1 (hF1 b g)
   ·omega
   ·omega
  ·refine hK w2 Y' (j.dS e2 λb d=>?_) p1 p2 p3 p4 ((Sep.loc (gD.loc (λk=>cM.loc k))).mono h2 λb _ d=>?_)
   ·rcases d with(d|d)|d
    ·exact .inl (hF1 b d)
    ·exact .inr O
    ·exact .inr O
   ·have hz0:z<=U.size:=by have:=(d1 _ hC.fp);omega
    rcases d with(((d|d)|d)|d)|d
    ·exact(B b d).1
    ·omega
    ·omega
    ·exact(d1 b d).2.1
    ·exact(d2 b d).2.1
 have S0:∀{w:Hp},bL U w->bZ w Y.p (kN Y):=λe=>e.bW (mu h).1 id;refine⟨nw (cs:=[.pointer (some ⟨cp,0,none⟩)]) λv21 z21 u ae=>⟨S0 u,?_,?_⟩,nw (cs:=[.pointer (some ⟨tp,0,none⟩)]) λv32 z32 C b32=>⟨S0 C,nw (cs:=[.pointer (some ⟨cp,0,none⟩)]) λv33 z33 x b33=>⟨S0 (Ext.trans C x),?_⟩⟩⟩
 ·-- row,box,row
  have h21:=qE E h u;refine EI E h21 O O ae (λg=>by have:=hF _ g;omega) λs1 v22 W V=>⟨(mu V).1,?_⟩;have K:Sep (gD A {Y with dQ:=s1,fH:=Y.fH++[cp]} (cM A {Y with dQ:=s1,fH:=Y.fH++[cp]}) (kN Y)) v22 (Grow F v21):=V;have c22:=Du (λk=>cM.loc k) K;refine nw (cs:=[.pointer (some ⟨tp,0,none⟩)]) λv23 z23 G b23=>?_;have Z:=qE (λk=>cM.loc k) c22 G;refine⟨(mu Z).1,FM Z aC aC b23 (λg=>by have:=g.2;omega) λs2 v24 e24 ad=>⟨(mu ad).1,?_⟩⟩;have hs22:=W.1;have hs23:=G.1;have r:∀b,Cut (Grow F v21) v22 b->F b\/U.size<=b:=λb d=>by
   rcases d.1 with h|h
   ·exact .inl h
   ·exact .inr O
  have j:Ext F U v24:=((((bL.to u).trans W).fT G)).dS e24 r;have M:=N.bT hC j λb _ d g=>(d1 b d).1 g;have ac:=L.bT hTf j λb _ d g=>(d2 b d).1 g;refine F6 (F:=Grow (Cut (Grow F v21) v22) v23) hpos ad hlc hlt hc M ac (λb d g=>?_) (λb d g=>?_) d3 λw2 Y' e2 p1 p2 p3 p4 h2=>?_
  ·have:=d1 b d;rcases g with g|g
   ·rcases g.1 with g|g
    ·exact this.1 g
    ·omega
   ·omega
  ·have:=d2 b d;rcases g with g|g
   ·rcases g.1 with g|g
    ·exact this.1 g
    ·omega
   ·omega
  ·refine hK w2 Y' (j.dS e2 λb d=>?_) p1 p2 p3 p4 ((Sep.loc (gD.loc (λk=>cM.loc k))).mono h2 λb _ d=>?_)
   ·rcases d with d|d
    ·exact r b d
    ·exact .inr O
   ·have hz0:z<=U.size:=by have:=(d1 _ hC.fp);omega
    rcases d with((d|d)|d)|d
    ·rcases r b d with h|h
     ·exact(hF b h).1
     ·omega
    ·omega
    ·exact(d1 b d).2.1
    ·exact(d2 b d).2.1
 ·-- box,row,row
  refine nw (cs:=[.pointer (some ⟨tp,0,none⟩)]) λv27 z27 y b27=>⟨S0 (Ext.trans u y),?_⟩;exact D v27 F U.size v21.size (Ext.trans u y) (λb d=>d) (qE E (qE E h u) y) (y.bW ae id) b27 (zD _) O
 ·exact D v33 F v32.size U.size (Ext.trans C x) (λb d=>d) (qE E (qE E h C) x) b33 (x.bW b32 id) O (zD _)
theorem yw {P:Hp->Rg->Prop}(hl:dM P){a:Nat}(h:P U λb=>a<=b):P U λb=>a<=b/\b<U.size:=hl.mono h λb d e=>⟨e,d⟩
theorem TK {n room:Nat}{tb:List cA}(h1:32<=n)(h2:n<=1024)(h3:n%16=0)(h4:room<=8)(h5:1<=tb.length)(h6:tb.length<=40)(h7:∀c∈tb,c.ok)(hc:Y.fH.length=tb.length)(ht:Y.gg.length=tb.length):eV (fB n room tb) Y:=
 ⟨hc,ht,by simp[fB],by simp[fB],h5,h6,h1,h2,h3,by simp[fB],h4,h7⟩
theorem Oa {s:Sl}{xs:List (Int×Int×Int)}(ha:iw U s xs)(hS:dN U H hs sp)(room:Int){R:Option Addr->Int->Hp->Prop}
 (h0:kW xs sp.st.length room≠0->∀σ',bL U σ'->R none (kW xs sp.st.length room) σ')
 (h1:kW xs sp.st.length room=0->∀σ' Y,bL U σ'->Y.hs=hs->dI σ' (λb=>U.size<=b) Y (fB sp.st.length room.toNat (xs.map Qo)) (cM (fB sp.st.length room.toNat (xs.map Qo)) Y)->R (some ⟨Y.p,0,none⟩) 0 σ') :
 Kj.c s (some ⟨hs,0,none⟩) room U R:=by
 refine Kj.o ?_;unfold Kj.v;have hn2:sp.st.length<=1024:=by obtain⟨q,r,l,B,h⟩:=hS;exact h.n2
 refine G2 ha λv e=>?_;cases hv:QK xs
 ·have e1:kW xs sp.st.length room=2:=by unfold kW;rw[hv];rfl
  have:=h0 (by rw[e1];decide) v e;rw[e1]at this;exact cD rfl this
 have eE:kW xs sp.st.length room=if 32<=sp.st.length/\sp.st.length%16=0/\0<=room/\room<=8 then 0 else 1:=by unfold kW;rw[hv,zC rfl]
 refine cE rfl (D6 (hS.bP e) ?_);have E:¬(32<=sp.st.length/\sp.st.length%16=0/\0<=room/\room<=8)->R none 1 v:=λhn=>by
  rw[zB hn]at eE;have:=h0 (by rw[eE];decide) v e;rw[eE]at this;exact this
 have tm:(((sp.st.length:Nat):Int).tmod 16)=((sp.st.length%16:Nat):Int):=by rw[Kg O];simp
 refine bV.intro (cQ (λc1=>bV.intro (cD rfl (bV.intro (cD rfl (cD rfl (E O)))))) λc1=>nz aB ?_);rw[tm,R9];refine bV.intro (cU (λc2=>bV.intro (cD rfl (cD rfl (E (λh=>by have:=h.2.1;simp[this]at c2))))) λc2=>?_);have ac:sp.st.length%16=0:=by simpa using c2
 refine bV.intro (cQ (λc3=>cD rfl (E O)) λc3=>cQ (λc4=>E O) λc4=>?_);obtain⟨W,rfl⟩:=zc (show 0<=room by omega);rw[zC O]at eE;have h1:=h1 eE;simp only[dD]at h1;have hva:=(QB xs).1 hv;have Q:=Qb ha e;have hn1:32<=sp.st.length:=by omega
 generalize sp.st.length=n at *;have hlen:s.len=(xs.map Qo).length:=by rw[zk];exact ha.1
 have hcl:∀{σ':Hp} {i:Nat} {c:cA},iw σ' s xs->(xs.map Qo)[i]?=some c->xs[i]?=some ((c.size:Int),(c.aF:Int),(c.batch:Int))/\c.ok:=λh K=>Hx h hv K;have J:1<=(xs.map Qo).length/\(xs.map Qo).length<=40:=by rw[zk];omega
 refine Uh Q hv λdF v5 e5 htab=>OA λV op e6 hop hP=>ud λA z7 e7 hm=>?_;generalize htbd:xs.map Qo=tb at *;refine nw (cs:=[.slice dF.a dF.len dF.cap,.pointer (some ⟨hs,0,none⟩),.pointer none,.pointer none,.pointer (some ⟨op,0,none⟩),.slice none 0 0,.slice none 0 0,.map (some V.size)]) λv8 z8 e8 b8=>?_;refine Go.Bu.tC _ (λg=>absurd ⟨O,O⟩ g) λn' hn' _ _ v9 sb ms e9 hB hfp=>?_;have hnn:n=n':=by omega
 subst hnn;have b9:=e9.bW b8 id;refine aG (b9.s1 aA λaa fZ b10=>SA O O ac λM tp tq P htp htq hTk=>aG ((P.bW b10 id).s1 aA λv12 S b12=>?_));have s5:=e5.1;have s6:=e6.1;have s9:=e9.1;have s10:=fZ.1;have s11:=P.1;have s12:=S.1;have hb8:=b8.lt;have x9:Ext (· = A.size) v9 v12:=(fZ.ext.trans (bL.to P)).trans S.ext;have x5:Ext (· = A.size) v5 v12:=(bL.to (Ext.trans (Ext.trans (Ext.trans e6 e7) e8) e9)).trans x9;have x6:Ext (· = A.size) V v12:=(bL.to (Ext.trans (Ext.trans e7 e8) e9)).trans x9;have x7:Ext (· = A.size) A v12:=(bL.to (Ext.trans e8 e9)).trans x9;have x11:Ext (· = A.size) M v12:=S.ext;have p1:=aH.bT (yw aH htab) x5 λb _ g d=>by omega
 have p2:=(je.loc (p:=op) (ow:=λ_=>0)).bT (yw je.loc hP) x6 λb _ g d=>by omega
 have p3:dJ v12 V.size .i64 bO []:=x7.fR (hm _ _) O;have p5:sW v8.size n Go.Bu.iv v12 (λb=>v8.size<=b/\b<v9.size):=(sW.loc _ _ _).bT (yw (sW.loc _ _ _) ⟨sb,ms,hB,hfp⟩) x9 λb _ g d=>by omega
 have p6:mN tp (List.replicate n 0) v12 (λb=>aa.size<=b/\b<M.size):=(mN.loc _ _).bT (yw (mN.loc _ _) ⟨tq,hTk,htp,htq⟩) x11 λb _ g d=>by omega
 let Y0:Lay:={p:=A.size,hs:=hs,fr:=v8.size,tr:=tp,op:=op,rn:=V.size,dF:=dF,dQ:=⟨none,0,0⟩,cP:=⟨none,0,0⟩,fH:=[],gg:=[]}
 have b12':bZ v12 A.size (kN Y0):=b12
 let Cf:=gD (jk n W tb 0) Y0 (cM (jk n W tb 0) Y0) (kN Y0)
 have u:∀i,dM (Cf i):=gD.loc λk=>cM.loc k;have q0:Sep (jz Cf S0) v12 λ_=>False:=jz.one S0 .hd λi X=>by
  cases i<;>first|exact X.elim|exact bS.nil _ _ _ _|exact trivial
 have q1:=jz.put u q0 .dF (G:=λb=>v.size<=b/\b<v5.size) (λb g d=>d) p1;have q2:=jz.put u q1 .own (G:=λb=>v5.size<=b/\b<V.size) (λb g d=>by
  rcases d with d|d
  ·exact d
  ·omega) p2
 have q3:=jz.put u q2 .runs (G:=λb=>b=V.size) (λb g d=>by
  rcases d with(d|d)|d
  ·exact d
  ·omega
  ·omega) ⟨rfl,p3⟩
 have q4:=jz.put u q3 .hd (G:=λb=>b=A.size) (λb g d=>by
  rcases d with((d|d)|d)|d
  ·exact d
  ·omega
  ·omega
  ·omega) ⟨rfl,b12'⟩
 have q5:=jz.put u q4 .free (G:=λb=>v8.size<=b/\b<v9.size) (λb g d=>by
  rcases d with(((d|d)|d)|d)|d
  ·exact d
  ·omega
  ·omega
  ·omega
  ·omega) p5
 have q6:=jz.put u q5 .nW (G:=λb=>aa.size<=b/\b<M.size) (λb g d=>by
  rcases d with((((d|d)|d)|d)|d)|d
  ·exact d
  ·omega
  ·omega
  ·omega
  ·omega
  ·omega) p6
 have q7:Sep Cf v12 λb=>v.size<=b:=by
  refine(Sep.loc u).mono (jz.all q6 λi=>?_) λb _ d=>?_
  ·cases i<;>simp[S0]
  ·rcases d with(((((d|d)|d)|d)|d)|d)|d
   ·exact d.elim
   ·omega
   ·omega
   ·omega
   ·omega
   ·omega
   ·omega
 have e12:bL v v12:=Ext.fresh e5 x5 λi X=>by omega
 have szv:=e.1;refine Qg (a:=bO) (λ(t:Int) w=>∃(i:Nat) (Y:Lay),t=(i:Int)/\i<=tb.length/\Y.p=A.size/\Y.hs=hs/\Y.fH.length=i/\Y.gg.length=i/\bL v w/\Sep (gD (jk n W tb i) Y (cM (jk n W tb i) Y) (kN Y)) w (λb=>v.size<=b)) (λt _=>tb.length-t.toNat)
  ⟨0,Y0,rfl,O,rfl,rfl,rfl,rfl,e12,q7⟩ ?_
 rintro t w ⟨i,Y,rfl,X,hYp,hYh,ad,hYt,ew,y⟩;refine cQ (λhlt=>?_) λhge=>?_
 ·have hi':i<tb.length:=by omega
  have K:tb[i]?=some tb[i]:=cX hi';generalize tb[i]=c at K;have haw:=Qb Q ew;obtain⟨hxi,ab⟩:=hcl haw K;refine Ah haw hxi ?_;refine nw (cs:=[.int .i64 0,.int .i64 0,.int .i64 0]) λv14 hz14 e14 b14=>b14.s1 aA λv15 o15 b15=>b15.s1 aA λv16 o16 b16=>b16.s1 aA λv17 o17 b17=>?_;have N:bL w v17:=Ext.fresh (Ext.fresh (Ext.fresh e14 o15.ext λi X=>O) o16.ext λi X=>O) o17.ext λi X=>by omega
  have x:bZ v17 w.size [.int .i64 (c.size:Int),.int .i64 (c.aF:Int),.int .i64 (c.batch:Int)]:=b17;refine x.rI rfl (x.rI rfl (x.rI rfl (TR ab λv18 cp D hcp1 hcp2 hCe=>?_)));have b18:=D.bW x id;obtain⟨_,_,_,_,_,_,hbt1,Z⟩:=id ab;refine b18.rI rfl (MF hbt1 Z O λv19 tp2 C htp1 htp2 hTf=>Jn.intro ?_);have s14:=N.1;have s18:=D.1;have s19:=C.1;have sw:=ew.1;have hT:∀k,dM (cM (jk n W tb i) Y k):=λk=>cM.loc k;have h19:=qE hT (qE hT (qE hT (Du hT y) N) D) C;have L:=hCe.bP C;rw[←hYp];refine O5 (F:=Cut (λb=>v.size<=b) w) (z:=v.size) (ss:=[]) (t:=⟨0,[]⟩) (λb g=>⟨g.1,by have:=g.2;omega⟩) ⟨ad,hYt⟩ O h19 (by simp[jk]) (by simp[jk]) K L hTf (λb g=>?_) (λb g=>?_) (λb g hb2=>O) λw2 Y' e2 y1 y2 y3 y4 h2=>?_
  ·subst g;exact⟨λd=>by have:=d.2;omega,O,O⟩
  ·subst g;exact⟨λd=>by have:=d.2;omega,O,O⟩
  ·rw[RJ]at h2;exact cS (m:=i+1) O O ⟨⟨i+1,Y',rfl,O,y1,y2.trans hYh,y3,y4,Ext.fresh (Ext.trans (Ext.trans (Ext.trans ew N) D) C) e2 λb g=>g.1,h2⟩,O⟩
 ·have:i=tb.length:=by omega
  subst this;rw[R4,ι]at y;have hl:eV (fB n W tb) Y:=TK hn1 hn2 ac O J.1 J.2 (λc K=>by
   obtain⟨j,hj⟩:=zO K;exact(hcl Q hj).2) ad hYt
  have:=h1 w Y (Ext.trans e ew) hYh ⟨hl,λk=>cM.loc k,(Sep.loc (AC.loc λk=>cM.loc k)).mono y λb _ g=>j9 szv g⟩;rw[hYp]at this;exact this
end Go.Ar
namespace Go.Vc
open Go
variable {U:Hp}{F:Rg}{s:Sl}{sz:Nat}{xs:List Value}
def dK (s:Sl)(sz:Nat)(xs:List Value):Hp->Rg->Prop:=λh F=>xs.length=s.len*sz/\(s.len=0/\s.cap=0\/∃b o cs,F b/\s.a=some ⟨b,o,none⟩/\bZ h b cs/\s.len<=s.cap/\cs.length=o+s.cap*sz/\(cs.drop o).take xs.length=xs)
theorem dK.loc (s:Sl)(sz:Nat)(xs:List Value):dM (dK s sz xs):=λU d F G h g a=>by
 refine⟨h.1,h.2.imp id ?_⟩;rintro⟨b,o,cs,hq,ha,⟨e,he⟩,r⟩;have:=a b (bZ.lt ⟨e,he⟩) hq;exact⟨b,o,cs,this.1,ha,⟨e,this.2.trans he⟩,r⟩
theorem dK.nil (h:Hp)(F:Rg)(sz:Nat)(a:Option Addr):dK ⟨a,0,0⟩ sz [] h F:=⟨by simp,.inl ⟨rfl,rfl⟩⟩
theorem bS.o (h:bS s sz xs U F):dK s sz xs U F:=⟨h.1,h.2.imp id λ⟨b,e,g,j,i,a,d,m⟩=>⟨b,0,e,g,j,i,a,O,by simpa using m⟩⟩
theorem dK.fX (h:dK s sz xs U F):cV s sz xs U F:=by
 refine⟨h.1,?_⟩;rcases h.2 with⟨hl,_⟩|⟨b,o,cs,hq,ha,hb,_,_,ht⟩
 ·left;have:=h.1;rw[hl]at this;simpa using this
 ·refine .inr ⟨b,o,cs,hq,ha,hb.q,λj a=>?_⟩;rw[←ht,zj,kQ,zC a]
theorem dK.cap (h:dK s sz xs U F):s.len<=s.cap:=by
 rcases h.2 with⟨q1,q2⟩|⟨_,_,_,_,_,_,q,_⟩
 ·omega
 ·exact q
theorem dK.app {x:Sl}{bytes e:Nat}{zs ys:List Value}{K:Sl->Hp->Prop}(ho:dK s sz xs U F)(hz:zs.length=sz)
 (hy:ys.length=x.len*sz) (hr:Rd U x.a ys) (h1:∀v∈ys,dR v=true) (hb:(s.len+x.len)*bytes<=2^46) (hc:s.len+x.len<=2^62)
 (hx:0<x.len) (hK:∀s' h',s'.len=s.len+x.len->Ext F U h'->dK s' sz (xs++ys) h' (Grow F U)->K s' h'):App s sz bytes e zs x U K:=by
 refine⟨xs,ys,ho.1,hy,ho.fX.rd,hr,h1,hb,hc,λg=>?_,λr c m=>?_⟩
 ·rcases ho.2 with⟨hl,hcap⟩|⟨b,o,cs,hQ,ha,hk,hle,hcl,ht⟩
  ·omega
  ·rw[ha];simp only;rw[add_lit];have u:(s.len+x.len)*sz<=s.cap*sz:=ma _ g;rw[zl]at u;have d:=ho.1;refine VU hk O λh' p j=>hK _ h' rfl (Ext.eM p hQ) ⟨?_,.inr ⟨b,o,_,.inl hQ,rfl,j,g,?_,?_⟩⟩
   ·simp[d,hy,zl]
   ·simp;omega
   ·rw[zM,d,kc];have e1:(cs.take (o+s.len*sz)++ys++cs.drop (o+s.len*sz+ys.length)).drop o=(cs.drop o).take (s.len*sz)++(ys++cs.drop (o+s.len*sz+ys.length)):=by
     rw[zr,List.drop_append_of_le_length (by rw[zY];omega),List.drop_take]
     congr 2;omega
    have i:(cs.drop o).take (s.len*sz)=xs:=by rw[←d];exact ht
    rw[e1,i,←zr,pJ aE,lz aE]
 ·refine hK _ _ rfl (Ext.push _ _ _) ⟨by simp[ho.1,hy,zl],.inr ⟨U.size,0,xs++ys++(List.replicate (c-(s.len+x.len)) zs).flatten,.inr (zD _),rfl,⟨e,by simp⟩,m,?_,?_⟩⟩
  ·simp only[zM,xe,vB,xE,ho.1,hy,hz,←zl];rw[zH];congr 1;omega
  ·rw[ye,pJ aA,lz aA]
theorem dK.Cc {x:Sl}{bytes e:Nat}{zs:List Value}{K:Sl->Hp->Prop}(ho:dK s sz xs U F)(hx:x.len=0)(hb:s.len*bytes<=2^46)(hc:s.len<=2^62)(hK:dK ⟨s.a,s.len,s.cap⟩ sz xs U F->K ⟨s.a,s.len,s.cap⟩ U):App s sz bytes e zs x U K:=by
 have d:=ho.cap;refine⟨xs,[],ho.1,by simp[hx],ho.fX.rd,by cases x.a<;>simp[Rd],by simp,by rw[hx];exact hb,O,λg=>?_,λb=>absurd O b⟩
 rw[hx];have:=hK ho;cases ha:s.a<;>(rw[ha]at this;exact this)
theorem dK.from (h:dK s sz xs U F){lo:Nat}(h1:lo<=s.len):dK ⟨if s.cap=lo then s.a else s.a.map (·.add (lo*sz)),s.len-lo,s.cap-lo⟩ sz (xs.drop (lo*sz)) U F:=by
 have d:=h.1;refine⟨by rw[kg,d,Nat.sub_mul],?_⟩;rcases h.2 with⟨q1,q2⟩|⟨b,o,cs,hq,ha,hb,hle,hcl,ht⟩
 ·left;simp only;omega
 ·by_cases hm:s.cap=lo
  ·left;simp only;omega
  ·refine .inr ⟨b,o+lo*sz,cs,hq,by simp only[zB hm,ha,ze,add_lit],hb,by simp only;omega,?_,?_⟩
   ·have:lo*sz<=s.cap*sz:=ma _ O;rw[hcl,Nat.sub_mul];omega
   ·rw[kg]
    conv=>rhs;rw[←ht]
    rw[List.drop_take,List.drop_drop]
end Go.Vc
namespace Go.Ar
open Go Go.Vc Go.Proofs
variable {U:Hp}{F G:Rg}{Y:gU}{tb:List cA}{bud:Nat}{ls:List Li}{b k:Nat}{l:Li}{c:cA}
theorem Rf {s:Sl}{xs:List (Int×Int×Int)}(ha:iw U s xs)(dC:Int){R:Option Addr->Int->Hp->Prop}(h0:QK xs=false->∀σ',bL U σ'->R none 2 σ')
 (h1:QK xs=true->¬(0<=dC/\dC<=65536)->∀σ',bL U σ'->R none 1 σ')
 (h2:QK xs=true->0<=dC->dC<=65536->∀σ' Y,bL U σ'->eH σ' (λq=>U.size<=q) Y (xs.map Qo) dC.toNat (List.replicate (xs.map Qo).length ir)->R (some ⟨Y.p,0,none⟩) 0 σ') :
 Ki.c s dC U R:=by
 refine Ki.o ?_;unfold Ki.v;refine G2 ha λv e=>?_;cases hv:QK xs
 ·exact cD rfl (h0 hv v e)
 refine cE rfl (bV.intro (cQ (λC=>cD rfl (h1 hv O v e)) λC=>cQ (λA=>h1 hv O v e) λA=>?_));have d:=Qb ha e;have w:=(QB xs).1 hv;refine Uh d hv λdF b e1 g=>ud λj F e2 x=>nw (cs:=[.slice dF.a dF.len dF.cap,.int .i64 dC,.map (some b.size)]) λv3 E m D=>?_;have s1:=e1.1;have s0:=e.1;refine h2 hv O O v3 ⟨j.size,b.size,dF,[]⟩ (((e.trans e1).trans e2).trans m) ⟨by rw[zk];omega,λc u=>?_,by simp,by simp,?_⟩
 ·obtain⟨i,z⟩:=zO u;exact(Hx d hv z).2
 ·refine⟨λq=>if q=j.size then .hd else if q=b.size then .mp else .dF,λi=>?_⟩
  cases i with
  | hd=>
   refine⟨⟨by show U.size<=j.size;omega,by simp⟩,?_⟩;have:((dC.toNat:Nat):Int)=dC:=by omega
   simp only[A7,this];exact D
  | mp=>
   refine⟨⟨by show U.size<=b.size;omega,?_⟩,m.fR (x .i64 .p) id⟩;show(if b.size=j.size then sK.hd else if b.size=b.size then sK.mp else sK.dF)=.mp
   rw[zB O,zC rfl]
  | dF=>
   have y:=aH.bP (aH.bP (aH.mono g (G:=λq=>v.size<=q/\q<b.size) λq r B=>⟨B,r⟩) e2) m;refine aH.mono y λq _ r=>⟨O,?_⟩;show(if q=j.size then sK.hd else if q=b.size then sK.mp else sK.dF)=.dF
   rw[zB O,zB O]
  | li k=>
   simp only[CC,oS,jc,List.find?_nil,Option.map_none];cases hk:(List.replicate (xs.map Qo).length ir)[k]? with
   | none=>trivial
   | some l=>simp only[mR]at hk;split at hk<;>simp_all
def kz (f:Nat->Nat)(l:List (Int×Option Addr)):Nat:=(l.map λx=>f x.1.toNat).sum
theorem FW (f:Nat->Nat):∀{l:List (Int×Option Addr)} {n:Int} {x:Option Addr},(l.map (·.1)).Nodup->(n,x)∈l->kz f l=f n.toNat+kz f (l.filter λy=>!(y.1==n))
 | [],_,_,_,h=>by simp at h
 | y::l,n,x,hn,h=>by
  simp only[zS,zt]at hn;rcases zX.1 h with h1|h1
  ·subst h1;have:l.filter (λy=>!(y.1==n))=l:=by
    rw[qW];intro z hz;have:z.1≠n:=λe=>hn.1 (zF.2 ⟨z,hz,e⟩);simpa using this
   rw[wN aA,this];simp[kz]
  ·have a:y.1≠n:=λe=>hn.1 (zF.2 ⟨_,h1,e.symm⟩);rw[vW (by simpa using a)];have:=FW f hn.2 h1;simp only[kz,zS,nU]at *;omega
theorem RC (n a v:Nat):((List.range n).map λj=>if j=a then v else 0).sum=if a<n then v else 0:=by
 induction n with
 | zero=>simp
 | succ n ih=>
  rw[pZ,jU,List.sum_append,ih];by_cases h:a=n
  ·subst h;simp
  ·by_cases h2:a<n
   ·rw[zC h2,zC O];simp[Ne.symm h]
   ·rw[zB h2,zB O];simp[Ne.symm h]
theorem Pw (l:List Nat)(f g:Nat->Nat):(l.map λj=>f j+g j).sum=(l.map f).sum+(l.map g).sum:=by
 induction l with
 | nil=>rfl
 | cons x l ih=>simp only[zS,nU,ih];omega
theorem IL (f:Nat->Nat)(n:Nat):∀(ps:List (Nat×Nat)),(ps.map (·.1)).Nodup->(∀x∈ps,x.1<n)->(ps.map λx=>f x.1).sum=((List.range n).map λj=>if j∈ps.map (·.1)then f j else 0).sum
 | [],_,_=>by
  have:((List.range n).map λj=>if j∈([]:List (Nat×Nat)).map (·.1)then f j else 0)=(List.range n).map λ_=>0:=by simp
  rw[this]
  induction n with
  | zero=>rfl
  | succ n a=>rw[pZ,jU,List.sum_append];simp at *;exact a
 | x::ps,hn,hl=>by
  simp only[zS,zt]at hn;have a:=IL f n ps hn.2 λy b=>hl y (by simp[b]);rw[zS,nU,a];have e:((List.range n).map λj=>if j∈(x::ps).map (·.1)then f j else 0)=(List.range n).map λj=>(if j=x.1 then f x.1 else 0)+(if j∈ps.map (·.1)then f j else 0):=by
   apply ke;intro j _;by_cases hj:j=x.1
   ·subst hj;rw[zC aA,zC rfl,zB hn.1];rfl
   ·rw[zB hj,zH];by_cases hm:j∈ps.map (·.1)
    ·rw[zC hm,zC (by simp only[zS,zX];exact .inr hm)]
    ·rw[zB hm,zB (by simp only[zS,zX,not_or];exact⟨hj,hm⟩)]
  rw[e,Pw,RC,zC (hl x aA)]
def pW (tb:List cA)(ls:List Li)(k:Nat):Nat:=match tb[k]?,ls[k]? with
 | some c,some l=>c.size*l.os.length
 | _,_=>0
theorem ET:∀(tb:List cA) (ls:List Li),ls.length=tb.length->Ko tb ls=((List.range tb.length).map (pW tb ls)).sum
 | [],[],_=>rfl
 | c::tb,l::ls,h=>by
  have ih:=ET tb ls (by simpa using h);simp only[Ko]at ih;simp only[Ko,List.zip_cons_cons,zS,nU,zV,ih,List.range_succ_eq_map,lB];rfl
 | [],_::_,h=>by simp at h
 | _::_,[],h=>by simp at h
theorem eH.nil (h:eH U F Y tb bud ls)(hf:jc Y.ps k=none)(hl:ls[k]?=some l):l=ir:=by
 obtain⟨G,_,a⟩:=h.sep.get (.li k);simp only[CC,oS,hf,hl]at a;exact a
theorem eH.vD (h:eH U F Y tb bud ls):(Y.ps.map (·.1)).Nodup:=by
 have:=h.map.nodup;have e:(j2 Y.ps).map (·.1)=(Y.ps.map (·.1)).map λ(n:Nat)=>(n:Int):=by simp[j2]
 rw[e]at this;exact List.Pairwise.of_map (λ(n:Nat)=>(n:Int)) (λa b d e=>d (by rw[e])) this
theorem eH.bytes (h:eH U F Y tb bud ls):kz (pW tb ls) (j2 Y.ps)=Ko tb ls:=by
 have e1:kz (pW tb ls) (j2 Y.ps)=(Y.ps.map λx=>pW tb ls x.1).sum:=by simp[kz,j2,Function.comp_def]
 rw[e1,IL _ tb.length _ h.vD h.keys,ET _ _ h.len]
 congr 1
 apply ke;intro j hj;have a:=zh.1 hj;by_cases hm:j∈Y.ps.map (·.1)
 ·rw[zC hm]
 ·rw[zB hm];have d:jc Y.ps j=none:=by
   unfold jc;simp only[r5,nY,zT];exact λx g e=>hm (zF.2 ⟨x,g,e⟩)
  have b:ls[j]?=some (ls[j]'(by rw[h.len];exact a)):=cX _;have:=h.nil d b;unfold pW;rw[cX a,b,this];rfl
theorem I5:∀(tb:List cA) (ls:List Li),(∀c∈tb,c.ok)->(∀l∈ls,fL l)->Ko tb ls<=tb.length*131072
 | [],_,_,_=>by simp[Ko]
 | _::_,[],_,_=>by simp[Ko]
 | c::tb,l::ls,h1,h2=>by
  have ih:=I5 tb ls (λc a=>h1 c (by simp[a])) (λl b=>h2 l (by simp[b]));simp only[Ko]at ih;simp only[Ko,List.zip_cons_cons,zS,nU,zV];have a:=h1 c aA;unfold cA.ok at a;have d:=(h2 l aA).many;have e:c.size*l.os.length<=512*256:=mb O d;omega
theorem κ (h:eH U F Y tb bud ls)(hok:∀l∈ls,fL l):Ko tb ls<=5242880:=by
 have a:=I5 tb ls h.ok hok;have b:=h.nE;omega
theorem eH.LC (h:eH U F Y tb bud ls):∀l∈ls,fL l:=by
 intro l hl;obtain⟨k,a⟩:=zO hl;cases hf:jc Y.ps k with
 | none=>rw[h.nil hf a];exact fL.nil
 | some b=>
  obtain⟨G,_,d,_⟩:=h.xD hf a;exact d.2.1
theorem Fc (h:eH U F Y tb bud ls){R:aN}(hR:∀σ',bL U σ'->R ((Ko tb ls:Nat):Int) σ'):XT.c (aW Y.p) U R:=by
 refine XT.o ?_;unfold XT.v;have hle:=κ h h.LC;have hT:=h.bytes;refine HM h (cE rfl (aG (h.hd.rM rfl ?_)));refine xN (a:=bO) h.map (λg (z:Int) v=>∃n:Nat,z=(n:Int)/\n+kz (pW tb ls) g=Ko tb ls/\(∀e∈g,e∈j2 Y.ps)/\(g.map (·.1)).Nodup/\bL U v) ?_ ?_ ?_
 ·intro v hz e;exact⟨0,rfl,by rw[hT];omega,λe he=>he,h.map.nodup,e⟩
 ·rintro z v ⟨n,rfl,E,_,_,e⟩;simp only[kz,rp,List.sum_nil,kc]at E;rw[E];exact hR v e
 ·rintro g n x z v v' J ⟨m,rfl,E,u,B,e⟩ X ho hlt hJ;have W:bL U v':=e.only ho (.inr (zD _));have K:=h.bP W;have r:=u _ X;simp only[j2,zF,Prod.mk.injEq]at r;obtain⟨⟨k,b⟩,A,w,C⟩:=r;simp only at w C;subst w;subst C;have H:=h.keys _ A;simp only at H;have M:tb[k]?=some tb[k]:=cX H;have S:ls[k]?=some (ls[k]'(by rw[h.len];exact H)):=cX _;generalize tb[k]=c at M;generalize (ls[k]'(by rw[h.len];exact H))=l at S;have N:jc Y.ps k=some b:=Je h.map.nodup A;obtain⟨G,hG,hL,_⟩:=K.xD N S;obtain⟨_,hok,s,Q,L,V⟩:=hL;have P:s.len=l.os.length:=by have:=L.1;simp[WD]at this;omega
  have hb:pW tb ls k=c.size*l.os.length:=by unfold pW;rw[M,S]
  have j:=FW (pW tb ls) B X;simp only[dD]at j;refine aG (K.hd.rS rfl (tn K.jC M (d:=0) O ?_));simp only[zR];refine aG (Q.rS rfl ?_);have D:m+c.size*l.os.length+kz (pW tb ls) (List.filter (λy=>!(y.1==(k:Int))) g)=Ko tb ls:=by
   have Z:=j;rw[hb]at Z;rw[←E,Z,xl]
  refine cS (m:=c.size*l.os.length) (by simp only[P];simp) O (cS (m:=m+c.size*l.os.length) O O (hJ _ v' rfl rfl ⟨_,rfl,D,λy hy=>u y (zI.1 hy).1,B.sublist (List.filter_sublist.map _),W⟩))
theorem PY (h:eH U F Y tb bud ls){R:aO}(hR:∀σ',bL U σ'->R (decide (bud<Ko tb ls)) σ'):Yl.c (aW Y.p) U R:=by
 refine Yl.o ?_;unfold Yl.v;have e:decide (((Ko tb ls:Nat):Int)>(bud:Int))=decide (bud<Ko tb ls):=by rw[decide_eq_decide];omega
 refine Jn.intro (HM h (cD rfl (aG ⟨Fc h λσ' a=>(a.bW h.hd id).rI rfl ?_,h.hd.rI rfl (Fc h λσ' a=>?_)⟩)))
 ·rw[e];exact hR σ' a
 ·rw[e];exact hR σ' a
def Ay (f:cA->Li->List Int×Li)(fn:Nat):Prop:=∀{U:Hp} {G:Rg} {b:Nat} {l:Li} {c:cA},iY b l U G->c.ok->∀{R:Sl->Hp->Prop},
 (∀s z σ',Ext (· = b) U σ'->U.size<=z->bS s 1 (WD (f c l).1) σ' (λq=>U.size<=q/\q<z)->iY b (f c l).2 σ' (λq=>q=b\/z<=q)->R s σ') →
 VH Tryz.prog ⟨fn,#[],#[]⟩ [.pointer (some ⟨b,0,none⟩),.int .i64 (c.batch:Int)] [.one .s] U R
theorem Lt:Ay ZY 243:=by
 intro U G b l c h hc R hR;refine GR (all := #[.pointer (some ⟨b,0,none⟩),.int .i64 (c.batch:Int)]) (by kernel_rfl) aA ?_;refine YG.o ?_;unfold YG.v;have j:=h;obtain⟨_,i,s,e,a,g⟩:=h;have d:s.len=l.os.length:=by have:=a.1;simp[WD]at this;omega
 refine aG (e.rS rfl ?_);simp only[d];exact HW j (zD _) hR
theorem RZ:Ay Vk 241:=by
 intro U G b l c h hc R hR;refine GR (all := #[.pointer (some ⟨b,0,none⟩),.int .i64 (c.batch:Int)]) (by kernel_rfl) aA ?_;refine XE.o ?_;unfold XE.v;have V:=h;obtain⟨_,g,s,x,M,J⟩:=h;have o1:=g.low;have o2:=g.many;have o3:=g.lim;have y:=ED hc g;unfold cA.ok at hc;refine aG (x.rI rfl (cS (m:=l.low+1) O O (nz aB (cS (m:=(l.low+1)/2) (by rw[YK O];omega) O ?_))));refine HW V O λout z v e P N u=>?_;have L:=u;obtain⟨_,S,s1,d,r,E⟩:=u;have w:s1.len=(gG ((l.low+1)/2) l).2.os.length:=by have:=r.1;simp[WD]at this;omega
 refine Jn.intro ?_;have i:∀(p:Hp) (lim:Nat),Ext (· = b) v p->lim=(if l.lim>c.batch then max (l.lim-c.batch) c.batch else l.lim)->bZ p b (mX s1 {(gG ((l.low+1)/2) l).2 with lim:=lim}) →
  bX (some ⟨b,0,none⟩) λC=>ju (C.add 0) p λB=>bX (some ⟨b,0,none⟩) λD=>dU (D.add 2) (.int .i64 ((B.len:Nat):Int)) p λv2=>R out v2:=by
  intro p lim e1 hlim a;refine aG (a.rS rfl (aG (a.s1 (by simp[mX]) λv2 o2 A=>?_)));have e2:=e1.trans o2.ext;have Q:=d.lt;refine hR out z v2 (e.trans e2) P (aI.bT N e2 λq _ H K=>?_) ?_
  ·have:=x.lt;omega
  ·refine⟨.inl rfl,y,s1,?_,aH.bT r e2 λq _ H K=>H.2 K,E⟩;simp only[w]at A;subst hlim;exact A
 refine aG (d.rI rfl ?_);refine cQ (λF=>?_) λF=>?_
 ·have j:l.lim>c.batch:=by simp only[gG]at F;omega
  refine aG (d.rI rfl (cS (m:=l.lim-c.batch) (by simp only[gG];omega) O (aG (d.s1 (by simp[mX]) λp o1 a=>i p (max (l.lim-c.batch) c.batch) o1.ext (by rw[zC j]) ?_))));have:(if(c.batch:Int)>((l.lim-c.batch:Nat):Int)then(c.batch:Int)else((l.lim-c.batch:Nat):Int))=((max (l.lim-c.batch) c.batch:Nat):Int):=by split<;>omega
  rw[this]at a;exact a
 ·have j:¬l.lim>c.batch:=by simp only[gG]at F;omega
  exact i v l.lim (Ext.refl _ _) (by rw[zB j]) d
def nV (x:Nat×Sl):List Value:=[.int .i64 (x.1:Int),.slice x.2.a x.2.len x.2.cap]
def fF (l:List (Nat×Sl)):List Value:=l.flatMap nV
theorem Vb (l:List (Nat×Sl)):(fF l).length=l.length*2:=by
 induction l with
 | nil=>rfl
 | cons x l ih=>
  have e:fF (x::l)=nV x++fF l:=rfl;have e2:(nV x).length=2:=rfl;rw[e,zM,ih,e2,zV];omega
theorem Hc (a b:List (Nat×Sl)):fF (a++b)=fF a++fF b:=by simp[fF]
theorem HQ {l:List (Nat×Sl)}:∀v∈fF l,dR v=true:=by
 intro v hv;obtain⟨p,_,a⟩:=List.mem_flatMap.1 hv;simp only[nV,zX,yk,or_false]at a;rcases a with rfl|rfl<;>rfl
theorem MO {l:List (Nat×Sl)}{i:Nat}{p:Nat×Sl}(h:l[i]?=some p){d:Nat}(hd:d<2):(fF l)[2*i+d]?=(nV p)[d]? := by
 induction l generalizing i with
 | nil=>simp at h
 | cons x l ih=>
  have e:fF (x::l)=nV x++fF l:=rfl;have e2:(nV x).length=2:=rfl;rw[e];cases i with
  | zero=>
   simp at h;subst h;rw[zd O];congr 1;omega
  | succ i=>
   rw[zm O,e2,show 2*(i+1)+d-2=2*i+d by omega];exact ih (by simpa using h)
def kv (ps:List (Nat×Sl))(bs:List Bt)(U:Hp)(D:Rg):Prop:=ps.length=bs.length/\∀(i:Nat) p x,ps[i]?=some p->bs[i]?=some x->p.1=x.1/\cV p.2 1 (WD x.2) U D/\p.2.len<=p.2.cap
theorem kv.loc (ps:List (Nat×Sl))(bs:List Bt):dM (kv ps bs):=λU g F G h e d=>⟨h.1,λi p x b a=>⟨(h.2 i p x b a).1,cV.loc _ _ _ _ _ _ _ (h.2 i p x b a).2.1 e d,(h.2 i p x b a).2.2⟩⟩
def uz (ps:List (Nat×Sl)):Prop:=ps.Pairwise λp q=>∀a a',p.2.a=some a->q.2.a=some a'->a.block≠a'.block
theorem uz.snoc {ps:List (Nat×Sl)}{bs:List Bt}{U v:Hp}{D X:Rg}{s:Sl}{xs:List Int}(h:uz ps)(hB:kv ps bs U D)(hne:∀x∈bs,x.2≠[])(hs:cV s 1 (WD xs) v X)(hx:xs≠[])(hd:∀b,b<U.size->D b->¬X b)(k:Nat):uz (ps++[(k,s)]):=by
 refine pN.2 ⟨h,List.pairwise_singleton _ _,λp w q r=>?_⟩;rw[zP]at r;subst r;intro a a' h1 h2 e;obtain⟨i,u⟩:=zO w;have d:=(cZ.1 u).1;have j:bs[i]?=some (bs[i]'(by rw[←hB.1];exact d)):=cX _;generalize (bs[i]'(by rw[←hB.1];exact d))=y at j;obtain⟨_,g,_⟩:=hB.2 i p y u j;have m:=g.bW (by simpa[WD]using hne y (zG j)) ⟨a,h1,rfl⟩;have z:=hs.bW (by simpa[WD]using hx) ⟨a',h2,rfl⟩;rw[e]at m;exact hd _ m.2 m.1 z.1
def iA (s:Sl)(bs:List Bt):Hp->Rg->Prop:=λU F=>∃(ps:List (Nat×Sl)) (D:Rg),dK s 2 (fF ps) U (λq=>F q/\¬D q)/\kv ps bs U D/\(∀q,D q->F q)/\uz ps/\∀x∈bs,x.2≠[]
theorem iA.loc (s:Sl)(bs:List Bt):dM (iA s bs):=λU r F G ⟨i,D,j,m,e,p⟩ g b=>
 ⟨i,λq=>D q/\q<U.size,dK.loc _ _ _ _ _ _ _ j g λq a d=>⟨⟨(b q a d.1).1,λhd=>d.2 hd.1⟩,(b q a d.1).2⟩,kv.loc _ _ _ _ _ _ m g λq a hd=>⟨⟨hd,a⟩,(b q a (e q hd)).2⟩,λq a=>(b q a.2 (e q a.1)).1,p⟩
theorem iA.nil (U:Hp)(F:Rg)(a:Option Addr):iA ⟨a,0,0⟩ [] U F:=⟨[],λ_=>False,dK.nil _ _ _ _,⟨rfl,λi p x h=>by simp at h⟩,λq h=>h.elim,List.Pairwise.nil,by simp⟩
theorem iA.len {s:Sl}{bs:List Bt}(h:iA s bs U F):s.len=bs.length:=by
 obtain⟨d,D,b,a,_⟩:=h;have:=b.1;rw[Vb]at this;have:=a.1;omega
theorem iA.cap {s:Sl}{bs:List Bt}(h:iA s bs U F):s.len<=s.cap:=by
 obtain⟨b,D,a,_⟩:=h;exact a.cap
def GM:Prop:=∀{U:Hp} {F:Rg} {s:Sl} {xs:List (Nat×Sl)},bS s 2 (fF xs) U F->(∀x∈xs,x.1<64)->xs.length<=1000->∀{R:aP},
 (∀xs' σ',xs'.Perm xs->xs'.Pairwise (λa b=>a.1<=b.1)->Ext F U σ'->bS s 2 (fF xs') σ' F->R σ')->Qc.c s ⟨298,#[],#[]⟩ U R
theorem DY:∀{a b:List Nat},a.Pairwise (· < ·)->b.Pairwise (· < ·)->(∀x,x∈a↔x∈b)->a=b
 | [],[],_,_,_=>rfl
 | [],y::b,_,_,h=>by have:=(h y).2 aA;simp at this
 | x::a,[],_,_,h=>by have:=(h x).1 aA;simp at this
 | x::a,y::b,ha,hb,h=>by
  rw[sy]at ha hb;have e:x=y:=by
   rcases zX.1 ((h x).1 aA)with h1|h1
   ·exact h1
   ·rcases zX.1 ((h y).2 aA)with h2|h2
    ·exact h2.symm
    ·have:=ha.1 y h2;have:=hb.1 x h1;omega
  subst e
  congr 1
  refine DY ha.2 hb.2 λz=>?_;have d:=h z;simp only[zX]at d;constructor
  ·intro hza;have:=ha.1 z hza;rcases d.1 (.inr hza)with h1|h1
   ·omega
   ·exact h1
  ·intro hzb;have:=hb.1 z hzb;rcases d.2 (.inr hzb)with h1|h1
   ·omega
   ·exact h1
theorem HA {f:cA->Li->List Int×Li}{x:Bt}:x∈Kx f tb ls↔∃c l,tb[x.1]?=some c/\ls[x.1]?=some l/\x.2=(f c l).1/\x.2≠[]:=by
 unfold Kx;rw[vG];constructor
 ·rintro⟨k,hk,h⟩;split at h
  ·rename_i c l hc hl;split at h
   ·cases h
   ·rename_i hne;cases h;exact⟨c,l,hc,hl,rfl,hne⟩
  ·cases h
 ·rintro⟨c,l,hc,hl,e,hne⟩;refine⟨x.1,zh.2 (cZ.1 hc).1,?_⟩;rw[hc,hl];simp only;rw[zB (by rw[←e];exact hne),←e]
theorem SL {f:cA->Li->List Int×Li}:((Kx f tb ls).map (·.1)).Pairwise (· < ·):=by
 unfold Kx;have key:∀(n:Nat),(((List.range n).filterMap λk=>match tb[k]?,ls[k]? with
  | some c,some l=>if(f c l).1=[]then none else some ((k,(f c l).1):Bt)
  | _,_=>none).map (·.1)).Pairwise (· < ·)/\∀x∈((List.range n).filterMap λk=>match tb[k]?,ls[k]? with
  | some c,some l=>if(f c l).1=[]then none else some ((k,(f c l).1):Bt)
  | _,_=>none),x.1<n:=by
  intro n
  induction n with
  | zero=>simp
  | succ n ih=>
   rw[pZ,vI,jU];refine⟨pN.2 ⟨ih.1,?_,?_⟩,?_⟩
   ·simp only[Dr,List.filterMap_nil];split<;>simp
   ·intro a ha b hb;obtain⟨x,g,rfl⟩:=zF.1 ha;obtain⟨y,e,rfl⟩:=zF.1 hb;have j:=ih.2 x g;obtain⟨m,i,d⟩:=vG.1 e;clear e hb ha;simp only[zP]at i;subst i;split at d
    ·split at d
     ·cases d
     ·cases d;exact j
    ·cases d
   ·intro x g;rcases zK.1 g with g|g
    ·have:=ih.2 x g;omega
    ·obtain⟨m,i,e⟩:=vG.1 g;simp only[zP]at i;subst i;split at e
     ·split at e
      ·cases e
      ·cases e;omega
     ·cases e
 exact(key tb.length).1
def mV (todo:List (Int×Option Addr))(k:Nat):Prop:=((k:Nat):Int)∈todo.map (·.1)
instance (todo:List (Int×Option Addr)) (k:Nat):Decidable (mV todo k):=by unfold mV;infer_instance
theorem Gh {todo:List (Int×Option Addr)}{m k:Nat}:mV (todo.filter λy=>!(y.1==(m:Int))) k↔mV todo k/\k≠m:=by
 unfold mV;simp only[zF,zI,mM,mB];constructor
 ·rintro⟨y,⟨h1,h2⟩,h3⟩;exact⟨⟨y,h1,h3⟩,λe=>h2 O⟩
 ·rintro⟨⟨y,h1,h3⟩,h2⟩;exact⟨y,⟨h1,λe=>h2 O⟩,h3⟩
structure y5 (f:cA->Li->List Int×Li) (tb:List cA) (ls:List Li) (todo:List (Int×Option Addr)) (ls':List Li) (outs:List Bt):Prop where
 l:∀k c l,tb[k]?=some c->ls[k]?=some l->ls'[k]?=some (if mV todo k then l else(f c l).2)
 n:(outs.map (·.1)).Nodup
 o:∀x:Bt,x∈outs↔∃c l,tb[x.1]?=some c/\ls[x.1]?=some l/\¬mV todo x.1/\x.2=(f c l).1/\x.2≠[]
theorem y5.step {f:cA->Li->List Int×Li}{todo:List (Int×Option Addr)}{ls':List Li}{outs:List Bt}(h:y5 f tb ls todo ls' outs)(hc:tb[k]?=some c)(hl:ls[k]?=some l)(hk:mV todo k) :
 y5 f tb ls (todo.filter λy=>!(y.1==(k:Int))) (ls'.set k (f c l).2) (if(f c l).1=[]then outs else outs++[(k,(f c l).1)]):=by
 have s:=h.l k c l hc hl;have A:=(cZ.1 s).1;have w:∀x∈outs,x.1≠k:=λx g e=>by
  obtain⟨_,_,_,_,B,_⟩:=(h.o x).1 g;rw[e]at B;exact B hk
 refine⟨λj d m hd p=>?_,?_,λx=>?_⟩
 ·by_cases hj:j=k
  ·subst hj;rw[hc]at hd;cases hd;rw[hl]at p;cases p;rw[zN A,zB (by rw[Gh];exact λg=>g.2 rfl)]
  ·rw[zg (Ne.symm hj),h.l j d m hd p]
   congr 1
   by_cases r:mV todo j
   ·rw[zC r,zC (Gh.2 ⟨r,hj⟩)]
   ·rw[zB r,zB λg=>r (Gh.1 g).1]
 ·split
  ·exact h.n
  ·rw[jU,nT];refine⟨h.n,by simp,λa D b C e=>?_⟩;simp only[zS,rp,zP]at C;subst C;obtain⟨x,g,e2⟩:=zF.1 D;exact w x g (e2.trans e)
 ·have z:(∃d m,tb[x.1]?=some d/\ls[x.1]?=some m/\¬mV (todo.filter λy=>!(y.1==(k:Int))) x.1/\x.2=(f d m).1/\x.2≠[])↔x∈outs\/(x=(k,(f c l).1)/\(f c l).1≠[]):=by
   constructor
   ·rintro⟨d,m,hd,p,r,e,i⟩;by_cases hj:x.1=k
    ·right;rw[hj]at hd p;rw[hc]at hd;cases hd;rw[hl]at p;cases p;exact⟨Prod.ext hj e,by rw[←e];exact i⟩
    ·left;exact(h.o x).2 ⟨d,m,hd,p,λg=>r (Gh.2 ⟨g,hj⟩),e,i⟩
   ·rintro(g|⟨rfl,i⟩)
    ·obtain⟨d,m,hd,p,r,e,i⟩:=(h.o x).1 g;exact⟨d,m,hd,p,λu=>r (Gh.1 u).1,e,i⟩
    ·exact⟨c,l,hc,hl,λu=>(Gh.1 u).2 rfl,rfl,i⟩
  rw[z];split
  ·rename_i he;constructor
   ·exact .inl
   ·rintro(g|⟨_,i⟩)
    ·exact g
    ·exact absurd he i
  ·rename_i he;rw[zK,zP];constructor
   ·rintro(g|g)
    ·exact .inl g
    ·exact .inr ⟨g,he⟩
   ·rintro(g|g)
    ·exact .inl g
    ·exact .inr g.1
set_option maxRecDepth 4000 in
theorem Fp (hso:GM){f:cA->Li->List Int×Li}{fn:Nat}(hf:Ay f fn)(hnil:∀c,c.ok->f c ir=([],ir))(h:eH U F Y tb bud ls){R:Sl->Hp->Prop}
 (hR:∀σ' s (Q:Rg),Ext F U σ'->(∀q,Q q->U.size<=q)->eH σ' (λq=>Grow F U q/\¬Q q) Y tb bud (Kr f tb ls)->iA s (Kx f tb ls) σ' Q->R s σ') :
 Xv.c (aW Y.p) ⟨fn,#[],#[]⟩ U R:=by
 refine Xv.o ?_;unfold Xv.v;refine HM h (cE rfl (aG (h.hd.rM rfl ?_)));have htb:=h.nE;refine xN (a:=.s) h.map (λC (out:Sl) v=>∃(ls':List Li) (w:List Bt) (Q D:Rg) (ps:List (Nat×Sl)),Ext F U v/\(∀q,Q q->U.size<q)/\eH v (λq=>(Cut F U q\/U.size<q)/\¬Q q) Y tb bud ls' ∧
  bS out 2 (fF ps) v (λq=>Q q/\¬D q)/\kv ps w v D/\(∀q,D q->Q q)/\y5 f tb ls C ls' w/\(∀e∈C,e∈j2 Y.ps)/\(C.map (·.1)).Nodup/\uz ps) ?_ ?_ ?_
 ·intro v hz e;refine⟨ls,[],λ_=>False,λ_=>False,[],bL.to e,λq g=>g.elim,((eH.loc.bP h.cut e).mono λq _ g=>⟨.inl g,id⟩),bS.nil _ _ _ _,⟨rfl,λi p x K=>by simp at K⟩,λq g=>g.elim,⟨λk c l E N=>?_,by simp,λx=>?_⟩,λe P=>P,h.map.nodup,List.Pairwise.nil⟩
  ·by_cases hi:mV (j2 Y.ps) k
   ·rw[zC hi,N]
   ·rw[zB hi];have hf0:jc Y.ps k=none:=by
     unfold jc;simp only[r5,nY,zT];exact λx r e=>hi (zF.2 ⟨((x.1:Int),some ⟨x.2,0,none⟩),zF.2 ⟨x,r,rfl⟩,by rw[e]⟩)
    have:=h.nil hf0 N;rw[N,this,hnil c (h.ok c (zG E))]
  ·simp only[yk,false_iff];rintro⟨c,l,E,N,hi,e,hne⟩;have hf0:jc Y.ps x.1=none:=by
    unfold jc;simp only[r5,nY,zT];exact λy Z e=>hi (zF.2 ⟨((y.1:Int),some ⟨y.2,0,none⟩),zF.2 ⟨y,Z,rfl⟩,by rw[e]⟩)
   have:=h.nil hf0 N;rw[this,hnil c (h.ok c (zG E))]at e;exact hne e
 ·rintro out v ⟨ls',w,Q,D,ps,e,hQ,hC,W,hB,hD,hI,_,_,S⟩;have hno:∀k,¬mV [] k:=λk hk=>by simp[mV]at hk
  have hls:ls'=Kr f tb ls:=by
   apply zo;intro k;by_cases hk:k<tb.length
   ·have E:tb[k]?=some tb[k]:=cX hk;have N:ls[k]?=some (ls[k]'(by rw[h.len];exact hk)):=cX _;rw[hI.l k _ _ E N,zB (hno k)];simp[Kr,Bj,E,N]
   ·rw[zW (by rw[hC.len];omega),zW (by simp[Kr,h.len];omega)]
  subst hls;have hk1:∀(i:Nat) p,ps[i]?=some p->∃x,w[i]?=some x/\p.1=x.1/\cV p.2 1 (WD x.2) v D/\p.2.len<=p.2.cap:=λi p K=>by
   have hi:=(cZ.1 K).1;have r:w[i]?=some (w[i]'(by rw[←hB.1];exact hi)):=cX _;exact⟨_,r,hB.2 i p _ K r⟩
  have B:ps.map (·.1)=w.map (·.1):=by
   apply zo;intro i;simp only[za];cases K:ps[i]? with
   | none=>
    have:w[i]?=none:=by
     rw[List.getElem?_eq_none_iff]at K ⊢;rw[←hB.1];exact K
    rw[this];rfl
   | some p=>
    obtain⟨x,r,e1,_⟩:=hk1 i p K;rw[r];simp[e1]
  have X:∀x∈w,x.1<40:=λx r=>by
   obtain⟨c,l,E,_⟩:=(hI.o x).1 r;have:=(cZ.1 E).1;omega
  have hlen:ps.length<=40:=by
   have hn:=hI.n;rw[←B]at hn;have:=hn.length_le_of_subset (l₂:=List.range 40) λj S=>by
    rw[B]at S;obtain⟨x,r,rfl⟩:=zF.1 S;exact zh.2 (X x r)
   simpa using this
  refine hso W (λp K=>?_) O λps' v' M hsort e' hrow'=>?_
  ·have:p.1∈w.map (·.1):=by rw[←B];exact zF.2 ⟨p,K,rfl⟩
   obtain⟨x,r,e1⟩:=zF.1 this;have:=X x r;omega
  ·have hnd:(ps'.map (·.1)).Nodup:=(M.map _).nodup_iff.2 (by rw[B];exact hI.n);have hinc:(ps'.map (·.1)).Pairwise (· < ·):=by
    refine List.Pairwise.map (R:=λa b:Nat×Sl=>a.1<b.1) _ (λa b hab=>hab) ?_;have A:ps'.Pairwise λa b=>a.1≠b.1:=sB.1 hnd;exact(hsort.and A).imp λ{a b} hab=>by have:=hab.1;have:=hab.2;omega
   have hkk:ps'.map (·.1)=(Kx f tb ls).map (·.1):=by
    refine DY hinc SL λj=>?_;rw[(M.map _).mem_iff,B];constructor
    ·intro S;obtain⟨x,r,rfl⟩:=zF.1 S;obtain⟨c,l,E,N,_,e1,e2⟩:=(hI.o x).1 r;exact zF.2 ⟨x,HA.2 ⟨c,l,E,N,e1,e2⟩,rfl⟩
    ·intro S;obtain⟨x,r,rfl⟩:=zF.1 S;obtain⟨c,l,E,N,e1,e2⟩:=HA.1 r;exact zF.2 ⟨x,(hI.o x).2 ⟨c,l,E,N,hno _,e1,e2⟩,rfl⟩
   have eQ:Ext F U v':=e.dS e' λq g=>.inr (sC (hQ q g.1));refine hR v' out Q eQ (λq g=>sC (hQ q g)) ?_ ⟨ps',D,hrow'.o,⟨?_,λi p x K r=>?_⟩,hD,(M.pairwise_iff λ{a b} hab x y A h2 e=>hab y x h2 A e.symm).2 S,λx r=>by
    obtain⟨_,_,_,_,_,h2⟩:=HA.1 r;exact h2⟩
   ·refine(eH.loc.bT hC e' λq _ g hq2=>g.2 hq2.1).mono λq _ g=>⟨?_,g.2⟩;rcases g.1 with r|r
    ·exact .inl r.1
    ·exact .inr (sC r)
   ·have:=congrArg List.length hkk;simpa using this
   ·have e1:p.1=x.1:=by
     have:=congrArg (λl=>l[i]?) hkk;simp only[za,K,r,ze,Option.some.injEq]at this;exact this
    obtain⟨j,S⟩:=zO (M.mem_iff.1 (zG K));obtain⟨y,Z,e2,hs,hcap⟩:=hk1 j p S;have e3:x.2=y.2:=by
     obtain⟨c,l,E,N,_,A,_⟩:=(hI.o y).1 (zG Z);obtain⟨c',l',hc',hl',h2,_⟩:=HA.1 (zG r);rw[←e1,e2,E]at hc';cases hc';rw[←e1,e2,N]at hl';cases hl';rw[A,h2]
    rw[e3];exact⟨e1,aH.bT hs e' λq _ g hq2=>hq2.2 g,hcap⟩
 ·rintro C n x out v v' J ⟨ls',w,Q,D,ps,e,hQ,hC,W,hB,hD,hI,hsub,hnd,S⟩ r ho hlt hJ;have e1:Ext F U v':=e.only ho (.inr (zD _));have V:eH v' (λq=>(Cut F U q\/U.size<q)/\¬Q q) Y tb bud ls':=eH.loc.bT hC ho.ext λq _ g P=>by
   rcases g.1 with A|A
   ·have:=A.2;omega
   ·omega
  have hrow1:bS out 2 (fF ps) v' (λq=>(Q q/\¬D q)/\q<v'.size):=aI.cut (aI.bT W ho.ext λq _ g P=>by have:=hQ q g.1;omega);have hB1:kv ps w v' (λq=>D q/\q<v'.size):=(kv.loc _ _).cut ((kv.loc _ _).bT hB ho.ext λq _ g P=>by have:=hQ q (hD q g);omega);have hmem:=hsub _ r;simp only[j2,zF,Prod.mk.injEq]at hmem;obtain⟨⟨k,b⟩,hkb,hk1,hx1⟩:=hmem;simp only at hk1 hx1;subst hk1;subst hx1;have hk:=h.keys _ hkb;simp only at hk;have E:tb[k]?=some tb[k]:=cX hk;have N:ls[k]?=some (ls[k]'(by rw[h.len];exact hk)):=cX _;generalize tb[k]=c at E;generalize (ls[k]'(by rw[h.len];exact hk))=l at N;have hcok:=h.ok c (zG E);have hlk:jc Y.ps k=some b:=Je h.map.nodup hkb;have hin:mV C k:=zF.2 ⟨_,r,rfl⟩;have hl':ls'[k]?=some l:=by rw[hI.l k c l E N,zC hin]
  have L:=hI.step E N hin;have hmF:(λq=>(Cut F U q\/U.size<q)/\¬Q q) Y.m:=by
   obtain⟨H,hH,hm⟩:=V.sep.get .mp;exact hH _ hm.1
  obtain⟨G,hG,hL,hGm,hput⟩:=V.xD hlk hl';have hbF:=hG b hL.1;have hbm:b≠Y.m:=λe=>hGm (e▸hL.1);have hbs:b≠U.size:=λe=>by
   subst e;rcases hbF.1 with A|A
   ·have:=A.2;omega
   ·omega
  have hblt:b<v'.size:=by obtain⟨_,_,s,hbk,_⟩:=hL;exact hbk.lt
  have hsz1:=ho.1;refine aG (V.hd.rS rfl (tn V.jC E (d:=2) O ?_));simp only[zB (show ¬(2=0) by omega),zB (show ¬(2=1) by omega)];refine hf hL hcok λs z v5 e5 hz hr hL5=>?_;have hs5:=e5.1;obtain⟨eF,h5⟩:=hput v5 _ (λq=>q=b\/z<=q) (e5.sub λq g=>by rw[g];exact hL.1) (λq g=>g.imp (λ(r:q=b)=>by rw[r];exact hL.1) λ(r:z<=q)=>O) hL5;have h5:=h5.cut;have eF5:Ext F U v5:=e1.dS eF λq g=>by
   rcases g.1 with A|A
   ·exact .inl A.1
   ·exact .inr (sC A)
  have hnb:∀q,Q q->q≠b:=λq g hqb=>hbF.2 (hqb▸g);have hrow5:=aI.bT hrow1 e5 λq _ g P=>hnb q g.1.1 P;have hB5:=(kv.loc _ _).bT hB1 e5 λq _ g P=>hnb q (hD q g.1) P;have hsl:s.len=(f c l).1.length:=by have:=hr.1;simp[WD]at this;omega
  have hsub':∀y∈C.filter (λy=>!(y.1==(k:Int))),y∈j2 Y.ps:=λy Z=>hsub y (zI.1 Z).1;have hnd':((C.filter λy=>!(y.1==(k:Int))).map (·.1)).Nodup:=hnd.sublist (List.filter_sublist.map _);by_cases hemp:(f c l).1=[]
  ·rw[zC hemp]at L;refine fV (by rw[hsl,hemp];simp) (hJ out v5 (e5.2 _ O λP=>hbs P.symm) (e5.2 _ V.map.lt λP=>hbm P.symm) ?_);refine⟨_,w,λq=>Q q/\q<v'.size,λq=>D q/\q<v'.size,ps,eF5,λq g=>hQ q g.1,h5.mono λq _ g=>?_,aI.mono hrow5 λq _ g=>⟨⟨g.1.1,g.2⟩,λhd=>g.1.2 hd.1⟩,hB5,λq g=>⟨hD q g.1,g.2⟩,L,hsub',hnd',S⟩;rcases g.1 with A|A|A
   ·exact⟨A.1.1,λr=>A.1.2 r.1⟩
   ·subst A;exact⟨hbF.1,λr=>hbF.2 r.1⟩
   ·exact⟨.inr O,λr=>O⟩
  ·rw[zB hemp]at L;have hpos:=qg.2 hemp;refine lV (by rw[hsl];omega) (nw (cs:=nV (k,s)) λv6 hz6 e6 hb6=>?_);have hrow6:=aI.bP hrow5 e6;have hB6:=(kv.loc _ _).bP hB5 e6;have hr6:=aI.bP (aI.cut hr) e6;have hpl:out.len=ps.length:=by have:=W.1;rw[Vb]at this;omega
   have hol:ps.length<=40:=by
    have B:w.map (·.1)⊆List.range 40:=λj S=>by
     obtain⟨x,r,rfl⟩:=zF.1 S;obtain⟨c,l,E,_⟩:=(hI.o x).1 r;have:=(cZ.1 E).1;exact zh.2 O
    have:=hI.n.length_le_of_subset B;rw[hB.1];simpa using this
   refine hrow6.app (ys:=nV (k,s)) rfl rfl ?_ (λv hv=>HQ (l:=[(k,s)]) v (by simpa[fF]using hv)) ?_ ?_ ng λs' v7 hl7 e7 hr7=>?_
   ·intro j u hu;rw[add_lit,zH,hb6.cell];exact hu
   ·simp only;have:(out.len+1)*32<=41*32:=mb O O;omega
   ·simp only;omega
   have hs7:=e7.1;have e57:Ext (λq=>(Q q/\¬D q)/\q<v'.size) v5 v7:=(bL.to e6).trans e7;refine hJ s' v7 ?_ ?_ ?_
   ·rw[e57.2 _ O λr=>by have:=hQ _ r.1.1;omega];exact e5.2 _ O λP=>hbs P.symm
   ·rw[e57.2 _ (by have:=V.map.lt;omega) λr=>hmF.2 r.1.1];exact e5.2 _ V.map.lt λP=>hbm P.symm
   refine⟨_,_,λq=>Q q/\q<v'.size\/(v'.size<=q/\q<z)\/v5.size<=q,λq=>D q/\q<v'.size\/(v'.size<=q/\q<z)/\q<v5.size,ps++[(k,s)],eF5.dS e57 λq g=>.inr (sC (hQ q g.1.1)),λq g=>?_,(eH.loc.bT h5 e57 λq hq5 g r=>?_).mono λq _ g=>?_,?_,⟨?_,λi p y K Z=>?_⟩,λq g=>?_,L,hsub',hnd',S.snoc hB1 (λx r=>by
    obtain⟨_,_,_,_,_,_,h2⟩:=(hI.o x).1 r;exact h2) hr.fX hemp (λb hb r Z=>by have:=r.2;have:=Z.1;omega) k⟩
   ·rcases g with g|g|g
    ·exact hQ q g.1
    ·omega
    ·omega
   ·rcases g.1 with A|A|A
    ·exact A.1.2 r.1.1
    ·exact hnb q r.1.1 A
    ·have:=r.2;omega
   ·have hq5:=g.2;rcases g.1 with A|A|A
    ·exact⟨A.1.1,λr=>by
      rcases r with r|r|r
      ·exact A.1.2 r.1
      ·have:=A.2.1;omega
      ·omega⟩
    ·subst A;exact⟨hbF.1,λr=>by
      rcases r with r|r|r
      ·exact hbF.2 r.1
      ·omega
      ·omega⟩
    ·exact⟨.inr O,λr=>by
      rcases r with r|r|r<;>omega⟩
   ·rw[Hc];have:fF [(k,s)]=nV (k,s):=by simp[fF]
    rw[this];refine aI.mono hr7 λq _ g=>?_;rcases g with g|g
    ·exact⟨.inl ⟨g.1.1,g.2⟩,λhd=>by
      rcases hd with hd|hd
      ·exact g.1.2 hd.1
      ·omega⟩
    ·exact⟨.inr (.inr O),λhd=>by
      rcases hd with hd|hd<;>omega⟩
   ·rw[zM,zM,hB.1];rfl
   ·rcases kb i ps.length with hi|hi
    ·rw[zd hi]at K;rw[zd (by rw[←hB.1];exact hi)]at Z;obtain⟨a1,a2,a3⟩:=hB6.2 i p y K Z;exact⟨a1,aH.mono (aH.bT a2 e7 λq _ g r=>r.1.2 g.1) λq _ g=>.inl g,a3⟩
    ·rw[zm hi]at K;rw[zm (by rw[←hB.1];exact hi)]at Z;have hi0:i-ps.length=0:=by
      have:=(cZ.1 K).1;simp at this;omega
     rw[hi0]at K;rw[show i-w.length=0 by rw[←hB.1];exact hi0]at Z;simp at K Z;subst K;subst Z;exact⟨rfl,aH.mono (aH.bT hr6.fX e7 λq _ g r=>by have:=r.2;have:=g.1;omega) λq _ g=>.inr g,bS.py hr⟩
   ·rcases g with g|g
    ·exact .inl ⟨hD q g.1,g.2⟩
    ·exact .inr (.inl g.1)
theorem φ (hso:GM)(h:eH U F Y tb bud ls){R:Sl->Hp->Prop}
 (hR:∀σ' s (Q:Rg),Ext F U σ'->(∀q,Q q->U.size<=q)->eH σ' (λq=>Grow F U q/\¬Q q) Y tb bud (Kr ZY tb ls)->iA s (Kx ZY tb ls) σ' Q->R s σ'):XZ.c (aW Y.p) U R:=by
 refine XZ.o ?_;unfold XZ.v;exact Fp hso Lt (λc _=>Pq c) h hR
theorem NL (hso:GM)(h:eH U F Y tb bud ls){R:Sl->Hp->Prop}
 (hR:∀σ' s (Q:Rg),Ext F U σ'->(∀q,Q q->U.size<=q)->eH σ' (λq=>Grow F U q/\¬Q q) Y tb bud (Kr Vk tb ls)->iA s (Kx Vk tb ls) σ' Q->R s σ'):Xm.c (aW Y.p) U R:=by
 refine Xm.o ?_;unfold Xm.v;exact Fp hso RZ SW h hR
end Go.Ar