/- Texts joined. -/
import Derived.Test.YteihenagckcobaaGreatDoorU3
set_option linter.unusedVariables false
set_option linter.unusedSimpArgs false
namespace Go.Vc
open Go
def wo (h:Hp)(it r:Nat):Nat:=
 match h[it]?,h[r]? with
 | some (.mapIter _ _ seen _),some (.map es _)=>(es.toList.filter λe=>!seen.contains e.born).length
 | _,_=>0
variable {U:Hp}{k:IntKind}{c:CK}{l todo:List (Int×c.T)}{cur:Option (Int×c.T)}{r it:Nat}
theorem It.num {h:Hp}(hi:It h it k c (some r) l todo cur):wo h it r=todo.length:=by
 obtain⟨u,e,a,g,b,p,s,i,j,d,m⟩:=hi;unfold wo;rw[g,b];have:=congrArg List.length d;simpa using this
theorem It.bS {h h':Hp}(hi:It h it k c (some r) l todo cur)(h1:h'[it]?=h[it]?)(h2:h'[r]?=h[r]?):It h' it k c (some r) l todo cur:=by
 obtain⟨i,d,b,e,g,a⟩:=hi;exact⟨i,d,b,h1.trans e,h2.trans g,a⟩
theorem An {A:aP}{body:Int->c.T->Hp->(Hp->Prop)->Prop}(hm:dH U r k c l)(I:List (Int×c.T)->Hp->Prop)
 (h0:∀v,v.size=U.size+1->bK U v->I l v)
 (hend:∀v,I [] v->A v)
 (hstep:∀todo n x v v' (J:aP),I todo v->(n,x)∈todo->Qq v v' U.size->U.size<v.size->(∀w,w[U.size]?=v'[U.size]?->w[r]?=v'[r]?->I (todo.filter λy=>!(y.1==n)) w->J w)->body n x v' J) :
 nL k c (some r) U λit v3=>X9 [] (λI=>I v3) λJ1 v4=>nO k c it v4 (A v4) λ_ _ v5=>nQ k c it v5 λkey1 val1=>body key1 val1 v5 J1:=by
 refine⟨l,hm,λv N L F=>?_⟩;have K:bK U v:=⟨O,λb j _=>L b j⟩;refine Ib (λw=>∃todo d,It w U.size k c (some r) l todo d/\I todo w/\U.size<w.size) (λw=>wo w U.size r) ⟨l,none,F,h0 v N K,O⟩ ?_;rintro w ⟨todo,d,g,C,s⟩;refine⟨rfl,some r,l,todo,d,g,λE=>?_,λn x B H G e=>?_⟩
 ·subst E;exact hend w C
 ·refine⟨rfl,some r,l,_,n,x,e,hstep todo n x w H _ C B G s λu p m i=>?_⟩;have a:=e.bS p m;refine⟨⟨_,_,a,i,?_⟩,?_⟩
  ·obtain⟨P,D,z,M,_⟩:=a;exact(zy.1 M).1
  ·rw[a.num,g.num];exact Ck.2 ⟨(n,x),B,by simp⟩
theorem sP {a:CK}{x0:a.T}{A:a.T->Hp->Prop}{body:Int->c.T->a.T->Hp->(a.T->Hp->Prop)->Prop}(hm:dH U r k c l)(I:List (Int×c.T)->a.T->Hp->Prop)
 (h0:∀v,v.size=U.size+1->bK U v->I l x0 v)
 (hend:∀z v,I [] z v->A z v)
 (hstep:∀todo n x z v v' (J:a.T->Hp->Prop),I todo z v->(n,x)∈todo->Qq v v' U.size->U.size<v.size->(∀z' w,w[U.size]?=v'[U.size]?->w[r]?=v'[r]?->I (todo.filter λy=>!(y.1==n)) z' w->J z' w)->body n x z v' J) :
 nL k c (some r) U λit v3=>X9 [a] (λI=>I x0 v3) λJ1 z v4=>nO k c it v4 (A z v4) λ_ _ v5=>nQ k c it v5 λkey1 val1=>body key1 val1 z v5 J1:=by
 refine⟨l,hm,λv Q N H=>?_⟩;have M:bK U v:=⟨O,λb m _=>N b m⟩;refine Z0 (a:=a) (λz w=>∃todo e,It w U.size k c (some r) l todo e/\I todo z w/\U.size<w.size) (λ_ w=>wo w U.size r) ⟨l,none,H,h0 v Q M,O⟩ ?_;rintro z w ⟨todo,e,i,E,B⟩;refine⟨rfl,some r,l,todo,e,i,λG=>?_,λn x D L K g=>?_⟩
 ·subst G;exact hend z w E
 ·refine⟨rfl,some r,l,_,n,x,g,hstep todo n x z w L _ E D K B λz' u s p j=>?_⟩;have d:=g.bS s p;refine⟨⟨_,_,d,j,?_⟩,?_⟩
  ·obtain⟨R,F,C,P,_⟩:=d;exact(zy.1 P).1
  ·rw[d.num,i.num];exact Ck.2 ⟨(n,x),D,by simp⟩
end Go.Vc
namespace Go.Ar
open Go Go.Vc Go.Proofs
open Go.Bu (Zb)
variable {U:Hp}{F:Rg}{p q r:Nat}{sp:Sp}{l:List (Int×Sl)}{B:Nat->Nat}
theorem ZU {α:Type}{l:List (Int×α)}(hn:(l.map (·.1)).Nodup){n:Int}{x:α}(h:(n,x)∈l):bV l n=some x:=by
 induction l with
 | nil=>simp at h
 | cons y l ih=>
  rw[Kd];simp only[zR,zt]at hn;rcases zW.1 h with h1|h1
  ·subst h1;rw[zC rfl]
  ·have:¬y.1=n:=λe=>hn.1 (zE.2 ⟨_,h1,e.symm⟩);rw[zB this];exact ih hn.2 h1
end Go.Ar
namespace Go.Bu
open Go Go.Vc Go.Proofs
variable {U:Hp}{p n sb:Nat}{S:Nat->Bool}{ms:List Nat}
def kx (ms:List Nat):List Value:=ms.map λm=>Value.map (some m)
structure Part (B:Nat) (h:Hp) (p n:Nat) (j:Nat) (s:Sl) (ms:List Nat):Prop where
 len:ms.length=j
 sl:s.len=j
 hd:bY h p [.int .i64 n,.slice s.a s.len s.cap]
 own:Go.Vc.Own (λb=>B<=b/\b≠p/\b∉ms) h s 1 (kx ms)
 new:∀m∈ms,B<=m/\m≠p/\m<h.size
 nd:ms.Nodup
theorem Part.done {B:Nat}{h:Hp}{j:Nat}{s:Sl}(hp:Part B h p n j s ms)(hB:B<=p)(hj:0<j)(n1:1<=n)(n2:n<=1024)(lo:2^j<=2*n)(hi:n<2^j)(jq:Bounded S n)
 (maps:∀k m,ms[k]?=some m->∃B:List (Int×Bool),dH h m .i64 .b B/\Keys S k B):∃sb,BH h p n S sb ms/\∀b,fp p sb ms b->B<=b:=by
 rcases hp.own.2 with⟨_,hl,_⟩|⟨sb,cs,⟨hq,hqp,hqm⟩,ha,hb,hle,hcl,ht⟩
 ·have:=hp.sl;omega
 ·refine⟨sb,⟨?_,?_,maps,?_,n1,n2,?_,?_,jq⟩,?_⟩
  ·refine⟨s.cap,?_⟩;have:=hp.hd;rw[ha,hp.sl,←hp.len]at this;exact this
  ·refine⟨cs.drop (kx ms).length,?_⟩;have:kx ms++cs.drop (kx ms).length=cs:=by
    conv=>lhs;lhs;rw[←ht]
    exact nU _ _
   show bY h sb (kx ms++_);rw[this];exact hb
  ·simp only[zt,zW,not_or];exact⟨⟨λe=>hqp e.symm,λa=>(hp.new p a).2.1 rfl⟩,hqm,hp.nd⟩
  ·rw[hp.len];exact lo
  ·rw[hp.len];exact hi
  ·intro b hb;simp only[fp,zW]at hb;rcases hb with rfl|rfl|h
   ·exact hB
   ·exact hq
   ·exact(hp.new b h).1
theorem Part.Sk {B:Nat}{h:Hp}{j:Nat}{s:Sl}(hp:Part B h p n j s ms):cell h ⟨p,1,none⟩=some (.slice s.a s.len s.cap):=by rw[hp.hd.cell];rfl
theorem Part.bO {B:Nat}{h h':Hp}{j:Nat}{s:Sl}(hp:Part B h p n j s ms)(e:bK h h'):Part B h' p n j s ms:=
 ⟨hp.len,hp.sl,e.bT hp.hd id,hp.own.bO e,λm a=>⟨(hp.new m a).1,(hp.new m a).2.1,uP (hp.new m a).2.2 e.1⟩,hp.nd⟩
theorem Part.step {B:Nat}{h:Hp}{j m e t bytes:Nat}{s:Sl}{zs:List Value}{K:Sl->Hp->Prop}(hp:Part B h p n j s ms)(hj:j<=1000)(hbt:bytes<=1000)(hz:zs.length=1)(hm:B<=m)(hmp:m≠p)(hml:m<h.size)(hmn:m∉ms)(hms:¬UX s m)
 (hpB:p<h.size) (hBh:B<=h.size)
 (hgo:∀s' h',Ext (UX s) h h'->s'.len=j+1->bY h' p [.int .i64 n,.slice s.a s.len s.cap] →
  (∀h2,Qq h' h2 p->bY h2 p [.int .i64 n,.slice s'.a s'.len s'.cap]->Part B h2 p n (j+1) s' (ms++[m]))->K s' h') :
 App s 1 bytes e zs ⟨some ⟨h.size,0,none⟩,1,1⟩ (h.push (.cells #[.map (some m)] t (0,0))) K:=by
 have E:=hp.sl;have y:Go.Vc.Own (λb=>B<=b/\b≠p/\b∉ms++[m]) (h.push (.cells #[.map (some m)] t (0,0))) s 1 (kx ms):=by
  have d:=hp.own;have h2:Go.Vc.Own (λb=>B<=b/\b≠p/\b∉ms++[m]) h s 1 (kx ms):=by
   refine⟨d.1,d.2.imp id ?_⟩;rintro⟨b,cs,⟨q1,q2,q3⟩,ha,r⟩;refine⟨b,cs,⟨q1,q2,?_⟩,ha,r⟩;simp only[zK,zN,not_or];exact⟨q3,λe=>hms ⟨0,by rw[ha,e]⟩⟩
  exact h2.bO (Hh _ _)
 have D:(h.push (.cells #[.map (some m)] t (0,0))).size=h.size+1:=by simp
 refine y.app (ys:=[.map (some m)]) ?_ hz rfl MH (by simp[dN]) ?_ ?_ mO λs' h' z L M H=>?_
 ·intro b i;rw[D]at i;refine⟨O,O,?_⟩;simp only[zK,zN,not_or];exact⟨λu=>by have:=(hp.new b u).2.2;omega,O⟩
 ·simp only;have:(s.len+1)*bytes<=1001*1000:=l0 O hbt;omega
 ·simp only;omega
 ·simp only at z;have g:Ext (UX s) h h':=(Hh h _).to.trans L;have C:¬UX s p:=λi=>(hp.own.jj i).1.2.1 rfl;refine hgo s' h' g O (g.bT hp.hd C) λh2 w A=>⟨by simp[hp.len],O,A,?_,?_,?_⟩
  ·have:kx (ms++[m])=kx ms++[.map (some m)]:=by simp[kx]
   rw[this];exact M.bS (Ext.eJ (F:=(· = p)) w rfl) (λb J _ G=>J.2.1 G)
  ·intro x hx;have N:h2.size=h'.size:=w.1;have:=g.1;rcases zK.1 hx with d|d
   ·have:=hp.new x d;exact⟨this.1,this.2.1,O⟩
   ·simp at d;subst d;exact⟨hm,hmp,O⟩
  ·rw[nJ];refine⟨hp.nd,by simp,?_⟩;intro a ha b i;simp at i;subst i;rintro rfl;exact hmn ha
def iu:Nat->Bool:=λ_=>false
theorem O4 (k:Nat):Keys iu k []:=by
 refine⟨by simp,λq a=>?_⟩;have:=VX a (Ky k q);simp[iu]at this
theorem tO (aF:Int){R:Option Addr->Int->Hp->Prop}(hbad:¬(1<=aF/\aF<=1024)->R none 1 U)
 (hR:∀(n:Nat),aF=(n:Int)->1<=n->n<=1024->∀σ' sb ms,bK U σ'->BH σ' U.size n iu sb ms->(∀b,fp U.size sb ms b->U.size<=b)->R (some ⟨U.size,0,none⟩) 0 σ'):QO.c aF U R:=by
 refine QO.o ?_;unfold QO.v;refine bW.intro (cQ (λg=>cD rfl (hbad O)) λg=>?_);refine cQ (λh2=>hbad O) λh2=>?_;obtain⟨n,rfl⟩:=zc (show 0<=aF by omega);have M:1<=n:=by omega
 have N:n<=1024:=by omega
 unfold Nw;have e0:=Hh U (.cells #[.int .i64 (n:Int),.slice none 0 0] 52 (0,0));refine Z0 (a:=bN) (λt h=>∃(j:Nat) (s:Sl) (ms:List Nat),t=((2^j:Nat):Int)/\2^j<=2*n/\bK U h/\U.size<h.size/\Part U.size h U.size n j s ms/\∀m∈ms,dH h m .i64 .b []) (λt _=>2*n+1-t.toNat)
  ⟨0,⟨none,0,0⟩,[],rfl,by simp;omega,Ext.push _ _ _,by simp,⟨rfl,rfl,bY.push _ _ _,Own.nil _ _ _,by simp,by simp⟩,by simp⟩ ?_
 rintro t h ⟨j,s,ms,rfl,J,L,ac,d,y⟩;have hj:j<=11:=by
  apply Classical.byContradiction;intro hc;have:2^12<=2^j:=pj aB O;omega
 have P:=kD j;refine cQ (λaa=>?_) (λB=>?_)
 ·refine aG ?_;rw[add_lit,zH];refine nH d.Sk ?_;have e1:=Hh h (.map #[] 0);have ab:(h.push (.map #[] 0)).size=h.size+1:=by simp
  have A:=d.bO e1;refine A.step (m:=h.size) O O rfl O O O (λw=>by have:=(d.new _ w).2.2;omega) (λr=>by have:=(d.own.jj r).2;omega) O O λX h' E hl r u=>?_;refine aG (r.M8 aA λh2 z C=>?_);have K:=u h2 z C;have G:bK U h2:=by
   refine Ext.fresh (Ext.fresh (L.trans e1) E λi H=>(d.own.jj H).1.1) (Ext.eJ (F:=(· = U.size)) z rfl) λi H=>?_;rw[H];exact zD _
  refine cP (m:=2^(j+1)) (by rw[mb];omega) (by rw[mb];omega) ⟨⟨j+1,X,ms++[h.size],rfl,by rw[mb];omega,G,?_,K,?_⟩,by rw[mb];omega⟩
  ·have:=z.1;have:=E.1;omega
  ·intro m w;have G2:∀{m:Nat},dH (h.push (.map #[] 0)) m .i64 .b []->¬UX s m->m≠U.size->dH h2 m .i64 .b []:=λW Q D=>U0 z (E.fO W Q) D;rcases zK.1 w with g|g
   ·exact G2 (e1.fO (y m g) id) (λr=>(d.own.jj r).1.2.2 g) (d.new m g).2.1
   ·simp at g;subst g;exact G2 (dH.push _ _ _) (λr=>by have:=(d.own.jj r).2;omega) O
 ·have p:0<j:=by
   rcases AY j with e|e
   ·subst e;simp at B;omega
   ·exact e
  obtain⟨sb,V,Z⟩:=d.done (S:=iu) (zD _) p M N J O (λx Y=>by simp[iu]at Y) λk m w=>⟨[],y m (zG w),O4 k⟩;exact hR n rfl M N h sb ms L V Z
end Go.Bu
namespace Go.Proofs
open Go.Vc
set_option maxRecDepth 100000
def W4.h:Hn:=.q .o1 (.q (.cS (.seq [.op,.op,.op,.cX true 5 (RI.ops 5),.op])) .l)
def W4.v (a:R2)(b:Hp)(c:aO):Prop:=bW (λd e=>c d e) λf=>If (!a.isNone) (bF a 1 b λh=>f (!h.isNone) b) (f false b)
theorem W4.o {a b c}(d:W4.v a b c):W4.c a b c:=Wa Tryz.func111 (x:=W4.h) (R0 d)
def QQ.h:Hn:=.q .o2 (.q (.q .o3 .aJ) (.q .o3 (.q (.q (.cS (.seq [.op,.op,.op,.cX false 3 (RI.ops 3),.op,.cX false 2 [.op,.op],.op,.cX false 2 [.op,.op]])) .aJ) (.q .o8 (.q .o9 (.q .o9 (.q (.q .o3 (.k (.loop [(61,.I)] (.q .o1 (.q (.c .l .l) (.q (.k (.q .o4 (.q .o7 (.q .o9 (.cS (.ib true [18,21] [] (.tk [0,1,2,3,4,5,6,9,10,11,12,13] (.all [(7,.all [(8,.all [(14,.all [(15,.take 16 (.take 17 (.all [(18,.take 19 (.take 20 (.all [(21,.done)])))])))])]),(14,.all [(8,.all [(15,.take 16 (.take 17 (.all [(18,.take 19 (.take 20 (.all [(21,.done)])))])))])])]),(14,.all [(7,.all [(8,.all [(15,.take 16 (.take 17 (.all [(18,.take 19 (.take 20 (.all [(21,.done)])))])))])])])])))))))) .o2)))))) (.q .o3 .l))))))))
def QQ.v (a:Sl)(b:R2)(c:Int)(d:Hp)(e:Option Addr->Int->Hp->Prop):Prop:=Zv.c a d λf g=>If (!f) (e none 2 g) (XA.c b g λh i=>bW (λj k=>bW (λl m=>bW (λn o=>If n (e none 1 o) (Wi.c a o λp q=>Z8.c q λr s=>Nw (.map #[] 0) s λt u=>aV #[.slice p.a p.len p.cap,.pointer b,.pointer none,.pointer none,.pointer r,.slice none 0 0,.slice none 0 0,.map (some t.block)] 179 u λv w=>QO.c h w λx y z=>bU (some v) λaa=>aR aa 2 (.pointer x) z λab=>Kt.c h ab λac ad ae=>bU (some v) λaf=>aR af 3 (.pointer ac) ae λag=>X9 [bN] (λah=>ah 0 ag) λai (aj:Int) ak=>If (aj<((a.len:Nat):Int)) (Ix a.a a.len aj 3 λal=>aQ al 0 ak λam=>aQ al 1 ak λan=>aQ al 2 ak λao=>aV #[.I 0,.I 0,.I 0] 137 ak λap aq=>aR ap 0 (.I am) aq λar=>aR ap 1 (.I an) ar λau=>aR ap 2 (.I ao) au λav=>aQ ap 0 av λaw=>aQ ap 1 av λax=>aQ ap 2 av λay=>Z7.c aw ax ay av λaz a0 a1=>aQ ap 2 a1 λa2=>ZM.c a2 c a1 λa3 a4 a5=>Jn [] (λa6=>bL (aj+1) λa7=>ai a7 a6) λa8=>eN a5 λa9=>bU (some v) λba=>aT a9 ba 5 λbb=>bU (some v) λbc=>aT a9 bc 6 λbd=>(aV #[.pointer az] 182 a5 λbe bf=>And (a9 bf) <| (App bb 1 8 182 [.pointer none] ⟨some be,1,1⟩ bf λbg bh=>And (a9 bh) <| aV #[.pointer a3] 184 bh λbi bj=>And (a9 bj) <| App bd 1 8 184 [.pointer none] ⟨some bi,1,1⟩ bj λbk bl=>And (a9 bl) <|
 bU (some v) λbm=>aR bm 5 (.slice bg.a bg.len bg.cap) bl λbn=>bU (some v) λbo=>aR bo 6 (.slice bk.a bk.len bk.cap) bn λbp=>a8 bp) ∧ (aV #[.pointer a3] 184 bf λbq br=>And (a9 br) <| App bb 1 8 182 [.pointer none] ⟨some be,1,1⟩ br λbs bt=>And (a9 bt) <| App bd 1 8 184 [.pointer none] ⟨some bq,1,1⟩ bt λbu bv=>And (a9 bv) <| bU (some v) λbw=>aR bw 5 (.slice bs.a bs.len bs.cap) bv λbx=>bU (some v) λbz=>aR bz 6 (.slice bu.a bu.len bu.cap) bx λb0=>a8 b0)) ∧ (aV #[.pointer a3] 184 a5 λb1 b2=>And (a9 b2) <| aV #[.pointer az] 182 b2 λb3 b4=>And (a9 b4) <| App bb 1 8 182 [.pointer none] ⟨some b3,1,1⟩ b4 λb5 b6=>And (a9 b6) <| App bd 1 8 184 [.pointer none] ⟨some b1,1,1⟩ b6 λb7 b8=>And (a9 b8) <| bU (some v) λb9=>aR b9 5 (.slice b5.a b5.len b5.cap) b8 λca=>bU (some v) λcb=>aR cb 6 (.slice b7.a b7.len b7.cap) ca λcc=>a8 cc)) (e (some v) 0 ak))) λcd=>If l (cd true m) (cd (decide (c>8)) m)) λce=>If j (ce true k) (ce (decide (c<0)) k)) λcf=>If (h<32) (cf true i) (Nz 16 <| cf ((h.tmod 16) != 0) i))
theorem QQ.o {a b c d e}(f:QQ.v a b c d e):QQ.c a b c d e:=Wa Tryz.func143 (x:=QQ.h) (R0 f)
def WA.h:Hn:=.q .o2 (.q (.q .o4 (.q .o2 (.c (.q .o3 .l) .l))) (.q (.o 12) .l))
def WA.v (a:R2)(b:Int)(c:Hp)(d:Sl->Int->Hp->Prop):Prop:=WR.c a b c λe f=>If (e != 0) (d ⟨none,0,0⟩ e f) (bE a 6 f λh=>Ix h.a h.len b 1 λi=>fW i f λj=>Wz.c j f λk l m=>d k l m)
theorem WA.o {a b c d}(e:WA.v a b c d):WA.c a b c d:=Wa Tryz.func150 (x:=WA.h) (R0 e)
def WB.h:Hn:=.q .o2 (.q (.q .o4 (.q .o2 (.c (.q .o3 .l) .l))) (.q (.o 13) .l))
def WB.v (a:R2)(b c:Int)(d:Hp)(e:Sl->Int->Hp->Prop):Prop:=WR.c a b d λf g=>If (f != 0) (e ⟨none,0,0⟩ f g) (bE a 5 g λi=>Ix i.a i.len b 1 λj=>fW j g λk=>W0.c k c g λl m n=>e l m n)
theorem WB.o {a b c d e}(f:WB.v a b c d e):WB.c a b c d e:=Wa Tryz.func152 (x:=WB.h) (R0 f)
def XQ.h:Hn:=.q .o1 (.q (.q .o4 (.q .o2 .aJ)) (.q (.o 17) (.q (.q .o2 .aJ) (.q .gH .l))))
def XQ.v (a:R2)(b:Int)(c:Hp)(d:aN):Prop:=WR.c a b c λe f=>If (e != 0) (d e f) (bE a 0 f λh=>Ix h.a h.len b 3 λi=>aQ i 1 f λj=>bL (b+1) λk=>Yz.c a j 1 k f λl m n=>If (m != 0) (d m n) (bE a 5 n λp=>Ix p.a p.len b 1 λq=>fW q n λr=>YO.c r l n λs t=>d s t))
theorem XQ.o {a b c d}(e:XQ.v a b c d):XQ.c a b c d:=Wa Tryz.func153 (x:=XQ.h) (R0 e)
def WN.h:Hn:=.q .o2 (.q (.k (.q .o4 (.c .aL (.q (.cS (.seq [.op,.op,.op,.cX false 2 [.op,.op],.op,.cX false 2 [.op,.op],.op,.cX false 2 [.op,.op],.op,.cX false 5 (RI.ops 5),.op])) .aJ)))) (.q .o9 (.q (.q .o2 (.c (.q .o3 .l) .l)) (.q .o7 (.q .o3 .l)))))
def WN.v (a:R2)(b c:Int)(d:Hp)(e:Int->Int->Hp->Prop):Prop:=W4.c a d λf g=>If (!f) (e 0 5 g) (bW (λh i=>bW (λj k=>bW (λl m=>bW (λn o=>If n (e 0 1 o) (Yz.c a b c 41 o λp q r=>If (q != 0) (e 0 q r) (bI a 7 r λt=>kv .i64 bN t p b r λu=>e p 0 u))) λv=>If l (v true m) (bL (c-1) λw=>v ((bits .and .i64 c w) != 0) m)) λx=>If j (x true k) (x (decide (c>16)) k)) λy=>If h (y true i) (y (decide (c<1)) i)) λz=>If (b<1) (z true g) (z (decide (b>64)) g))
theorem WN.o {a b c d e}(f:WN.v a b c d e):WN.c a b c d e:=Wa Tryz.func155 (x:=WN.h) (R0 f)
def WK.h:Hn:=.q .o1 (.q (.q .o3 .aK) (.q (.o 11) (.q (.q .o2 .aK) (.q .o6 (.q .o6 .aM)))))
def WK.v (a:R2)(b:Int)(c:Hp)(d:aN):Prop:=W4.c a c λe f=>If (!e) (d 5 f) (bI a 7 f λh=>Lk .i64 bN h b f λi=>If (!i.isSome) (d 8 f) (bI a 7 f λk=>lz .i64 bN k b f λl=>aV #[.I b,.I (i.getD 0)] 251 l λm n=>XO.c a ⟨some m,1,1⟩ n λo=>d 0 o))
theorem WK.o {a b c d}(e:WK.v a b c d):WK.c a b c d:=Wa Tryz.func163 (x:=WK.h) (R0 e)
def XO.h:Hn:=.q .o3 (.k (.loop [(8,.I)] (.q .o1 (.q (.c .l .l) (.q (.k (.q .o4 (.q (.cS (.tail 8 (RI.ops 8) [.op])) (.q (.cS (.tail 8 (RI.ops 8) [.op])) (.cS (.tail 8 (RI.ops 8) [.op])))))) .o2)))))
def XO.v (a:R2)(b:Sl)(c:Hp)(d:aP):Prop:=X9 [bN] (λe=>e 0 c) λf (g:Int) h=>If (g<((b.len:Nat):Int)) (Ix b.a b.len g 2 λi=>aQ i 0 h λj=>aQ i 1 h λk=>aV #[.I 0,.I 0] 251 h λl m=>aR l 0 (.I j) m λn=>aR l 1 (.I k) n λo=>bF a 4 o λq=>aQ l 0 o λr=>aQ l 1 o λs=>XD.c q r s o λt u=>bF a 3 u λw=>aQ l 0 u λx=>aQ l 1 u λy=>Xm.c w x y u λz aa=>bF a 2 aa λac=>aQ l 0 aa λad=>aQ l 1 aa λae=>XV.c ac ad ae aa λaf ag=>bL (g+1) λah=>f ah ag) (d h)
theorem XO.o {a b c d}(e:XO.v a b c d):XO.c a b c d:=Wa Tryz.func165 (x:=XO.h) (R0 e)
def WL.h:Hn:=.q .o1 (.q (.q .o4 (.q .o2 .aJ)) (.q (.o 14) (.q (.q .o2 .aJ) (.q .o3 .aM))))
def WL.v (a:R2)(b:Int)(c:Sl)(d:Hp)(e:aN):Prop:=WR.c a b d λf g=>If (f != 0) (e f g) (bE a 5 g λi=>Ix i.a i.len b 1 λj=>fW j g λk=>YH.c k c g λl m n=>If (m != 0) (e m n) (XO.c a l n λo=>e 0 o))
theorem WL.o {a b c d e}(f:WL.v a b c d e):WL.c a b c d e:=Wa Tryz.func175 (x:=WL.h) (R0 f)
def WR.h:Hn:=.q .o1 (.q (.k (.q .o4 (.c .aM (.q (.cS (.seq [.op,.op,.op,.cX false 7 (RI.ops 7),.op])) .aK)))) .aM)
def WR.v (a:R2)(b:Int)(c:Hp)(d:aN):Prop:=W4.c a c λe f=>If (!e) (d 5 f) (bW (λg h=>If g (d 1 h) (d 0 h)) λi=>If (b<0) (i true f) (bE a 0 f λk=>i (decide (b≥((k.len:Nat):Int))) f))
theorem WR.o {a b c d}(e:WR.v a b c d):WR.c a b c d:=Wa Tryz.func206 (x:=WR.h) (R0 e)
def Yz.h:Hn:=.q .o2 (.q (.o 12) (.j8 [(10,.I),(11,.I)] (.q .o2 (.c (.q .o1 (.q (.k (.loop [(12,.I)] (.q (.q .o5 (.c .l .l)) (.k .o3)))) (.q (.q .o4 .aJ) (.o 12)))) .l)) (.q (.q .o2 (.c (.q .o3 .l) .l)) (.q .o7 (.q .o8 (.q .o3 .l))))))
def Yz.v (a:R2)(b c d:Int)(e:Hp)(f:Int->Int->Hp->Prop):Prop:=bF a 2 e λh=>XB.c h b c e λi j k=>Jn [bN,bN] (λ(l:Int) (m:Int) n=>If (m != 0) (f 0 m n) (bF a 3 n λp=>Xu.c p l b n λq r=>bF a 4 r λt=>XP.c t l b d r λu v=>f l 0 v)) λw=>If (j==6) (X9 [bN] (λx=>x 16 k) λy (z:Int) aa=>If (z<(if c>b then c else b)) (bL (z*2) λab=>y ab aa) (YB.c a z aa λac ad=>If (!ac) (f 0 6 ad) (bF a 2 ad λaf=>XB.c af b c ad λag ah ai=>w ag ah ai))) (w i j k)
theorem Yz.o {a b c d e f}(g:Yz.v a b c d e f):Yz.c a b c d e f:=Wa Tryz.func209 (x:=Yz.h) (R0 g)
def YA.h:Hn:=.q .o3 (.q (.q .o3 (.c (.q .o3 .l) .l)) (.q (.q .o2 (.c (.q .o3 .l) .l)) (.q .o8 (.q (.q .o2 (.c (.q .o3 .l) .l)) (.j8 [] (.q .o2 (.c (.q .o5 (.k (.loop [] (.q (.cS (.seq [.it .i64 bN,.op])) (.q (.c .l .l) (.k (.q (.cS (.seq [.it .i64 bN,.op,.op,.op,.op])) (.q .o3 (.q (.cS (.seq [.op,.op,.op,.op,.cX true 5 (RI.ops 5)])) (.c (.q .o5 .l) .l)))))))))) .l)) (.q (.o 15) (.q (.q .o2 (.c (.q .o4 .l) .l)) (.q .o6 .l))))))))
def YA.v (a:R2)(b:Int)(c:Hp)(d:Int->Int->Int->Hp->Prop):Prop:=W4.c a c λe f=>If (!e) (d 0 0 5 f) (If (b<0) (d 0 0 8 f) (bF a 4 f λh=>Nz 256<|bL (b.tdiv 256) λi=>Y7.c h i f λj k=>If (j==0) (d 0 0 8 k) (Jn [] (λl=>bE a 5 l λn=>bL (j-1) λo=>Ix n.a n.len o 1 λp=>fW p l λq=>Yd.c q b l λr s t=>If (s != 0) (d 0 0 s t) (bL (j-1) λu=>d u r 0 t)) λv=>If (j==41) (bI a 7 k λx=>nL .i64 bN x k λy z=>X9 [] (λaa=>aa z) λab ac=>nO .i64 bN y ac (v ac) (λad ae af=>nQ .i64 bN y af λag ah=>Nz 256<|bL (b.tdiv 256) λai=>bW (λaj ak=>If aj (bL (ag*256) λal=>d (-1) al 0 ak) (ab ak)) λam=>If (ag<=ai) (bL (ag+ah) λan=>am (decide (ai<an)) af) (am false af))) (v k))))
theorem YA.o {a b c d}(e:YA.v a b c d):YA.c a b c d:=Wa Tryz.func213 (x:=YA.h) (R0 e)
def WF.h:Hn:=.q .o2 (.q (.q .o4 (.q .o2 (.c (.q .o3 .l) .l))) (.q (.q (.o 11) .aJ) (.q (.q .o3 (.k (.loop [(32,.I)] (.q .o1 (.q (.c .l .l) (.q (.k (.q .o3 (.q (.o 14) (.q (.cS (.seq [.op,.op,.op,.cX false 2 [.op,.op]])) .aJ)))) .o2)))))) (.q (.o 13) .l))))
def WF.v (a:R2)(b:Int)(c:Sl)(d:Hp)(e:Bool->Int->Hp->Prop):Prop:=WR.c a b d λf g=>If (f != 0) (e false f g) (bE a 0 g λi=>Ix i.a i.len b 3 λj=>aQ j 2 g λk=>If (((c.len:Nat):Int) != k) (e false 1 g) (X9 [bN] (λl=>l 0 g) λm (n:Int) o=>If (n<((c.len:Nat):Int)) (Ix c.a c.len n 1 λp=>bM p o λq=>bE a 5 o λs=>Ix s.a s.len b 1 λt=>fW t o λu=>WY.c u q o λv w x=>bW (λy z=>If y (e false 8 z) (bL (n+1) λaa=>m aa z)) λab=>If (w != 0) (ab true x) (ab (!v) x)) (bE a 6 o λad=>Ix ad.a ad.len b 1 λae=>fW ae o λaf=>WZ.c af c o λag ah ai=>e ag ah ai)))
theorem WF.o {a b c d e}(f:WF.v a b c d e):WF.c a b c d e:=Wa Tryz.func217 (x:=WF.h) (R0 f)
def YM.h:Hn:=.q .o1 (.q (.cS (.seq [.op,.op,.op,.cX true 7 (RI.ops 7),.op])) .l)
def YM.v (a:R2)(b:Int)(c:Hp)(d:aO):Prop:=W4.c a c λe f=>bW (λg h=>d g h) λi=>If e (bF a 3 f λk=>XL.c k b f λl m=>i (decide (l>0)) m) (i false f)
theorem YM.o {a b c d}(e:YM.v a b c d):YM.c a b c d:=Wa Tryz.func251 (x:=YM.h) (R0 e)
def YB.h:Hn:=.q .o1 (.q (.q .o2 (.k (.loop [(5,.I)] (.q (.q .o9 (.c .l .l)) (.q (.k (.q (.q .o8 (.c .l .l)) (.q (.q .o3 (.k (.loop [(6,.I)] (.q (.q .o6 (.c .l .l)) (.q (.k .o6) .o3))))) (.q .o7 .aM)))) .o4))))) .aM)
def YB.v (a:R2)(b:Int)(c:Hp)(d:aO):Prop:=X9 [bN] (λe=>e b c) λf (g:Int) h=>bL (g+b) λi=>bF a 1 h λk=>XA.c k h λl m=>If (i<=l) (bF a 1 m λo=>YZ.c o g b m λp q=>If (p != 0) (bL (g+b) λr=>f r q) (Nz 16<|bL (g.tdiv 16) λs=>X9 [bN] (λt=>t s q) λu (v:Int) w=>bL (g+b) λx=>Nz 16<|bL (x.tdiv 16) λy=>If (v<y) (bF a 3 w λaa=>X1.c aa v w λab ac=>bL (v+1) λad=>u ad ac) (bF a 2 w λaf=>XV.c af g b w λag ah=>d true ah))) (d false m)
theorem YB.o {a b c d}(e:YB.v a b c d):YB.c a b c d:=Wa Tryz.func254 (x:=YB.h) (R0 e)
end Go.Proofs
namespace Go.Ar
open Go Go.Vc Go.Proofs
open Go.Bu (Zb QB Y8)
inductive Lb where
 | hd|dD|free|nW|own|dO|cN|runs
 | cE (k:Nat)
 | cM (k:Nat)
 deriving DecidableEq
structure Lay where
 p:Nat
 hs:Nat
 fr:Nat
 tr:Nat
 op:Nat
 rn:Nat
 dD:Sl
 dO:Sl
 cN:Sl
 fG:List Nat
 fU:List Nat
def kK (Y:Lay):List Value:=[.slice Y.dD.a Y.dD.len Y.dD.cap,.pointer (some ⟨Y.hs,0,none⟩),.pointer (some ⟨Y.fr,0,none⟩),.pointer (some ⟨Y.tr,0,none⟩),.pointer (some ⟨Y.op,0,none⟩),.slice Y.dO.a Y.dO.len Y.dO.cap,.slice Y.cN.a Y.cN.len Y.cN.cap,.map (some Y.rn)]
def fZ (tb:List bZ):List Value:=tb.flatMap λc=>[.int .i64 (c.size:Int),.int .i64 (c.aF:Int),.int .i64 (c.batch:Int)]
def fI (l:List Nat):List Value:=l.map λb=>.pointer (some ⟨b,0,none⟩)
def iJ (l:List (Nat×Nat)):List (Int×Int):=l.map λr=>((r.1:Int),(r.2:Int))
def sU (p n:Nat)(S:Nat->Bool):Hp->Rg->Prop:=λU F=>∃sb ms,Go.Bu.BH U p n S sb ms/\∀b,Go.Bu.fp p sb ms b->F b
def mc (p:Nat)(st:List Nat):Hp->Rg->Prop:=λU F=>∃q,ij U p q st/\F p/\F q
def j2 (p:Option Nat)(c:Option bZ)(ss:Option (List cF)):Hp->Rg->Prop:=λU F=>match p,c,ss with
 | some p,some c,some ss=>∃ps,fB U F p c ps ss
 | _,_,_=>True
def kZ (p:Option Nat)(c:Option bZ)(room:Nat)(t:Option gF):Hp->Rg->Prop:=λU F=>match p,c,t with
 | some p,some c,some t=>jr U F p c.batch room t
 | _,_,_=>True
def AC (A:AR)(Y:Lay)(T:Nat->Hp->Rg->Prop):Lb->Hp->Rg->Prop
 | .hd=>iw Y.p (kK Y)
 | .dD=>cV Y.dD 3 (fZ A.tb)
 | .free=>sU Y.fr A.n A.S
 | .nW=>mc Y.tr A.st
 | .own=>λU F=>jb U F Y.op A.ow
 | .dO=>bR Y.dO 1 (fI Y.fG)
 | .cN=>bR Y.cN 1 (fI Y.fU)
 | .runs=>jB Y.rn .i64 bN (iJ A.runs)
 | .cE k=>j2 Y.fG[k]? A.tb[k]? A.cE[k]?
 | .cM k=>T k
def cK (A:AR)(Y:Lay)(k:Nat):Hp->Rg->Prop:=kZ Y.fU[k]? A.tb[k]? A.room A.cM[k]?
theorem sU.loc (p n:Nat)(S:Nat->Bool):dM (sU p n S):=by
 rintro U σ' F G ⟨d,i,h,r⟩ y s;have m:∀b,Go.Bu.fp p d i b->b<U.size:=λb a=>by
  unfold Go.Bu.fp at a;rcases zW.1 a with h1|h1
  ·obtain⟨c,j⟩:=h.hd;rw[h1];exact j.lt
  rcases zW.1 h1 with h2|h2
  ·obtain⟨c,j⟩:=h.row;rw[h2];exact j.lt
  ·obtain⟨k,x⟩:=zQ h2;obtain⟨B,u,_⟩:=h.maps k b x;exact u.lt
 have e:Ext (λb=>¬Go.Bu.fp p d i b) U σ':=⟨y,λb a g=>(s b a (r b (Classical.not_not.1 g))).2⟩;exact⟨d,i,h.bS e λb a w=>w a,λb a=>(s b (m b a) (r b a)).1⟩
theorem mc.loc (p:Nat)(st:List Nat):dM (mc p st):=by
 rintro U σ' F G ⟨q,h,j,i⟩ r a;have e:Ext (λb=>b≠p/\b≠q) U σ':=⟨r,λb m s=>by
  by_cases h1:b=p
  ·subst h1;exact(a b m j).2
  ·have d:b=q:=Classical.byContradiction λd=>s ⟨h1,d⟩;subst d;exact(a b m i).2⟩
 exact⟨q,h.bS e (λg=>g.1 rfl) (λg=>g.2 rfl),(a p h.lt.1 j).1,(a q h.lt.2 i).1⟩
theorem j2.loc (p:Option Nat)(c:Option bZ)(ss:Option (List cF)):dM (j2 p c ss):=by
 rintro U e F G h d b;unfold j2 at *;split
 ·simp only at h;obtain⟨a,h⟩:=h;exact⟨a,fB.loc _ _ _ _ h d b⟩
 ·trivial
theorem kZ.loc (p:Option Nat)(c:Option bZ)(room:Nat)(t:Option gF):dM (kZ p c room t):=by
 rintro U d F G h b a;unfold kZ at *;split
 ·exact jr.loc _ _ _ _ h b a
 ·trivial
theorem AC.loc {A:AR}{Y:Lay}{T:Nat->Hp->Rg->Prop}(hT:∀k,dM (T k)):∀i,dM (AC A Y T i)
 | .hd=>iw.loc _ _
 | .dD=>cV.loc _ _ _
 | .free=>sU.loc _ _ _
 | .nW=>mc.loc _ _
 | .own=>jb.loc
 | .dO=>bR.loc _ _ _
 | .cN=>bR.loc _ _ _
 | .runs=>jB.loc _ _ _ _
 | .cE k=>j2.loc _ _ _
 | .cM k=>hT k
theorem cK.loc {A:AR}{Y:Lay}(k:Nat):dM (cK A Y k):=kZ.loc _ _ _ _
structure eU (A:AR) (Y:Lay):Prop where
 c:Y.fG.length=A.tb.length
 t:Y.fU.length=A.tb.length
 cE:A.cE.length=A.tb.length
 cM:A.cM.length=A.tb.length
 nC:1<=A.tb.length
 qv:A.tb.length<=40
 n1:32<=A.n
 n2:A.n<=1024
 n3:A.n%16=0
 st:A.st.length=A.n
 room:A.room<=8
 ok:∀c∈A.tb,c.ok
structure dG (U:Hp) (F:Rg) (Y:Lay) (A:AR) (T:Nat->Hp->Rg->Prop):Prop where
 lay:eU A Y
 tl:∀k,dM (T k)
 sep:Sep (AC A Y T) U F
def AH (U:Hp)(F:Rg)(p hs:Nat)(A:AR):Prop:=∃Y:Lay,Y.p=p/\Y.hs=hs/\dG U F Y A (cK A Y)
variable {U:Hp}{F:Rg}{p hs:Nat}{A:AR}{Y:Lay}{T:Nat->Hp->Rg->Prop}
theorem dG.loc:dM λU F=>dG U F Y A T:=λU d F G h b a=>⟨h.lay,h.tl,Sep.loc (AC.loc h.tl) _ _ _ _ h.sep b a⟩
theorem AH.loc:dM λU F=>AH U F p hs A:=λU e F G ⟨Y,b,a,h⟩ d hs=>⟨Y,b,a,dG.loc _ _ _ _ h d hs⟩
theorem dG.bO {σ':Hp}(h:dG U F Y A T)(e:bK U σ'):dG σ' F Y A T:=dM.bO dG.loc h e
theorem dG.hd (h:dG U F Y A T):bY U Y.p (kK Y):=by
 obtain⟨G,d,b,a⟩:=h.sep.get .hd;exact a
theorem VV (tb:List bZ):(fZ tb).length=tb.length*3:=by
 induction tb with
 | nil=>rfl
 | cons x l ih=>simp only[fZ,nG,zO,zY,lE]at *;omega
theorem Gr {tb:List bZ}{i:Nat}{c:bZ}(h:tb[i]?=some c):(fZ tb)[3*i]?=some (.int .i64 (c.size:Int))/\(fZ tb)[3*i+1]?=some (.int .i64 (c.aF:Int))/\(fZ tb)[3*i+2]?=some (.int .i64 (c.batch:Int)):=by
 induction tb generalizing i with
 | nil=>simp at h
 | cons x l ih=>
  have e:fZ (x::l)=[.int .i64 (x.size:Int),.int .i64 (x.aF:Int),.int .i64 (x.batch:Int)]++fZ l:=by simp[fZ]
  rw[e];cases i with
  | zero=>simp at h;subst h;simp
  | succ i=>
   have:=ih (i:=i) (by simpa using h);rw[show 3*(i+1)=3*i+3 by omega];simpa using this
theorem dG.pv (h:dG U F Y A T):Y.dD.len=A.tb.length:=by
 obtain⟨G,b,a⟩:=h.sep.get .dD;have:=a.1;rw[VV]at this;omega
theorem GV {s:Sl}{tb:List bZ}(h:cV s 3 (fZ tb) U F){k d:Nat}{c:bZ}(hc:tb[k]?=some c)(hd:d<3){K:Int->Prop}(hK:K (if d=0 then c.size else if d=1 then c.aF else c.batch:Nat)) :
 Ix s.a s.len (k:Int) 3 λa=>gA .i64 (a.add d) U K:=by
 have g:=Gr hc;have j:(fZ tb)[3*k+d]?=some (.int .i64 ((if d=0 then c.size else if d=1 then c.aF else c.batch:Nat):Int)):=by
  match d,hd with
  | 0,_=>exact g.1
  | 1,_=>exact g.2.1
  | 2,_=>exact g.2.2
 have p:=(cW.1 hc).1;obtain⟨b,o,i,e⟩:=h.cell j;have m:=h.1;rw[VV]at m;rw[i];refine ix O O ?_;rw[add_lit,add_lit];refine nR ?_ hK;rw[show o+(k:Int).toNat*3+d=o+(3*k+d) by omega];exact e
theorem dG.wG (h:dG U F Y A T){k d:Nat}{c:bZ}(hc:A.tb[k]?=some c)(hd:d<3){K:Int->Prop}(hK:K (if d=0 then c.size else if d=1 then c.aF else c.batch:Nat)) :
 Ix Y.dD.a Y.dD.len (k:Int) 3 λa=>gA .i64 (a.add d) U K:=by
 obtain⟨G,e,b⟩:=h.sep.get .dD;exact GV b hc hd hK
theorem A3 {s:Sl}{l:List Nat}(h:cV s 1 (fI l) U F){k q:Nat}(hq:l[k]?=some q){K:Option Addr->Prop}(hK:K (some ⟨q,0,none⟩)):Ix s.a s.len (k:Int) 1 λa=>fW a U K:=by
 have i:=(cW.1 hq).1;obtain⟨b,o,e,d⟩:=h.cell (j:=k) (v:=.pointer (some ⟨q,0,none⟩)) (by simp[fI,hq]);have g:=h.1;simp[fI]at g;rw[e];refine ix O O ?_;rw[add_lit];exact uu (by rw[show o+(k:Int).toNat*1=o+k by omega];exact d) hK
theorem dG.lJ (h:dG U F Y A T){k q:Nat}(hq:Y.fG[k]?=some q){K:Option Addr->Prop}(hK:K (some ⟨q,0,none⟩)):Ix Y.dO.a Y.dO.len (k:Int) 1 λa=>fW a U K:=by
 obtain⟨G,d,b⟩:=h.sep.get .dO;exact A3 (bR.gQ b) hq hK
theorem dG.rJ (h:dG U F Y A T){k q:Nat}(hq:Y.fU[k]?=some q){K:Option Addr->Prop}(hK:K (some ⟨q,0,none⟩)):Ix Y.cN.a Y.cN.len (k:Int) 1 λa=>fW a U K:=by
 obtain⟨G,d,b⟩:=h.sep.get .cN;exact A3 (bR.gQ b) hq hK
theorem dG.at_ (h:dG U F Y A T){k:Nat}(hk:k<A.tb.length):∃c ss q t r,A.tb[k]?=some c/\A.cE[k]?=some ss/\Y.fG[k]?=some q/\A.cM[k]?=some t/\Y.fU[k]?=some r/\c.ok:=by
 have d:=h.lay.c;have b:=h.lay.t;have a:=h.lay.cE;have e:=h.lay.cM;exact⟨A.tb[k],A.cE[k],Y.fG[k],A.cM[k],Y.fU[k],by simp,by simp,by simp,by simp,by simp,h.lay.ok _ (zo hk)⟩
theorem C3 {k q:Nat}{c:bZ}{ss:List cF}{G:Rg}(h1:Y.fG[k]?=some q)(h2:A.tb[k]?=some c)(h3:A.cE[k]?=some ss)(h:AC A Y T (.cE k) U G):∃ps,fB U G q c ps ss:=by
 simp only[AC]at h;rw[h1,h2,h3]at h;exact h
theorem dG.cE (h:dG U F Y A T){k q:Nat}{c:bZ}{ss:List cF}(h1:Y.fG[k]?=some q)(h2:A.tb[k]?=some c)(h3:A.cE[k]?=some ss):∃G ps,(∀b,G b->F b)/\fB U G q c ps ss:=by
 obtain⟨G,e,a⟩:=h.sep.get (.cE k);obtain⟨ps,d⟩:=C3 h1 h2 h3 a;exact⟨G,ps,e,d⟩
theorem U4 (h:dG U F Y A T){R:aO}(hR:R true U):W4.c (aW Y.p) U R:=by
 refine W4.o ?_;unfold W4.v;exact bW.intro (cD rfl (aG (h.hd.rP rfl hR)))
theorem Uc (h:dG U F Y A T)(k:Int){R:aN}(h1:A.ck k=false->R 1 U)(h0:∀x:Nat,k=x->x<A.tb.length->R 0 U):WR.c (aW Y.p) k U R:=by
 refine WR.o ?_;unfold WR.v;have g:=h.pv;have a:¬(0<=k/\k<A.tb.length)->R 1 U:=λd=>h1 (by unfold AR.ck;rw[←uw];exact zM d);refine U4 h (cB rfl (bW.intro (cQ (λe=>cD rfl (a O)) λe=>aG (h.hd.rS rfl (cQ (λb=>?_) λb=>?_)))))
 ·simp only at b;exact a O
 ·simp only at b;exact h0 k.toNat O O
theorem N7 (h:dG U F Y A T)(x:Int){R:aO}(hR:R (GX A x) U):YM.c (aW Y.p) x U R:=by
 refine YM.o ?_;unfold YM.v;obtain⟨G,b,q,a,_⟩:=h.sep.get .nW;refine U4 h (bW.intro (cD rfl (aG (h.hd.rP rfl (NQ a x ?_)))));have:decide (xN A.st x>0)=GX A x:=by
  unfold xN GX;by_cases hx:0<=x
  ·by_cases hl:x<A.st.length
   ·rw[zC ⟨hx,hl⟩,zJ hx,qp,decide_eq_decide];omega
   ·rw[zB O,zJ hx,qp,zP,zV O];rfl
  ·rw[zB O,zM hx];rfl
 rw[this];exact hR
structure iK (A:AR):Prop where
 tC:∀r∈A.runs,∀s∈A.runs,∀x,r.1<=x->x<r.1+r.2->s.1<=x->x<s.1+s.2->r=s
 xD:∀x,x<1024->A.ow x=41->(rf A x).isSome=true
 cls:∀x,x<1024->A.ow x≠0->A.ow x≠41->A.ow x<=A.tb.length
 fit:∀r∈A.runs,r.1+r.2<=1024
theorem A0 (h:iK A){x:Nat}{r:Nat×Nat}(hr:r∈A.runs)(h1:r.1<=x)(h2:x<r.1+r.2):rf A x=some r:=by
 cases hf:rf A x with
 | none=>
  unfold rf at hf;rw[nS]at hf;have:=hf r hr;simp[h1,h2]at this
 | some s=>
  unfold rf at hf;have b:=sr hf;have a:=sk hf;simp at a;rw[h.tC r hr s b x h1 h2 a.1 a.2]
theorem Rb (h:dG U F Y A T)(hr:iK A)(x:Int)(hx:iE x){R:Int->Int->Int->Hp->Prop}(h1:∀σ' k a,bK U σ'->UR A x=some (k,a)->R k (a:Int) 0 σ')(h0:∀σ',bK U σ'->UR A x=none->R 0 0 8 σ') :
 YA.c (aW Y.p) x U R:=by
 refine YA.o ?_;unfold YA.v;refine U4 h (cB rfl (cQ (λc1=>h0 U (Ext.refl _ _) (by unfold UR;rw[zC c1])) λc1=>aG (h.hd.rP rfl (nz aB ?_))));obtain⟨y,rfl⟩:=zc (show 0<=x by omega);have hy:y<=9223372036854775807:=by unfold iE at hx;omega
 have Q:((y:Int).tdiv 256)=((y/256:Nat):Int):=by rw[Yr O];simp
 refine ar (by rw[Q];omega) (by rw[Q];omega) ?_;rw[Q];obtain⟨G,hG,hP⟩:=h.sep.get .own;refine SL hP _ ?_;have eo:qy A.ow ((y/256:Nat):Int)=if y/256<1024 then A.ow (y/256)else 0:=by
  unfold qy;by_cases hl:y/256<1024
  ·rw[zC O,zC hl];rfl
  ·rw[zB O,zB hl]
 have g:UR A (y:Int)=(let no:=if y/256<1024 then A.ow (y/256)else 0
  if no=0 then none else if no=41 then(rf A (y/256)).map λr=>(-1,r.1*256)else
  match A.tb[no-1]?,A.cE[no-1]? with
  | some c,some ss=>(qC c ss (y:Int)).map λa=>(((no-1:Nat):Int),a)
  | _,_=>none):=by
  unfold UR;rw[zB c1];rfl
 rw[eo];generalize hno:(if y/256<1024 then A.ow (y/256)else 0)=no at *
 simp only at g;rw[uZ];refine cO (λS=>h0 U (Ext.refl _ _) (by rw[g,zC (by simpa using S)])) λS=>?_;have E:no≠0:=by simpa using S
 rw[zB E]at g;have C:y/256<1024:=by
  rcases kg (y/256) 1024 with h|h
  ·exact h
  ·rw[zB O]at hno;exact absurd hno.symm E
 rw[zC C]at hno;refine Jn.intro ?_;have V:(((no:Nat):Int)==41)=(no==41):=lR no 41;rw[V];refine cO (λc2=>?_) λc2=>?_
 ·have j:no=41:=by simpa using c2
  subst j;rw[zC rfl]at g;obtain⟨r,K⟩:=pW.1 (hr.xD _ C hno);have w:=sr K;have D:=sk K;simp at D;obtain⟨G,hG,M⟩:=h.sep.get .runs;refine aG (h.hd.rM rfl ?_);refine An M.2 (λb v=>bK U v/\(∀z∈b,z∈iJ A.runs)/\((r.1:Int),(r.2:Int))∈b) (λv hz e=>⟨e,λz hz=>hz,zE.2 ⟨r,w,rfl⟩⟩) (λv hv=>absurd hv.2.2 aA) ?_;rintro b n z v v' J ⟨e,d,B⟩ hm ho hlt2 hJ;have Z:bK U v':=Ext.fresh e ho.ext λi hi=>by omega
  obtain⟨s,P,aa⟩:=zE.1 (d _ hm);cases aa;have hfit:=hr.fit s P;refine nz aB (ar O O ?_);refine bW.intro (cQ (λc3=>ar O O (cQ (λc4=>?_) λc4=>?_)) λc3=>cB rfl ?_)
  ·have X:=A0 hr P (x:=y/256) O O;refine ar O O ?_;have:=h1 v' (-1) (s.1*256) Z (by rw[g,X];rfl);simpa using this
  ·refine hJ v' rfl rfl ⟨Z,λu hu=>d u (zI.1 hu).1,zI.2 ⟨B,?_⟩⟩;have:¬(r.1:Int)=(s.1:Int):=λe=>by
    have:=A0 hr w D.1 D.2;have e1:r.1=s.1:=by omega
    by_cases h2:r.2=0
    ·omega
    by_cases h3:s.2=0
    ·have:=M.2.nodup;have L:=ZU this (zE.2 ⟨r,w,rfl⟩);have N:=ZU this (zE.2 ⟨s,P,rfl⟩);rw[e1,N]at L;have:s.2=r.2:=by
      have:(s.2:Int)=(r.2:Int):=Option.some.inj L;omega
     omega
    ·have:=hr.tC r w s P r.1 O O O O;subst this;omega
   simpa using this
  ·refine hJ v' rfl rfl ⟨Z,λu hu=>d u (zI.1 hu).1,zI.2 ⟨B,?_⟩⟩;have:¬(r.1:Int)=(s.1:Int):=λe=>by omega
   simpa using this
 ·have j:no≠41:=by simpa using c2
  rw[zB j]at g;have hcl:=hr.cls _ C (by rw[hno];exact E) (by rw[hno];exact j);rw[hno]at hcl;obtain⟨c,ss,q,t,r,hc,H,hq,_,_,hok⟩:=h.at_ (k:=no-1) O;obtain⟨G,ps,hG,hC⟩:=h.cE hq hc H;rw[hc,H]at g;simp only at g;refine aG (h.hd.rS rfl (cP (m:=no-1) O (by have:=h.lay.qv;omega) (h.lJ hq (Su hC _ hx (λa W=>?_) λW=>?_))))
  ·refine cB rfl (cP (m:=no-1) O (by have:=h.lay.qv;omega) (h1 U _ a (Ext.refl _ _) ?_));rw[g,W];rfl
  ·refine cD rfl (h0 U (Ext.refl _ _) ?_);rw[g,W];rfl
end Go.Ar
namespace Go.Ar
open Go Go.Vc Go.Proofs
open Go.Bu (Zb QB Y8)
open Classical in
theorem _root_.Go.Vc.Sep.jW {L:Type}{C:L->Hp->Rg->Prop}{U:Hp}{F:Rg}(hC:∀i,dM (C i))(h:Sep C U F)(i:L):∃G:Rg,(∀b,G b->F b)/\C i U G/\(∀j,j≠i->∃H:Rg,(∀b,H b->F b)/\(∀b,H b->¬G b)/\C j U H)/\∀(σ':Hp) (C':L->Hp->Rg->Prop) (G':Rg),
 (∀j,j≠i->C' j=C j)->Ext G U σ'->(∀b,G' b->G b\/U.size<=b)->C' i σ' G'->dM (C' i)->Sep C' σ' λb=>F b/\b<U.size/\¬G b\/G' b:=by
 obtain⟨ρ,h⟩:=h;refine⟨_,λb a=>a.1,h i,λj s=>⟨_,λb a=>a.1,λb m u=>s (m.2.symm.trans u.2),h j⟩,λσ' C' G' s e y w x=>⟨λb=>if G' b then i else ρ b,λj=>?_⟩⟩
 by_cases hji:j=i
 ·subst hji;exact x.mono w λb _ a=>⟨.inr a,zC a⟩
 ·rw[s j hji];refine hC j _ _ _ _ (h j) e.1 λb a r=>?_;have d:¬(F b/\ρ b=i):=λp=>hji (r.2.symm.trans p.2);have g:¬G' b:=λp=>by
   rcases y b p with m|m
   ·exact d m
   ·omega
  exact⟨⟨.inl ⟨r.1,a,d⟩,(zB g).trans r.2⟩,e.2 b a d⟩
variable {U:Hp}{F:Rg}{p hs:Nat}{A:AR}{Y:Lay}{T:Nat->Hp->Rg->Prop}
theorem dG.step (h:dG U F Y A T)(i:Lb):∃G:Rg,(∀b,G b->F b)/\AC A Y T i U G/\(∀j,j≠i->∃H:Rg,(∀b,H b->F b)/\(∀b,H b->¬G b)/\AC A Y T j U H)/\∀(σ':Hp) (A':AR) (Y':Lay) (T':Nat->Hp->Rg->Prop) (G' H:Rg),
 eU A' Y'->(∀k,dM (T' k))->(∀j,j≠i->AC A' Y' T' j=AC A Y T j)->Ext G U σ'->(∀b,G' b->G b\/U.size<=b)->AC A' Y' T' i σ' G'->(∀b,(F b/\b<U.size/\¬G b\/G' b)->H b)->dG σ' H Y' A' T':=by
 obtain⟨G,m,r,hd,a⟩:=h.sep.jW (AC.loc h.tl) i;refine⟨G,m,r,hd,λσ' A' Y' T' G' H s d x e u g p=>⟨s,d,?_⟩⟩;exact(Sep.loc (AC.loc d)).mono (a σ' _ G' x e u g (AC.loc d i)) λb _ w=>p b w
theorem HF {U:Hp}{F G G':Rg}(hG:∀b,G b->F b)(hg:∀b,G' b->G b\/U.size<=b):∀b,(F b/\b<U.size/\¬G b\/G' b)->Grow F U b:=λb a=>by
 rcases a with a|a
 ·exact .inl a.1
 ·exact(hg b a).imp (hG b) id
theorem yz {U:Hp}{F G G':Rg}(hG:∀b,G b->F b)(hg:∀b,G' b->G b):∀b,(F b/\b<U.size/\¬G b\/G' b)->F b:=λb a=>by
 rcases a with a|a
 ·exact a.1
 ·exact hG b (hg b a)
theorem Fy {U:Hp}{F G:Rg}(hG:∀b,G b->F b):∀b,(F b/\b<U.size/\¬G b\/Cut G U b)->Cut F U b:=λb a=>by
 rcases a with a|a
 ·exact⟨a.1,a.2.1⟩
 ·exact⟨hG b a.1,a.2⟩
theorem DJ {ow:Nat->Nat}:∀j,j≠Lb.own->AC {A with ow:=ow} Y T j=AC A Y T j:=by
 intro j hj;cases j<;>first|rfl|exact absurd rfl hj
theorem Ji {st:List Nat}:∀j,j≠Lb.nW->AC {A with st:=st} Y T j=AC A Y T j:=by
 intro j hj;cases j<;>first|rfl|exact absurd rfl hj
theorem BN {S:Nat->Bool}:∀j,j≠Lb.free->AC {A with S:=S} Y T j=AC A Y T j:=by
 intro j hj;cases j<;>first|rfl|exact absurd rfl hj
theorem N3 {rs:List (Nat×Nat)}:∀j,j≠Lb.runs->AC {A with runs:=rs} Y T j=AC A Y T j:=by
 intro j hj;cases j<;>first|rfl|exact absurd rfl hj
theorem Pn {k:Nat}{ss:List cF}:∀j,j≠Lb.cE k->AC {A with cE:=A.cE.set k ss} Y T j=AC A Y T j:=by
 intro j hj;cases j<;>first|rfl|skip
 rename_i k';have a:k≠k':=λe=>hj (by rw[e]);simp only[AC];rw[zk a]
theorem eU.ow {ow:Nat->Nat}(h:eU A Y):eU {A with ow:=ow} Y:=⟨h.c,h.t,h.cE,h.cM,h.nC,h.qv,h.n1,h.n2,h.n3,h.st,h.room,h.ok⟩
theorem eU.Ah {S:Nat->Bool}(h:eU A Y):eU {A with S:=S} Y:=⟨h.c,h.t,h.cE,h.cM,h.nC,h.qv,h.n1,h.n2,h.n3,h.st,h.room,h.ok⟩
theorem eU.qB {rs:List (Nat×Nat)}(h:eU A Y):eU {A with runs:=rs} Y:=⟨h.c,h.t,h.cE,h.cM,h.nC,h.qv,h.n1,h.n2,h.n3,h.st,h.room,h.ok⟩
theorem eU.wS {st:List Nat}(h:eU A Y)(hl:st.length=A.st.length):eU {A with st:=st} Y:=⟨h.c,h.t,h.cE,h.cM,h.nC,h.qv,h.n1,h.n2,h.n3,hl.trans h.st,h.room,h.ok⟩
theorem eU.kQ {k:Nat}{ss:List cF}(h:eU A Y):eU {A with cE:=A.cE.set k ss} Y:=⟨h.c,h.t,by simpa using h.cE,h.cM,h.nC,h.qv,h.n1,h.n2,h.n3,h.st,h.room,h.ok⟩
theorem Di (st:List Nat)(a m:Int)(v:Nat)(fr:List Nat):(Ua st a m v fr).length=st.length:=by
 unfold Ua;split<;>simp[KB]
theorem MF (st:List Nat)(k:Int):(iS st k).length=st.length:=by
 unfold iS;split<;>simp[KB]
theorem dG.Clear (h:dG U F Y A T)(a m:Nat)(ha:a<=1000000){R:aN}(hR:∀σ' t,Ext F U σ'->dG σ' (Grow F U) Y {A with ow:=jC A.ow a m 0} T->R t σ'):XD.c (aW Y.op) a m U R:=by
 obtain⟨G,i,p,_,d⟩:=h.step .own;refine NG p a m ha λσ' e j=>hR σ' _ (e.sub i) ?_;exact d σ' _ _ T (Grow G U) _ h.lay.ow h.tl DJ e (λb g=>g) j (HF i λb g=>g)
theorem dG.Set (h:dG U F Y A T)(a m:Nat)(ha:a<=1000000){no:Nat}(h1:1<=no)(h2:no<=1000){R:aN}(hR:∀σ' t,Ext F U σ'->dG σ' (Grow F U) Y {A with ow:=jC A.ow a m no} T->R t σ'):XP.c (aW Y.op) a m no U R:=by
 obtain⟨G,i,p,_,d⟩:=h.step .own;refine Sy p a m ha h1 h2 λσ' e j=>hR σ' _ (e.sub i) ?_;exact d σ' _ _ T (Grow G U) _ h.lay.ow h.tl DJ e (λb g=>g) j (HF i λb g=>g)
theorem dG.nW (h:dG U F Y A T):∃G:Rg,(∀b,G b->F b)/\∃q,ij U Y.tr q A.st/\F q/\∀(σ':Hp) (st:List Nat),st.length=A.st.length->Ext (· = q) U σ'->ij σ' Y.tr q st->Ext F U σ'/\dG σ' F Y {A with st:=st} T:=by
 obtain⟨G,i,⟨q,j,p,g⟩,_,d⟩:=h.step .nW;refine⟨G,i,q,j,i _ g,λσ' st r e m=>⟨e.sub λb a=>by subst a;exact i _ g,?_⟩⟩;exact d σ' _ _ T G _ (h.lay.wS r) h.tl Ji (e.sub λb a=>by subst a;exact g) (λb a=>.inl a) ⟨q,m,p,g⟩ (yz i λb a=>a)
theorem dG.vM (h:dG U F Y A T)(a m:Int){R:aN}(hR:∀σ' t,Ext F U σ'->dG σ' F Y {A with st:=Ua A.st a m 2 [1]} T->R t σ'):Xm.c (aW Y.tr) a m U R:=by
 obtain⟨G,i,q,d,_,b⟩:=h.nW;refine SO d a m λσ' e g=>?_;have:=b σ' _ (Di _ _ _ _ _) e g;exact hR σ' _ this.1 this.2
theorem dG.Ru (h:dG U F Y A T)(a m:Int){R:aN}(hR:∀σ' t,Ext F U σ'->dG σ' F Y {A with st:=Ua A.st a m 1 [2,3]} T->R t σ'):Xu.c (aW Y.tr) a m U R:=by
 obtain⟨G,i,q,d,_,b⟩:=h.nW;refine Mw d a m λσ' e g=>?_;have:=b σ' _ (Di _ _ _ _ _) e g;exact hR σ' _ this.1 this.2
theorem dG.Cp (h:dG U F Y A T)(k:Int){R:aN}(hR:∀σ' t,Ext F U σ'->dG σ' F Y {A with st:=iS A.st k} T->R t σ'):X1.c (aW Y.tr) k U R:=by
 obtain⟨G,g,q,b,_,a⟩:=h.nW;refine MK b k λσ' e d=>?_;have:=a σ' _ (MF _ _) e d;exact hR σ' _ this.1 this.2
theorem dG.free (h:dG U F Y A T):∃sb ms,Go.Bu.BH U Y.fr A.n A.S sb ms/\∀(σ':Hp) (S:Nat->Bool),Ext (· ∈ ms) U σ'->Go.Bu.BH σ' Y.fr A.n S sb ms->Ext F U σ'/\dG σ' F Y {A with S:=S} T:=by
 obtain⟨G,j,⟨sb,ms,p,i⟩,_,d⟩:=h.step .free;have g:∀b,b∈ms->G b:=λb a=>i b (by unfold Go.Bu.fp;simp[a]);refine⟨sb,ms,p,λσ' S e m=>⟨e.sub λb a=>j b (g b a),?_⟩⟩;exact d σ' _ _ T G _ h.lay.Ah h.tl BN (e.sub g) (λb a=>.inl a) ⟨sb,ms,m,i⟩ (yz j λb a=>a)
theorem dG.vf (h:dG U F Y A T)(a m:Int){R:aN}(hR:∀σ' t,Ext F U σ'->dG σ' F Y {A with S:=QB A.n A.S a m} T->R t σ'):XV.c (aW Y.fr) a m U R:=by
 obtain⟨j,i,d,b⟩:=h.free;refine Go.Bu.pZ d a m λσ' e g=>?_;have:=b σ' _ e g;exact hR σ' _ this.1 this.2
theorem dG.vP (h:dG U F Y A T)(a m:Int){R:Int->Int->Hp->Prop}(hR:∀σ',Ext F U σ'->dG σ' F Y {A with S:=Go.Bu.iM A.n A.S a m} T->R ((Go.Bu.ja A.n A.S a m:Nat):Int) (Go.Bu.iZ A.n A.S a m) σ'):XB.c (aW Y.fr) a m U R:=by
 obtain⟨j,i,d,b⟩:=h.free;refine Go.Bu.kR d a m λσ' e g=>?_;have:=b σ' _ e g;exact hR σ' this.1 this.2
def rV (rs:List (Nat×Nat)):List Value:=rs.flatMap λr=>[.int .i64 (r.1:Int),.int .i64 (r.2:Int)]
theorem Ez (rs:List (Nat×Nat)):(rV rs).length=rs.length*2:=by
 induction rs with
 | nil=>rfl
 | cons x l ih=>simp only[rV,nG,zO,zY,lE]at *;omega
theorem OH {l:List (Nat×Nat)}{i:Nat}{r:Nat×Nat}(h:l[i]?=some r):(rV l)[2*i]?=some (.int .i64 (r.1:Int))/\(rV l)[2*i+1]?=some (.int .i64 (r.2:Int)):=by
 induction l generalizing i with
 | nil=>simp at h
 | cons x l ih=>
  have e:rV (x::l)=[.int .i64 (x.1:Int),.int .i64 (x.2:Int)]++rV l:=by simp[rV]
  rw[e];cases i with
  | zero=>simp at h;subst h;simp
  | succ i=>
   have:=ih (i:=i) (by simpa using h);rw[show 2*(i+1)=2*i+2 by omega];simpa using this
theorem JB (c:bZ)(l:List Nat):iI c l=rV (l.map λs=>(s,c.aF)):=by
 simp[iI,rV,List.flatMap_map]
theorem Jd {s:Sl}{rs:List (Nat×Nat)}(h:cV s 2 (rV rs) U F){i:Nat}{r:Nat×Nat}(hr:rs[i]?=some r){K:Int->Int->Prop}(hK:K (r.1:Int) (r.2:Int)) :
 Ix s.a s.len (i:Int) 2 λa=>gA .i64 (a.add 0) U λu=>gA .i64 (a.add 1) U λw=>K u w:=by
 have g:=OH hr;have y:=(cW.1 hr).1;obtain⟨b,o,j,m⟩:=h.cell g.1;obtain⟨x,o1,d,e⟩:=h.cell g.2;rw[j]at d;cases d;have p:=h.1;rw[Ez]at p;rw[j];refine ix O O ?_;rw[add_lit];refine nR ?_ (nR ?_ hK)<;>rw[add_lit]
 ·rw[show o+(i:Int).toNat*2+0=o+2*i by omega];exact m
 ·rw[show o+(i:Int).toNat*2+1=o+(2*i+1) by omega];exact e
theorem dG.mono {G:Rg}(h:dG U F Y A T)(hs:∀b,b<U.size->F b->G b):dG U G Y A T:=dM.mono dG.loc h hs
theorem dG.cut (h:dG U F Y A T):dG U (Cut F U) Y A T:=dM.cut dG.loc h
theorem LQ (A:AR)(rs:List (Nat×Nat))(r:Nat×Nat):VZ A (rs++[r])=VF (VZ A rs) r:=by simp[VZ]
theorem EH (h:dG U F Y A T){sl:Sl}{rs:List (Nat×Nat)}{X:Rg}(hs:cV sl 2 (rV rs) U X)(hX:∀b,b<U.size->X b->¬F b)(hl:rs.length<=1000000)(hb:∀r∈rs,r.1<=1000000){R:aP}
 (hR:∀σ',Ext F U σ'->dG σ' (Grow F U) Y (VZ A rs) T->R σ'):XO.c (aW Y.p) sl U R:=by
 refine XO.o ?_;unfold XO.v;have aa:sl.len=rs.length:=by have:=hs.1;rw[Ez]at this;omega
 have D:cV sl 2 (rV rs) U (Cut X U):=aH.cut hs;refine Z0 (a:=bN) (λ(t:Int) v=>∃i:Nat,t=(i:Int)/\i<=rs.length/\Ext F U v/\dG v (Grow F U) Y (VZ A (rs.take i)) T) (λt _=>rs.length-t.toNat) ⟨0,rfl,O,Ext.refl _ _,by simpa[VZ]using h.mono λb _ hb=>.inl hb⟩ ?_;rintro t v ⟨i,rfl,V,e,C⟩;refine cQ (λhlt=>?_) λhge=>?_
 ·have s:i<rs.length:=by omega
  have y:rs[i]?=some rs[i]:=cT s;have J:=hb _ (zo s);have z:=aH.bS D e λb L y u=>hX b L y.1 u;refine Jd z y ?_;have N:rs.take (i+1)=rs.take i++[rs[i]]:=by rw[k8,y];rfl
  generalize rs[i]=r at *;refine nw (cs:=[.int .i64 0,.int .i64 0]) λv4 hz4 e4 E=>E.s1 aA λv5 o5 b5=>b5.s1 aA λv6 o6 S=>?_;have w:bK v v6:=Ext.fresh (Ext.fresh e4 o5.ext λi V=>O) o6.ext λi V=>by omega
  have x:=C.cut.bO w;have Q:¬Cut (Grow F U) v v.size:=λu=>by have:=u.2;omega
  have g:bY v6 v.size [.int .i64 (r.1:Int),.int .i64 (r.2:Int)]:=S;have z6:v.size<v6.size:=S.lt;refine aG (x.hd.rP rfl (g.rI rfl (g.rI rfl (x.Clear r.1 r.2 J λv7 t7 Z H=>?_))));have K:=Z.bT g Q;have d:=H.mono (G:=λb=>Cut (Grow F U) v b\/v.size<b) λb _ hb=>by
   rcases hb with hb|hb
   ·exact .inl hb
   ·exact .inr O
  have B:¬(Cut (Grow F U) v v.size\/v.size<v.size):=λu=>by
   rcases u with h|h
   ·exact Q h
   ·omega
  refine aG (d.hd.rP rfl (K.rI rfl (K.rI rfl (d.vM _ _ λv8 t8 P j=>?_))));have W:=P.bT K B;refine aG (j.hd.rP rfl (W.rI rfl (W.rI rfl (j.vf _ _ λv9 t9 e9 M=>?_))));have sub:∀b,(Cut (Grow F U) v b\/v.size<b)->Grow F U b:=λb hb=>by
   rcases hb with hb|hb
   ·exact hb.1
   ·exact .inr (by have:=e.1;omega)
  have ee:Ext F U v9:=((((e.trans (bK.to w)).jx (Z.sub λb hb=>hb.1))).jx (P.sub sub)).jx (e9.sub sub);refine cP (m:=i+1) O O ⟨⟨i+1,rfl,O,ee,?_⟩,O⟩;rw[N,LQ];exact M.mono λb _ hb=>sub b hb
 ·have:i=rs.length:=by omega
  subst this;rw[mg]at C;exact hR v e C
end Go.Ar
namespace Go.Proofs
open Go.Vc
set_option maxRecDepth 100000
def Xx.h:Hn:=.q .o1 (.q (.q .o3 .aK) (.q .o1 (.q (.q .o5 (.k (.loop [(3,.I)] (.q (.cS (.seq [.it .i64 .p,.op])) (.q (.c .l .l) (.k (.q (.cS (.seq [.it .i64 .p,.op,.op,.op,.op])) (.oq 17)))))))) .aL)))
def Xx.v (a:R2)(b:Hp)(c:aN):Prop:=W7.c a b λd e=>If (!d) (c 0 e) (bI a 2 e λg=>nL .i64 .p g e λh i=>X9 [bN] (λj=>j 0 i) λk (l:Int) m=>nO .i64 .p h m (c l m) (λn o p=>nQ .i64 .p h p λq r=>bE a 0 p λt=>Ix t.a t.len q 3 λu=>aQ u 0 p λv=>bE r 0 p λx=>bL (v*((x.len:Nat):Int)) λy=>bL (l+y) λz=>k z p))
theorem Xx.o {a b c}(d:Xx.v a b c):Xx.c a b c:=Wa Tryz.func79 (x:=Xx.h) (R0 d)
def W7.h:Hn:=.q .o1 (.q (.cS (.seq [.op,.op,.op,.cX true 5 (RI.ops 5),.op])) .l)
def W7.v (a:R2)(b:Hp)(c:aO):Prop:=bW (λd e=>c d e) λf=>If (!a.isNone) (bI a 2 b λh=>f (!h.isNone) b) (f false b)
theorem W7.o {a b c}(d:W7.v a b c):W7.c a b c:=Wa Tryz.func110 (x:=W7.h) (R0 d)
def QN.h:Hn:=.q .o2 (.q (.k (.q .o4 (.c .aL (.q (.cS (.seq [.op,.op,.op,.cX false 2 [.op,.op],.op])) .aJ)))) (.q .o8 .l))
def QN.v (a:Sl)(b:Int)(c:Hp)(d:Option Addr->Int->Hp->Prop):Prop:=Zv.c a c λe f=>If (!e) (d none 2 f) (bW (λg h=>If g (d none 1 h) (Wi.c a h λi j=>Nw (.map #[] 0) j λk l=>aV #[.slice i.a i.len i.cap,.I b,.map (some k.block)] 168 l λm n=>d (some m) 0 n)) λo=>If (b<0) (o true f) (o (decide (b>65536)) f))
theorem QN.o {a b c d}(e:QN.v a b c d):QN.c a b c d:=Wa Tryz.func144 (x:=QN.h) (R0 e)
def X2.h:Hn:=.q .o2 (.q .o8 (.q (.q .o2 (.c (.q .o3 .l) .l)) (.q (.q .o6 (.c (.q (.q .o9 (.q .o6 (.c .o8 (.o 11)))) .aL) .l)) (.q .o7 (.q .o8 (.q .gH (.q .gH (.q .o3 .l))))))))
def X2.v (a:R2)(b:Int)(c:Hp)(d:Int->Int->Hp->Prop):Prop:=Xk.c a b c λe f g=>If (f != 0) (d 0 f g) (bE e 0 g λi=>If (((i.len:Nat):Int)==0) (bE a 0 g λk=>Ix k.a k.len b 3 λl=>aQ l 2 g λm=>bD e 1 g λo=>If (o<m) (bD e 1 g λq=>bL (q+1) λr=>bU e λs=>aR s 1 (.I r) g λt=>d 0 4 t) (bD e 1 g λv=>bL (v+m) λw=>bU e λx=>aR x 1 (.I (if 128<w then 128 else w)) g λy=>d 0 4 y)) (bE e 0 g λaa=>bL (((aa.len:Nat):Int)-1) λab=>bE e 0 g λad=>Ix ad.a ad.len ab 1 λae=>bM ae g λaf=>bE e 0 g λah=>eX ah 1 0 ab (ah.cap:Nat) λai=>bU e λaj=>aR aj 0 (.slice ai.a ai.len ai.cap) g λak=>bD e 2 ak λam=>bU e λan=>aR an 2 (.I (if ab<am then ab else am)) ak λao=>d af 0 ao))
theorem X2.o {a b c d}(e:X2.v a b c d):X2.c a b c d:=Wa Tryz.func147 (x:=X2.h) (R0 e)
def X7.h:Hn:=.q .o2 (.q .o8 (.q (.q .o2 (.c (.q .o3 .l) .l)) (.q (.oq 15) .l)))
def X7.v (a:R2)(b:Int)(c:Hp)(d:Int->Int->Hp->Prop):Prop:=Xk.c a b c λe f g=>If (f != 0) (d 0 f g) (bD e 1 g λi=>bE a 0 g λk=>Ix k.a k.len b 3 λl=>aQ l 2 g λm=>d (if m<i then m else i) 0 g)
theorem X7.o {a b c d}(e:X7.v a b c d):X7.c a b c d:=Wa Tryz.func149 (x:=X7.h) (R0 e)
def XW.h:Hn:=.q .o1 (.q .o8 (.q (.q .o2 .aJ) (.q .o3 (.q .o2 (.q .o4 .l)))))
def XW.v (a:R2)(b:Int)(c:Sl)(d:Hp)(e:aN):Prop:=Xk.c a b d λf g h=>If (g != 0) (e g h) (WC.c c h λi j=>WS.c i j λk=>WU.c f i k λl m=>e l m)
theorem XW.o {a b c d e}(f:XW.v a b c d e):XW.c a b c d e:=Wa Tryz.func154 (x:=XW.h) (R0 f)
def Yv.h:Hn:=.q .o2 (.q .o8 (.q (.q .o2 (.c (.q .o3 .l) .l)) (.q (.q .o5 (.q .o2 (.c (.q .o3 .l) .l))) (.q (.q (.oq 10) .aJ) (.q .o9 (.j8 [] (.q .o6 (.c .o8 .l)) (.q (.o 11) .l)))))))
def Yv.v (a:R2)(b c:Int)(d:Hp)(e:Sl->Int->Hp->Prop):Prop:=Xk.c a b d λf g h=>If (g != 0) (e ⟨none,0,0⟩ g h) (aV #[.I c] 3 h λi j=>WU.c f ⟨some i,1,1⟩ j λk l=>If (k != 0) (e ⟨none,0,0⟩ k l) (bE f 0 l λn=>bD f 1 l λp=>If (((n.len:Nat):Int)<=p) (e ⟨none,0,0⟩ 0 l) (bE a 0 l λr=>Ix r.a r.len b 3 λs=>aQ s 2 l λt=>Jn [] (λu=>bE f 0 u λw=>W3.c f (if((w.len:Nat):Int)<t then((w.len:Nat):Int)else t) u λx y=>e x 0 y) λz=>bD f 1 l λab=>If (ab<t) (bD f 1 l λad=>bL (ad+1) λae=>bU f λaf=>aR af 1 (.I ae) l λag=>z ag) (z l))))
theorem Yv.o {a b c d e}(f:Yv.v a b c d e):Yv.c a b c d e:=Wa Tryz.func157 (x:=Yv.h) (R0 f)
def XT.h:Hn:=.q .o1 (.q (.cS (.ib false [] [(2,.one .b)] (.take 0 (.all [(1,.take 2 (.split 5 (.tk [3,5,6,7] (.all [(4,.all [(8,.tk [9,10,11] (.done))]),(8,.all [(4,.tk [9,10,11] (.done))])])) (.tk [3,4,5,6,7,8,9,10,11] (.done))))])))) .l)
def XT.v (a:R2)(b:Hp)(c:aO):Prop:=Jn [.b] (λ(d:Bool) e=>c d e) λf=>W7.c a b λg h=>If g (bU a λi=>(Xx.c a h λj k=>aQ i 1 k λl=>f (decide (j>l)) k) ∧ (aQ i 1 h λm=>Xx.c a h λn o=>f (decide (n>m)) o)) (f false h)
theorem XT.o {a b c}(d:XT.v a b c):XT.c a b c:=Wa Tryz.func158 (x:=XT.h) (R0 d)
def WX.h:Hn:=.q .o1 (.q .o3 .l)
def WX.v (a:R2)(b:Hp)(c:Sl->Hp->Prop):Prop:=Xc.c a ⟨216,#[],#[]⟩ b λd e=>c d e
theorem WX.o {a b c}(d:WX.v a b c):WX.c a b c:=Wa Tryz.func159 (x:=WX.h) (R0 d)
def XE.h:Hn:=.q .o1 (.q .o3 .l)
def XE.v (a:R2)(b:Hp)(c:Sl->Hp->Prop):Prop:=Xc.c a ⟨218,#[],#[]⟩ b λd e=>c d e
theorem XE.o {a b c}(d:XE.v a b c):XE.c a b c:=Wa Tryz.func164 (x:=XE.h) (R0 d)
def Xk.h:Hn:=.q .o2 (.q (.q .o3 .aJ) (.q .o4 (.q (.q .o2 .aJ) (.q .o3 .l))))
def Xk.v (a:R2)(b:Int)(c:Hp)(d:Option Addr->Int->Hp->Prop):Prop:=W7.c a c λe f=>If (!e) (d none 5 f) (Zk.c a b f λg h=>If g.isNone (d none 1 h) (d g 0 h))
theorem Xk.o {a b c d}(e:Xk.v a b c d):Xk.c a b c d:=Wa Tryz.func204 (x:=Xk.h) (R0 e)
def WU.h:Hn:=.q .o1 (.q (.q .o9 .aK) (.q (.o 11) .aM))
def WU.v (a:R2)(b:Sl)(c:Hp)(d:aN):Prop:=bE a 0 c λf=>bL (((f.len:Nat):Int)+((b.len:Nat):Int)) λg=>If (g>256) (d 6 c) (bE a 0 c λi=>Xb.c i c λj k=>App j 1 8 3 [.I 0] b k λl m=>bU a λn=>aR n 0 (.slice l.a l.len l.cap) m λo=>d 0 o)
theorem WU.o {a b c d}(e:WU.v a b c d):WU.c a b c d:=Wa Tryz.func212 (x:=WU.h) (R0 e)
def W3.h:Hn:=.q .o1 (.q .o8 (.q (.o 11) (.q (.cS (.tail 13 (RI.ops 13) [.op])) .aL)))
def W3.v (a:R2)(b:Int)(c:Hp)(d:Sl->Hp->Prop):Prop:=bE a 0 c λf=>eX f 1 0 b (f.cap:Nat) λg=>WC.c g c λh i=>bE a 0 i λk=>eX k 1 b (k.len:Nat) (k.cap:Nat) λl=>WC.c l i λm n=>bU a λo=>aR o 0 (.slice m.a m.len m.cap) n λp=>bD a 2 p λr=>bE a 0 p λt=>bU a λu=>aR u 2 (.I (if((t.len:Nat):Int)<r then((t.len:Nat):Int)else r)) p λv=>d h v
theorem W3.o {a b c d}(e:W3.v a b c d):W3.c a b c d:=Wa Tryz.func214 (x:=W3.h) (R0 e)
def Xc.h:Hn:=.q .o1 (.q (.q .o3 .aK) (.q .o1 (.q (.q .o5 (.k (.loop [(5,.one .s)] (.q (.cS (.seq [.it .i64 .p,.op])) (.q (.c .l .l) (.k (.q (.cS (.seq [.it .i64 .p,.op,.op,.op,.op])) (.q (.o 12) (.q .o3 (.c .o7 .l)))))))))) (.q .o2 .aL))))
def Xc.v (a:R2)(b:Fv)(c:Hp)(d:Sl->Hp->Prop):Prop:=W7.c a c λe f=>If (!e) (d ⟨none,0,0⟩ f) (bI a 2 f λh=>nL .i64 .p h f λi j=>X9 [.s] (λk=>k ⟨none,0,0⟩ j) λl (m:Sl) n=>nO .i64 .p i n (ZS.c m ⟨264,#[],#[]⟩ n λo=>d m o) (λp q r=>nQ .i64 .p i r λs t=>bE a 0 r λv=>Ix v.a v.len s 3 λw=>aQ w 2 r λx=>VW Tryz.prog b [.pointer t,.I x] [.one .s] r λy z=>If (((y.len:Nat):Int)>0) (aV #[.I s,.slice y.a y.len y.cap] 135 z λaa ab=>App m 2 32 135 [.I 0,.slice none 0 0] ⟨some aa,1,1⟩ ab λac ad=>l ac ad) (l m z)))
theorem Xc.o {a b c d}(e:Xc.v a b c d):Xc.c a b c d:=Wa Tryz.func215 (x:=Xc.h) (R0 e)
def Xo.h:Hn:=.q .o1 (.q .o9 (.j8 [] (.q .o6 (.c (.o 12) .l)) (.q .o9 .aL)))
def Xo.v (a:R2)(b:Int)(c:Hp)(d:Sl->Hp->Prop):Prop:=bD a 2 c λf=>bL (f+1) λg=>Nz 2<|bL (g.tdiv 2) λh=>W3.c a h c λi j=>Jn [] (λk=>bE a 0 k λm=>bU a λn=>aR n 2 (.I ((m.len:Nat):Int)) k λo=>d i o) λp=>bD a 1 j λr=>If (r>b) (bD a 1 j λt=>bL (t-b) λu=>bU a λv=>aR v 1 (.I (if b>u then b else u)) j λw=>p w) (p j)
theorem Xo.o {a b c d}(e:Xo.v a b c d):Xo.c a b c d:=Wa Tryz.func216 (x:=Xo.h) (R0 e)
def Yn.h:Hn:=.q .o1 (.q .o8 .l)
def Yn.v (a:R2)(b:Int)(c:Hp)(d:Sl->Hp->Prop):Prop:=bE a 0 c λf=>W3.c a ((f.len:Nat):Int) c λg h=>d g h
theorem Yn.o {a b c d}(e:Yn.v a b c d):Yn.c a b c d:=Wa Tryz.func218 (x:=Yn.h) (R0 e)
def Zk.h:Hn:=.q .o1 (.q (.q (.cS (.seq [.op,.op,.op,.op,.cX false 2 [.op,.op],.op,.cX false 7 (RI.ops 7)])) .aK) (.j8 [] (.q .o7 (.c .o8 .l)) (.q .o7 .l)))
def Zk.v (a:R2)(b:Int)(c:Hp)(d:Option Addr->Hp->Prop):Prop:=W7.c a c λe f=>bW (λg h=>bW (λi j=>If i (d none j) (Jn [] (λk=>bI a 2 k λm=>Lk .i64 .p m b k λn=>d (n.getD none) k) λo=>bU a λp=>bB p 2 j λq=>Lk .i64 .p q b j λr=>If ((r.getD none).isNone) (bI a 2 j λt=>aV #[.slice none 0 0,.I 1,.I 0] 171 j λu v=>kv .i64 .p t b (some u) v λw=>o w) (o j))) λx=>If g (x true h) (bE a 0 h λz=>x (decide (b≥((z.len:Nat):Int))) h)) λaa=>If (!e) (aa true f) (aa (decide (b<0)) f)
theorem Zk.o {a b c d}(e:Zk.v a b c d):Zk.c a b c d:=Wa Tryz.func248 (x:=Zk.h) (R0 e)
end Go.Proofs
namespace Go.Ar
open Go Go.Vc Go.Proofs
theorem cV.sub {U:Hp}{F:Rg}{s:Sl}{sz:Nat}{xs:List Value}(h:cV s sz xs U F){lo hi mx:Nat}(h1:lo<=hi)(h2:hi<=s.len)(h3:hi<=mx) :
 cV ⟨if mx=lo then s.a else s.a.map (·.add (lo*sz)),hi-lo,mx-lo⟩ sz ((xs.drop (lo*sz)).take ((hi-lo)*sz)) U F:=by
 have e:=h.1;have e1:hi*sz<=s.len*sz:=l7 _ h2;have e2:(hi-lo)*sz=hi*sz-lo*sz:=Nat.sub_mul _ _ _;have g:lo*sz<=hi*sz:=l7 _ h1;refine⟨by rw[zZ,j5];simp only;omega,?_⟩;by_cases hm:mx=lo
 ·left;have:hi-lo=0:=by omega
  rw[this,tU,xX]
 ·rcases h.2 with h0|⟨b,o,cs,hb,ha,hq,hc⟩
  ·left;subst h0;simp
  ·refine .inr ⟨b,o+lo*sz,cs,hb,?_,hq,λj d=>?_⟩
   ·simp only[zB hm,ha,zX,add_lit]
   ·rw[zZ,j5]at d;rw[wD,hc _ O,zj,kP,zC O]
inductive sJ where
 | hd|dD|mp
 | li (k:Nat)
 deriving DecidableEq
structure gS where
 p:Nat
 m:Nat
 dD:Sl
 ps:List (Nat×Nat)
def iQ (ps:List (Nat×Nat))(k:Nat):Option Nat:=(ps.find? λx=>x.1==k).map (·.2)
def jS (ps:List (Nat×Nat)):List (Int×Option Addr):=ps.map λx=>((x.1:Int),some ⟨x.2,0,none⟩)
def mQ (s:Sl)(l:Li):List Value:=[.slice s.a s.len s.cap,.int .i64 (l.lim:Int),.int .i64 (l.low:Int)]
def iO (b:Nat)(l:Li):Hp->Rg->Prop:=λU F=>F b/\fJ l/\∃s:Sl,bY U b (mQ s l)/\cV s 1 (Wo l.os) U (λq=>F q/\q≠b)/\s.len<=s.cap
def pa (b:Option Nat)(l:Option Li):Hp->Rg->Prop:=λU F=>match b,l with
 | some b,some l=>iO b l U F
 | none,some l=>l=ik
 | _,none=>True
def zx (Y:gS)(bud:Nat):List Value:=[.slice Y.dD.a Y.dD.len Y.dD.cap,.int .i64 (bud:Int),.map (some Y.m)]
def CC (tb:List bZ)(bud:Nat)(ls:List Li)(Y:gS):sJ->Hp->Rg->Prop
 | .hd=>iw Y.p (zx Y bud)
 | .dD=>cV Y.dD 3 (fZ tb)
 | .mp=>jB Y.m .i64 .p (jS Y.ps)
 | .li k=>pa (iQ Y.ps k) ls[k]?
theorem iO.loc (b:Nat)(l:Li):dM (iO b l):=by
 rintro U y F G ⟨p,m,s,j,w,x⟩ u a;have i:=a b j.lt p;obtain⟨e,r⟩:=j;exact⟨i.1,m,s,⟨e,i.2.trans r⟩,cV.loc _ _ _ _ _ _ _ w u λq g d=>⟨⟨(a q g d.1).1,d.2⟩,(a q g d.1).2⟩,x⟩
theorem pa.loc (b:Option Nat)(l:Option Li):dM (pa b l):=by
 intro U σ' F G h hz hs;unfold pa at *;split at h
 ·exact iO.loc _ _ _ _ _ _ h hz hs
 ·exact h
 ·trivial
theorem CC.loc {tb:List bZ}{bud:Nat}{ls:List Li}{Y:gS}:∀i,dM (CC tb bud ls Y i)
 | .hd=>iw.loc _ _
 | .dD=>cV.loc _ _ _
 | .mp=>jB.loc _ _ _ _
 | .li k=>pa.loc _ _
structure eC (U:Hp) (F:Rg) (Y:gS) (tb:List bZ) (bud:Nat) (ls:List Li):Prop where
 nC:tb.length<=40
 ok:∀c∈tb,c.ok
 len:ls.length=tb.length
 keys:∀x∈Y.ps,x.1<tb.length
 sep:Sep (CC tb bud ls Y) U F
variable {U:Hp}{F G:Rg}{Y:gS}{tb:List bZ}{bud:Nat}{ls:List Li}{b k:Nat}{l:Li}
theorem eC.loc:dM λU F=>eC U F Y tb bud ls:=λU d F G h b a=>⟨h.nC,h.ok,h.len,h.keys,Sep.loc CC.loc _ _ _ _ h.sep b a⟩
theorem eC.bO {σ':Hp}(h:eC U F Y tb bud ls)(e:bK U σ'):eC σ' F Y tb bud ls:=dM.bO eC.loc h e
theorem eC.hd (h:eC U F Y tb bud ls):bY U Y.p (zx Y bud):=by
 obtain⟨G,b,a⟩:=h.sep.get .hd;exact a.2
theorem eC.jE (h:eC U F Y tb bud ls):cV Y.dD 3 (fZ tb) U F:=by
 obtain⟨G,d,a⟩:=h.sep.get .dD;exact aH.mono a λb _ a=>d b a
theorem eC.pv (h:eC U F Y tb bud ls):Y.dD.len=tb.length:=by
 have:=h.jE.1;rw[VV]at this;omega
theorem eC.map (h:eC U F Y tb bud ls):dH U Y.m .i64 .p (jS Y.ps):=by
 obtain⟨G,b,a⟩:=h.sep.get .mp;exact a.2
theorem BO (ps:List (Nat×Nat))(k:Nat):bV (α:=Option Addr) (jS ps) (k:Int)=(iQ ps k).map λb=>some ⟨b,0,none⟩:=by
 induction ps with
 | nil=>rfl
 | cons x l ih=>
  simp only[bV,jS,iQ,zR,ux]at *;have e:(((x.1:Nat):Int)==(k:Int))=(x.1==k):=lR _ _;rw[e];cases x.1==k
  ·exact ih
  ·rfl
theorem EA {ps:List (Nat×Nat)}(h:iQ ps k=none):∀x∈ps,x.1≠k:=by
 unfold iQ at h;simp only[rO,nS,zT]at h;exact h
theorem IP {ps:List (Nat×Nat)}(h:iQ ps k=none)(b:Nat):dB (α:=Option Addr) (jS ps) (k:Int) (some ⟨b,0,none⟩)=jS (ps++[(k,b)]):=by
 unfold dB;rw[zB]
 ·simp[jS]
 ·simp only[jS,List.any_map,kf,Function.comp,zT,not_exists,not_and];intro x hx e;exact EA h x hx O
theorem Ux {ps:List (Nat×Nat)}(h:iQ ps k=none)(b j:Nat):iQ (ps++[(k,b)]) j=if j=k then some b else iQ ps j:=by
 have a:=EA h;unfold iQ at *;rw[List.find?_append];by_cases hj:j=k
 ·subst hj;have:ps.find? (λx=>x.1==j)=none:=by simpa using h
  rw[this];simp
 ·rw[zB hj];cases hf:ps.find? (λx=>x.1==j)with
  | none=>
   have:(k==j)=false:=by simpa using λe=>hj e.symm
   simp[this]
  | some x=>simp
theorem Dm {ps:List (Nat×Nat)}(hn:((jS ps).map (·.1)).Nodup)(h:(k,b)∈ps):iQ ps k=some b:=by
 induction ps with
 | nil=>simp at h
 | cons x l ih=>
  simp only[jS,zR,zt]at hn;unfold iQ;rw[ux];rcases zW.1 h with rfl|h
  ·simp
  ·have:(x.1==k)=false:=by
    have:x.1≠k:=λe=>hn.1 (zE.2 ⟨(((k:Nat):Int),some ⟨b,0,none⟩),zE.2 ⟨(k,b),h,rfl⟩,by rw[e]⟩);simpa using this
   rw[this];exact ih hn.2 h
theorem UV (h:eC U F Y tb bud ls){R:aO}(hR:R true U):W7.c (aW Y.p) U R:=by
 refine W7.o ?_;unfold W7.v;exact bW.intro (cD rfl (aG (h.hd.rM rfl hR)))
theorem eC.vZ (h:eC U F Y tb bud ls)(hb:iQ Y.ps k=some b)(hl:ls[k]?=some l):∃G:Rg,(∀q,G q->F q)/\iO b l U G/\¬G Y.m ∧
 ∀(σ':Hp) (l':Li) (G':Rg),Ext G U σ'->(∀q,G' q->Grow G U q)->iO b l' σ' G'->Ext F U σ'/\eC σ' (λq=>F q/\q<U.size/\¬G q\/G' q) Y tb bud (ls.set k l'):=by
 have p:=(cW.1 hl).1;obtain⟨G,s,g,a,d⟩:=h.sep.jW CC.loc (.li k);have g:iO b l U G:=by
  simp only[CC,pa,hb,hl]at g;exact g
 have i:¬G Y.m:=by
  obtain⟨H,_,hd,r⟩:=a .mp (by intro e;cases e);exact hd _ r.1
 refine⟨G,s,g,i,λσ' l' G' e x u=>⟨e.sub s,h.nC,h.ok,by rw[nF];exact h.len,h.keys,?_⟩⟩;refine d σ' (CC tb bud (ls.set k l') Y) G' (λj w=>?_) e x ?_ (CC.loc _)
 ·cases j<;>try rfl
  rename_i m;have i:m≠k:=λe=>w (by rw[e]);simp only[CC,zk (Ne.symm i)]
 ·simp only[CC,pa,hb,zL p];exact u
theorem eC.mono (h:eC U F Y tb bud ls)(hs:∀q,q<U.size->F q->G q):eC U G Y tb bud ls:=dM.mono eC.loc h hs
theorem eC.cut (h:eC U F Y tb bud ls):eC U (Cut F U) Y tb bud ls:=dM.cut eC.loc h
theorem eC.fA {v:Hp}(h:eC v (Grow F U) Y tb bud ls)(e0:Ext F U v)(hb:iQ Y.ps k=some b)(hl:ls[k]?=some l):∃G:Rg,iO b l v G ∧
 ∀(σ':Hp) (l':Li) (G':Rg),Ext G v σ'->(∀q,G' q->Grow G v q)->iO b l' σ' G'->Ext F U σ'/\eC σ' (Grow F U) Y tb bud (ls.set k l'):=by
 obtain⟨G,p,m,_,d⟩:=h.vZ hb hl;refine⟨G,m,λσ' l' G' e i g=>?_⟩;obtain⟨e1,j⟩:=d σ' l' G' e i g;refine⟨e0.jx e1,j.mono λq _ a=>?_⟩;have:=e0.1;rcases a with a|a
 ·exact a.1
 ·rcases i q a with h2|h2
  ·exact p q h2
  ·exact .inr O
theorem IE (h:eC U F Y tb bud ls)(hk:k<tb.length){R:Option Addr->Hp->Prop}(hR:∀σ' Y' b,Ext F U σ'->Y'.p=Y.p->iQ Y'.ps k=some b->eC σ' (Grow F U) Y' tb bud ls->R (some ⟨b,0,none⟩) σ') :
 Zk.c (aW Y.p) (k:Int) U R:=by
 refine Zk.o ?_;unfold Zk.v;have A:k<ls.length:=by rw[h.len];exact hk
 have E:ls[k]?=some ls[k]:=cT A;generalize ls[k]=l at E;have N:=h.pv;refine UV h (bW.intro (cB rfl ?_));refine bW.intro (fT O (aG (h.hd.rS rfl ?_)));refine fT aC ?_;refine Jn.intro (aG (h.hd.rM rfl ⟨_,h.map,?_⟩));rw[BO];cases hf:iQ Y.ps k with
 | some b=>
  refine cB rfl (aG (h.hd.rM rfl ⟨_,h.map,?_⟩));rw[BO,hf];exact hR U Y b (Ext.refl _ _) rfl hf (h.mono λq _ a=>.inl a)
 | none=>
  refine cD rfl (aG (h.hd.rM rfl (nw (cs:=[.slice none 0 0,.int .i64 1,.int .i64 0]) λv S e B=>?_)));obtain⟨G,H,s,Q,hd,g,w,u⟩:=h.cut.sep.oc CC.loc .mp (.li k) (by intro e;cases e);have M:∀q,G q->F q:=λq a=>(s q a).1;have g:jB Y.m .i64 .p (jS Y.ps) U G:=g;have w:l=ik:=by
   simp only[CC,pa,hf,E]at w;exact w
  have K:=g.2.lt;have C:dH v Y.m .i64 .p (jS Y.ps):=e.fO g.2 id;refine⟨Y.m,_,rfl,C,λv2 D r=>?_⟩;rw[IP hf]at r;have e2:Ext F U v2:=(bK.to e).only D (.inl (M _ g.1));have J:Ext (λq=>G q\/H q) U v2:=(bK.to e).only D (.inl (.inl g.1));have z:bY v2 U.size [.slice none 0 0,.int .i64 1,.int .i64 0]:=Ws D B O;have d:eC v2 (Grow F U) {Y with ps:=Y.ps++[(k,U.size)]} tb bud ls:=by
   refine⟨h.nC,h.ok,h.len,λx i=>?_,?_⟩
   ·rcases zK.1 i with i|i
    ·exact h.keys x i
    ·simp only[zN]at i;subst i;exact hk
   refine(Sep.loc CC.loc).mono (u v2 (CC tb bud ls {Y with ps:=Y.ps++[(k,U.size)]}) G (· = U.size) (λj y L=>?_) J (λq a=>.inl (.inl a)) (λq a=>.inr O) (λq y L=>?_) ⟨g.1,r⟩ ?_ CC.loc) λq _ a=>?_
   ·cases j<;>first|rfl|exact absurd rfl y|skip
    rename_i m;have P:m≠k:=λe=>L (by rw[e]);simp only[CC,Ux hf,zB P]
   ·have:=(s q y).2;omega
   ·simp only[CC,Ux hf,zS,E,w,pa];exact⟨rfl,fJ.nil,⟨none,0,0⟩,z,cV.nil _ _ _ _,zD _⟩
   ·rcases a with a|a|a
    ·exact .inl a.1.1
    ·exact .inl (M q a)
    ·exact .inr O
  refine aG (d.hd.rM rfl ⟨_,d.map,?_⟩);rw[BO,Ux hf,zC rfl];exact hR v2 {Y with ps:=Y.ps++[(k,U.size)]} U.size e2 rfl (by show iQ (Y.ps++[(k,U.size)]) k=_;rw[Ux hf,zC rfl]) d
theorem Gx (h:eC U F Y tb bud ls)(hk:k<tb.length){R:Option Addr->Int->Hp->Prop}(hR:∀σ' Y' b,Ext F U σ'->Y'.p=Y.p->iQ Y'.ps k=some b->eC σ' (Grow F U) Y' tb bud ls->R (some ⟨b,0,none⟩) 0 σ') :
 Xk.c (aW Y.p) (k:Int) U R:=by
 refine Xk.o ?_;unfold Xk.v;exact UV h (cB rfl (IE h hk λσ' Y' b e d a g=>cB rfl (hR σ' Y' b e d a g)))
theorem bR.qP {s:Sl}{sz:Nat}{xs:List Value}(h:bR s sz xs U F):s.len<=s.cap:=by
 rcases h.2 with⟨q1,q2⟩|⟨_,_,_,_,_,q,_⟩
 ·omega
 ·exact q
theorem Hk (h:iO b l U G){m:Nat}(hm:m<=l.os.length){R:Sl->Hp->Prop}
 (hR:∀s z σ',Ext (· = b) U σ'->U.size<=z->bR s 1 (Wo (l.os.take m)) σ' (λq=>U.size<=q/\q<z)->iO b (gp m l).2 σ' (λq=>q=b\/z<=q)->R s σ') :
 W3.c (aW b) (m:Int) U R:=by
 refine W3.o ?_;unfold W3.v;obtain⟨W,a,s,D,H,X⟩:=h;have P:s.len=l.os.length:=by have:=H.1;simp[Wo]at this;omega
 have y:=a.many;have L:=a.low;have w:=cV.sub H (lo:=0) (hi:=m) (mx:=s.cap) O O O;have e1:((Wo l.os).drop (0*1)).take ((m-0)*1)=Wo (l.os.take m):=by simp[Wo]
 rw[e1]at w;refine aG (D.rS rfl (iT (lo:=0) O aC aC (U8 w Vx aC λs1 K Q x E=>?_)));have i:=x.bT D id;have F:=aH.bO H x;have u:=cV.sub F (lo:=m) (hi:=s.len) (mx:=s.cap) O O O;have e2:((Wo l.os).drop (m*1)).take ((s.len-m)*1)=Wo (l.os.drop m):=by
  rw[mN (by simp[Wo];omega)];simp[Wo]
 rw[e2]at u;refine aG (i.rS rfl (iT aC aC aC (U8 u Vx aC λs2 N J C p=>?_)));have A:=C.bT i id;refine aG (A.s1 (by simp[mQ]) λv3 o3 d=>aG (d.rI rfl (aG (d.rS rfl (aG (d.s1 (by simp[mQ]) λv4 o4 r=>?_))))));have e:Ext (· = b) N v4:=o3.ext.trans o4.ext;have M:=D.lt;have B:=x.1;have g:s2.len=l.os.length-m:=by rw[J];simp only;omega
 refine hR s1 K.size v4 ((bK.to (x.trans C)).trans e) B ?_ ⟨.inl rfl,yr a,s2,?_,?_,bR.qP p⟩
 ·refine aI.bS (aI.bO (aI.mono E (G:=λq=>U.size<=q/\q<K.size) λq j S=>⟨S,j⟩) C) e λq _ j V=>by omega
 ·have:(if((s2.len:Nat):Int)<(l.low:Int)then((s2.len:Nat):Int)else(l.low:Int))=((min l.low (l.os.length-m):Nat):Int):=by rw[g];split<;>omega
  rw[this]at r;exact r
 ·refine aH.mono (aH.bS p.gQ e λq _ j V=>O) λq _ j=>⟨.inr j,O⟩
theorem MV (h:iO b l U G){sl:Sl}{xs:List Int}{X:Rg}(hs:cV sl 1 (Wo xs) U X)(hx:xs≠[])(hfit:l.os.length+xs.length<=256){R:aN}
 (hR:∀σ',Ext (· = b) U σ'->iO b (dZ xs l) σ' (λq=>q=b\/U.size<=q)->R 0 σ'):WU.c (aW b) sl U R:=by
 refine WU.o ?_;unfold WU.v;obtain⟨J,i,s,g,d,K⟩:=h;have C:s.len=l.os.length:=by have:=d.1;simp[Wo]at this;omega
 have E:sl.len=xs.length:=by have:=hs.1;simp[Wo]at this;omega
 have y:=pX.2 hx;have z:dZ xs l = {l with os:=l.os++xs}:=by unfold dZ;rw[zB O]
 refine aG (g.rS rfl (cP (m:=l.os.length+xs.length) aC O (fT O (aG (g.rS rfl ?_)))));refine Xb.o ?_;unfold Xb.v;refine iT (lo:=0) aC aC aC ?_;have A:=g.lt;refine⟨Wo l.os,Wo xs,by simp[Wo];omega,by simp[Wo];omega,?_,hs.rd,Vx,?_,by simp only;omega,λu=>by simp only at u;omega,λx c w=>?_⟩
 ·by_cases h0:s.len=0
  ·have:l.os=[]:=wu.1 O;rw[this];simp only[h0,zS];cases s.a<;>simp[Rd,Wo]
  ·simp only[zB h0,tU];have:=d.rd;cases ha:s.a with
   | none=>rw[ha]at this;simpa[Rd]using this
   | some a=>rw[ha]at this;simpa[Rd,Addr.add_zero']using this
 ·simp only;have:(s.len-0+sl.len)*8<=256*8:=l0 O O;omega
 ·refine nw λv H e r=>aG ((e.bT g id).s1 (by simp[mQ]) λB o2 p=>?_);have D:l.os.length+xs.length<=c:=by simp only at w;omega
  refine hR B ((bK.to e).trans o2.ext) ?_;rw[z];have:=yf (xs:=xs) i;rw[z]at this;refine⟨.inl rfl,this,⟨some ⟨U.size,0,none⟩,s.len-0+sl.len,c⟩,p,⟨by simp[Wo];omega,.inr ⟨U.size,0,_,⟨.inr (zD _),O⟩,rfl,(Ws o2 r O).q,λj F=>?_⟩⟩,by simp only;omega⟩;simp only[Wo,zl,zO]at F;rw[zH,j3,←j3,ze (by simp[Wo];omega)];simp[Wo]
theorem N8 (h:iO b l U G){sl:Sl}{xs:List Int}{X:Rg}(hs:cV sl 1 (Wo xs) U X)(hfit:¬l.os.length+xs.length<=256)(hxs:xs.length<=1000000){R:aN}
 (hR:R 6 U):WU.c (aW b) sl U R:=by
 refine WU.o ?_;unfold WU.v;obtain⟨p,d,s,g,a,j⟩:=h;have i:s.len=l.os.length:=by have:=a.1;simp[Wo]at this;omega
 have e:sl.len=xs.length:=by have:=hs.1;simp[Wo]at this;omega
 have:=d.many;exact aG (g.rS rfl (cP (m:=l.os.length+xs.length) aC O (lQ O hR)))
end Go.Ar
namespace Go.Ar
open Go Go.Vc Go.Proofs
variable {U:Hp}{F G:Rg}{Y:gS}{tb:List bZ}{bud:Nat}{ls:List Li}{b k:Nat}{l:Li}{c:bZ}
theorem eC.cls (h:eC U F Y tb bud ls)(hc:tb[k]?=some c):c.ok/\k<tb.length:=⟨h.ok c (zG hc),(cW.1 hc).1⟩
theorem iO.st {v:Hp}(h:iO b l U G){s:Sl}{l':Li}(ho:Ext (· = b) U v)(hb:bY v b (mQ s l'))(hs:cV s 1 (Wo l'.os) U (λq=>G q/\q≠b))(hc:s.len<=s.cap)(ok:fJ l'):iO b l' v G:=
 ⟨h.1,ok,s,hb,aH.bS hs ho λq _ a d=>a.2 d,hc⟩
theorem kR (h:eC U F Y tb bud ls)(hc:tb[k]?=some c)(hl:ls[k]?=some l){R:Int->Int->Hp->Prop}
 (hR:∀σ' Y',Ext F U σ'->Y'.p=Y.p->eC σ' (Grow F U) Y' tb bud (ls.set k (Q0 c l).2)->R ((Q0 c l).1.getD 0) (if(Q0 c l).1.isSome then 0 else 4) σ'):X2.c (aW Y.p) (k:Int) U R:=by
 obtain⟨u,hk⟩:=h.cls hc;refine X2.o ?_;unfold X2.v;refine Gx h hk λv Y' b e hp hb X=>cB rfl ?_;obtain⟨G,Z,J⟩:=X.fA e hb hl;have z:=Z;obtain⟨P,i,s,g,M,w⟩:=Z;have C:=X.hd;rw[hp]at C;have Q:s.len=l.os.length:=by have:=M.1;simp[Wo]at this;omega
 have o1:=i.low;have o2:=i.many;have o3:=i.lim;have o4:=i.nD;have a:=D0 u i;have fin:∀v' G',Ext G v v'->(∀q,G' q->Grow G v q)->iO b (Q0 c l).2 v' G'->R ((Q0 c l).1.getD 0) (if(Q0 c l).1.isSome then 0 else 4) v':=λv' G' W hg S=>by
  obtain⟨e2,h2⟩:=J v' _ G' W hg S;exact hR v' Y' e2 hp h2
 unfold bZ.ok at u;have A:∀{v':Hp},Ext (· = b) v v'->Ext G v v':=λW=>W.sub λq B=>by rw[B];exact P
 refine aG (g.rS rfl ?_);by_cases h0:l.os=[]
 ·have e1:(Q0 c l).1=none:=by unfold Q0;rw[h0];rfl
  have e2:(Q0 c l).2=if l.lim<c.batch then{l with lim:=l.lim+1}else{l with lim:=min (l.lim+c.batch) 128}:=by unfold Q0;rw[h0];rfl
  rw[e1,e2]at fin;rw[e2]at a;refine cD (by simp[Q,h0]) (aG (C.rS rfl (GV X.jE hc (d:=2) O ?_)));simp only[zB (show ¬(2=0) by omega),zB (show ¬(2=1) by omega)];refine aG (g.rI rfl (cQ (λc1=>?_) λc1=>?_))
  ·have y:l.lim<c.batch:=by omega
   rw[zC y]at fin a;refine aG (g.rI rfl (cP (m:=l.lim+1) O O (aG (g.s1 (by simp[mQ]) λv' E j=>?_))));exact fin v' G (A E.ext) (λq B=>.inl B) (z.st E.ext j M w a)
  ·have y:¬l.lim<c.batch:=by omega
   rw[zB y]at fin a;refine aG (g.rI rfl (cP (m:=l.lim+c.batch) O O (aG (g.s1 (by simp[mQ]) λv' E j=>?_))));refine fin v' G (A E.ext) (λq B=>.inl B) (z.st E.ext ?_ M w a);have:(if(128:Int)<((l.lim+c.batch:Nat):Int)then(128:Int)else((l.lim+c.batch:Nat):Int))=((min (l.lim+c.batch) 128:Nat):Int):=by split<;>omega
   rw[this]at j;exact j
 ·have hpos:=pX.2 h0;obtain⟨x,hx⟩:∃x,l.os[l.os.length-1]?=some x:=⟨_,cT O⟩;have L:l.os.getLast?=some x:=by rw[List.getLast?_eq_getElem?];exact hx
  have e1:(Q0 c l).1=some x:=by unfold Q0;rw[L]
  have e2:(Q0 c l).2 = {l with os:=l.os.dropLast,low:=min l.low (l.os.length-1)}:=by unfold Q0;rw[L]
  rw[e1,e2]at fin;rw[e2]at a;refine cB (by simp only[mJ];omega) ?_;refine aG (g.rS rfl (cP (m:=l.os.length-1) aC O (aG (g.rS rfl (M.mf hx (aG (g.rS rfl ?_)))))));have r:=cV.sub M (lo:=0) (hi:=l.os.length-1) (mx:=s.cap) O O O;have ed:((Wo l.os).drop (0*1)).take ((l.os.length-1-0)*1)=Wo l.os.dropLast:=by simp[Wo,xm]
  rw[ed]at r;refine iT (lo:=0) O aC aC (aG (g.s1 (by simp[mQ]) λv1 V D=>aG (D.rI rfl (aG (D.s1 (by simp[mQ]) λv2 N K=>?_)))));have H:=V.ext.trans N.ext;refine fin v2 G (A H) (λq B=>.inl B) (z.st H ?_ r aC a);have:(if((l.os.length-1:Nat):Int)<(l.low:Int)then((l.os.length-1:Nat):Int)else(l.low:Int))=((min l.low (l.os.length-1):Nat):Int):=by split<;>omega
  rw[this]at K;exact K
theorem Pt (h:eC U F Y tb bud ls)(hc:tb[k]?=some c)(hl:ls[k]?=some l){R:Int->Int->Hp->Prop}
 (hR:∀σ' Y',Ext F U σ'->Y'.p=Y.p->eC σ' (Grow F U) Y' tb bud ls->R ((nZ c l:Nat):Int) 0 σ'):X7.c (aW Y.p) (k:Int) U R:=by
 obtain⟨m,A⟩:=h.cls hc;refine X7.o ?_;unfold X7.v;refine Gx h A λv Y' b e j z g=>cB rfl ?_;obtain⟨G,x,r⟩:=g.fA e z hl;obtain⟨w,y,s,i,B,u⟩:=x;have a:=g.hd;rw[j]at a;refine aG (i.rI rfl (aG (a.rS rfl (GV g.jE hc (d:=2) O ?_))));simp only[zB (show ¬(2=0) by omega),zB (show ¬(2=1) by omega)];have:(if(c.batch:Int)<(l.lim:Int)then(c.batch:Int)else(l.lim:Int))=((nZ c l:Nat):Int):=by unfold nZ;split<;>omega
 rw[this];exact hR v Y' e j g
theorem On (l:List Int)(i:Nat)(h:i<l.length):l.reverse[i]?=l[l.length-1-i]? := by
 rw[List.getElem?_reverse h]
theorem O8 {s:Sl}{xs:List Int}(h:bR s 1 (Wo xs) U F)(hlen:xs.length<=1000000){R:aP}(hR:∀σ',Ext F U σ'->bR s 1 (Wo xs.reverse) σ' F->R σ'):WS.c s U R:=by
 refine WS.o ?_;unfold WS.v;have K:s.len=xs.length:=by have:=h.1;simp[Wo]at this;omega
 let jd (i:Nat):List Int:=(List.range xs.length).map λj=>if j<i\/xs.length-i<=j then xs.getD (xs.length-1-j) 0 else xs.getD j 0
 have k5:∀i,(jd i).length=xs.length:=λi=>by simp[jd]
 have bV:∀i j,j<xs.length->(jd i)[j]?=some (if j<i\/xs.length-i<=j then xs.getD (xs.length-1-j) 0 else xs.getD j 0):=λi j e=>by simp[jd,e]
 have M:jd 0=xs:=by
  apply zp;intro j;by_cases e:j<xs.length
  ·rw[bV 0 j e,zB O];simp[zP,cT e]
  ·rw[zV (by rw[k5];omega),zV O]
 have y:∀i,xs.length<=2*i+1->i<=xs.length->jd i=xs.reverse:=by
  intro i E J;apply zp;intro j;by_cases e:j<xs.length
  ·rw[bV i j e,On xs j e,zP,zP,cT (show xs.length-1-j<xs.length by omega),cT e];split
   ·rfl
   ·have:xs.length-1-j=j:=by omega
    simp only[this];rfl
  ·rw[zV (by rw[k5];omega),zV aE]
 have step:∀i,2*i+1<xs.length->((jd i).set i (xs.getD (xs.length-1-i) 0)).set (xs.length-1-i) (xs.getD i 0)=jd (i+1):=by
  intro i hi;apply zp;intro j;by_cases e:j<xs.length
  ·rw[bV (i+1) j e,mU,mU];simp only[nF,k5];by_cases e1:xs.length-1-i=j
   ·subst e1;rw[zC rfl,zC O,zC O]
    congr 2;omega
   ·rw[zB e1];by_cases e2:i=j
    ·subst e2;rw[zC rfl,zC O,zC O]
    ·rw[zB e2,bV i j e];by_cases e3:j<i\/xs.length-i<=j
     ·rw[zC e3,zC O]
     ·rw[zB e3,zB O]
  ·rw[zV (by simp[k5];omega),zV (by rw[k5];omega)]
 refine xy ?_;rw[Uv O O];refine UC (a:=bN) (bb:=bN) (λ(i j:Int) v=>∃n:Nat,i=(n:Int)/\j=(xs.length:Int)-1-n/\n<=xs.length/\Ext F U v/\bR s 1 (Wo (jd n)) v F) (λi _ _=>xs.length-i.toNat) ⟨0,rfl,O,O,Ext.refl _ _,by rw[M];exact h⟩ ?_;rintro i j v ⟨n,rfl,rfl,W,ev,w⟩;refine cQ (λL=>?_) λP=>?_
 ·have r:2*n+1<xs.length:=by omega
  have B:(xs.length:Int)-1-n=((xs.length-1-n:Nat):Int):=by omega
  rw[B];have D:=bV n (xs.length-1-n) O;have C:=bV n n O;rw[zB O]at D C;rw[zP]at D C;obtain⟨b,p⟩:∃b,s.a=some ⟨b,0,none⟩:=by
   rcases w.2 with⟨q1,q2⟩|⟨b,cs,_,A,_⟩
   ·omega
   ·exact⟨b,A⟩
  have d:∀u,bR s 1 (Wo (jd n)) u F->∀(j:Nat) (x:Int),(jd n)[j]?=some x->cell u (Addr.add ⟨b,0,none⟩ ((j:Int).toNat*1))=some (.int .i64 x):=λu z j x N=>by
   obtain⟨G,o,A,Q⟩:=z.gQ.cell (j:=j) (v:=.int .i64 x) (by simp[Wo,N]);rw[p]at A;cases A;rw[add_lit,show 0+(j:Int).toNat*1=0+j by omega];exact Q
  rw[p];refine⟨λu=>bR s 1 (Wo (jd n)) u F,w,?_⟩;refine ix O O ⟨_,λu z=>d u z _ _ D,?_⟩;refine ix O O ⟨_,λu z=>d u z _ _ C,?_⟩;refine ix O O ?_;refine w.st (j:=n) (by simp[Wo,k5];omega) (λG g=>by rw[p]at g;cases g;rw[add_lit];simp) λS e1 E=>?_;refine ix O O ?_;refine E.st (j:=xs.length-1-n) (by simp[Wo,k5];omega) (λG g=>by rw[p]at g;cases g;rw[add_lit];simp) λV e2 J=>?_;refine cP (m:=n+1) O O (cP (m:=xs.length-1-n-1) O O ⟨⟨n+1,rfl,O,O,(ev.trans e1).trans e2,?_⟩,O⟩);rw[←step n r,zP,zP];have H:∀(l:List Int) (i:Nat) (x:Int),Wo (l.set i x)=(Wo l).set i (.int .i64 x):=λl i x=>by simp[Wo,xd]
  rw[H,H];exact J
 ·rw[y n O O]at w;exact hR v ev w
theorem OL (h:iO b l U G){sl:Sl}(hz:sl.len=0){R:aN}(hR:∀σ',Ext (· = b) U σ'->iO b l σ' G->R 0 σ'):WU.c (aW b) sl U R:=by
 refine WU.o ?_;unfold WU.v;have C:=h;obtain⟨D,i,s,z,g,E⟩:=h;have r:s.len=l.os.length:=by have:=g.1;simp[Wo]at this;omega
 have u:=i.many;refine aG (z.rS rfl (cP (m:=l.os.length) aC O (fT O (aG (z.rS rfl ?_)))));refine Xb.o ?_;unfold Xb.v;refine iT (lo:=0) aC aC aC ?_;have d:=cV.sub g (lo:=0) (hi:=s.len) (mx:=s.len) O O O;have B:((Wo l.os).drop (0*1)).take ((s.len-0)*1)=Wo l.os:=by rw[r,mN (by simp[Wo])];simp
 rw[B]at d;have key:∀(e:Sl),cV e 1 (Wo l.os) U (λq=>G q/\q≠b)->e.len<=e.cap->bU (some ⟨b,0,none⟩) λx=>dX (x.add 0) (.slice e.a e.len e.cap) U λv2=>R 0 v2:=λe p y=>by
  refine aG (z.s1 (by simp[mQ]) λv2 o2 w=>hR v2 o2.ext ?_);exact C.st (l':=l) (s:=e) o2.ext w p y i
 refine⟨Wo l.os,[],by simp[Wo];omega,by simp[hz],d.rd,by cases sl.a<;>simp[Rd],by simp,?_,by simp only;omega,λA=>?_,λj=>absurd (by simp only[hz];omega) j⟩
 ·simp only[hz];have:(s.len-0+0)*8<=256*8:=l0 O O;omega
 ·simp only[hz,j6];cases ha:(if s.len=0 then s.a else s.a.map (·.add (0*1)))
  ·rw[ha]at d;exact key ⟨none,s.len-0,s.len-0⟩ d (zD _)
  ·rw[ha]at d;exact key ⟨some _,s.len-0,s.len-0⟩ d (zD _)
theorem C0 (h:iO b l U G){sl:Sl}{xs:List Int}{X:Rg}(hs:cV sl 1 (Wo xs) U X)(hfit:l.os.length+xs.length<=256){R:aN}
 (hR:∀σ',Ext (· = b) U σ'->iO b (dZ xs l) σ' (Grow G U)->R 0 σ'):WU.c (aW b) sl U R:=by
 by_cases hx:xs=[]
 ·subst hx;have g:dZ [] l=l:=by unfold dZ;rw[zB (by simp only[lE]at hfit ⊢;omega)];simp
  refine OL h (by have:=hs.1;simp[Wo]at this;omega) λσ' e d=>hR σ' e ?_;rw[g];exact(iO.loc _ _).mono d λq _ a=>.inl a
 ·exact MV h hs hx hfit λσ' e d=>hR σ' e ((iO.loc _ _).mono d λq _ a=>a.imp (λe=>by rw[e];exact h.1) id)
theorem SF (h:eC U F Y tb bud ls)(hc:tb[k]?=some c)(hl:ls[k]?=some l){sl:Sl}{xs:List Int}{X:Rg}(hs:cV sl 1 (Wo xs) U X)(hX:∀q,X q->¬F q)(hfit:l.os.length+xs.length<=256){R:aN}
 (hR:∀σ' Y',Ext F U σ'->Y'.p=Y.p->eC σ' (Grow F U) Y' tb bud (ls.set k (dZ xs.reverse l))->R 0 σ'):XW.c (aW Y.p) (k:Int) sl U R:=by
 obtain⟨u,C⟩:=h.cls hc;have x:sl.len=xs.length:=by have:=hs.1;simp[Wo]at this;omega
 refine XW.o ?_;unfold XW.v;refine Gx h C λv Y' b e y B w=>cB rfl ?_;have m:=aH.bS hs e λq _ a=>hX q a;refine U8 m Vx O λs1 H A e1 r=>?_;refine O8 r O λv2 e2 i=>?_;have d:bK v v2:=Ext.fresh e1 e2 λq a=>a;obtain⟨G,s,g⟩:=(w.bO d).fA (e.trans (bK.to d)) B hl;refine C0 s i.gQ aE λv3 z j=>?_;obtain⟨E,D⟩:=g v3 _ _ (z.sub λq a=>a▸s.1) (λq a=>a) j;exact hR v3 Y' E y D
theorem Z9 {α:Type}{ls:List α}{k:Nat}{l:α}(h:ls[k]?=some l):ls.set k l=ls:=by
 apply zp;intro j;by_cases hj:j=k
 ·subst hj;rw[zL (cW.1 h).1,h]
 ·rw[zk (Ne.symm hj)]
theorem Sf (h:eC U F Y tb bud ls)(hc:tb[k]?=some c)(hl:ls[k]?=some l)(x:Int){R:Sl->Int->Hp->Prop}
 (hR:∀σ' Y' s e (Q:Rg),Ext F U σ'->Y'.p=Y.p->(l.os.length+1<=256->e=0)->(∀q,Q q->U.size<=q)->bR s 1 (Wo (dJ c x l).1) σ' Q->eC σ' (λq=>Grow F U q/\¬Q q) Y' tb bud (ls.set k (dJ c x l).2)->R s e σ'):Yv.c (aW Y.p) (k:Int) x U R:=by
 obtain⟨W,hk⟩:=h.cls hc;refine Yv.o ?_;unfold Yv.v;refine Gx h hk λv Y' b e hp hb h'=>cB rfl ?_;have hσv:=e.1;obtain⟨G,hG,hL,_,P⟩:=h'.vZ hb hl;have hblt:b<v.size:=by obtain⟨_,_,s,hbk,_⟩:=hL;exact hbk.lt
 have u:=hL.1;have V:=hL.2.1;have hmany:=V.many;have r:∀(σ':Hp) (l':Li) (G':Rg),Ext G v σ'->(∀q,G' q->Grow G v q)->iO b l' σ' G'->Ext F U σ'/\eC σ' (λq=>Grow F U q/\q<v.size/\¬G q\/G' q) Y' tb bud (ls.set k l'):=λσ' l' G' e' hg hL'=>by
  obtain⟨e1,h1⟩:=P σ' l' G' e' hg hL';exact⟨e.jx e1,h1⟩
 have hin:∀{G':Rg} {q:Nat},(∀q,G' q->Grow G v q)->(Grow F U q/\q<v.size/\¬G q\/G' q)->Grow F U q:=λhg a=>by
  rcases a with a|a
  ·exact a.1
  ·rcases hg _ a with H|H
   ·exact hG _ H
   ·exact .inr O
 refine nw (cs:=[.int .i64 x]) λv1 hz1 e1 hb1=>?_;have ac:=(iO.loc _ _).bO hL e1;have ad:cV ⟨some ⟨v.size,0,none⟩,1,1⟩ 1 (Wo [x]) v1 (· = v.size):=hb1.gQ (o:=0) rfl (by simp[Wo]) (λj hj=>by
  simp only[Wo,zR,pE,zY,lE]at hj ⊢;rw[zH])
 by_cases hfit:l.os.length+1<=256
 ·refine C0 ac ad (by simpa using hfit) λv2 e2 D=>cB rfl ?_;have C:Ext G v v2:=(bK.to e1).trans (e2.sub λq a=>a▸u);have S:∀q,Grow G v1 q->Grow G v q:=λq a=>a.imp id λX=>by omega
  obtain⟨eF2,H⟩:=r v2 _ _ C S D;have i:(dZ [x] l).os=l.os++[x]/\(dZ [x] l).lim=l.lim/\(dZ [x] l).low=l.low:=by unfold dZ;rw[zB (by simp only[zY,lE];omega)];exact⟨rfl,rfl,rfl⟩
  have y:=D;obtain⟨_,ok2,s2,g,N,E⟩:=D;have hs2l:s2.len=l.os.length+1:=by have:=N.1;simp[Wo,i.1]at this;omega
  refine aG (g.rS rfl (aG (g.rI rfl ?_)));rw[i.2.1];refine cQ (λc1=>?_) λc1=>?_
  ·have B:l.os.length+1<=l.lim:=by simp only at c1;omega
   have w:dJ c x l=([],dZ [x] l):=by unfold dJ;rw[zB O,zC B]
   refine hR v2 Y' _ 0 (λ_=>False) eF2 hp (λ_=>rfl) (λq a=>a.elim) (by rw[w];exact bR.nil _ _ _ _) ?_;rw[w];exact H.mono λq _ a=>⟨hin S a,id⟩
  ·have B:¬l.os.length+1<=l.lim:=by simp only at c1;omega
   have w:dJ c x l=gp (min c.batch (l.os.length+1)) (mF c (dZ [x] l)):=by unfold dJ;rw[zB O,zB B]
   have M:=H.hd;rw[hp]at M;refine aG (M.rS rfl (GV H.jE hc (d:=2) O ?_));simp only[zB (show ¬(2=0) by omega),zB (show ¬(2=1) by omega)];refine Jn.intro ?_;have A:∀v3,Ext (· = b) v2 v3->iO b (mF c (dZ [x] l)) v3 (Grow G v1)->bU (some ⟨b,0,none⟩) λa62=>jm (a62.add 0) v3 λK=>W3.c (aW b) (if((K.len:Nat):Int)<(c.batch:Int)then((K.len:Nat):Int)else(c.batch:Int)) v3 λt67 v4=>R t67 0 v4:=by
    intro v3 e3 hL3;have L:=hL3;obtain⟨_,ok3,s3,Z,hs3,hcap3⟩:=hL3;have ab:(mF c (dZ [x] l)).os=l.os++[x]:=by unfold mF;split<;>exact i.1
    have J:s3.len=l.os.length+1:=by have:=hs3.1;simp[Wo,ab]at this;omega
    refine aG (Z.rS rfl ?_);have em:(if((s3.len:Nat):Int)<(c.batch:Int)then((s3.len:Nat):Int)else(c.batch:Int))=((min c.batch (l.os.length+1):Nat):Int):=by rw[J];split<;>omega
    rw[em];refine Hk L (by rw[ab];simp;omega) λs z v4 e4 hz hr hL4=>?_;have e24:Ext (· = b) v2 v4:=e3.trans e4;have e04:Ext G v v4:=C.trans (e24.sub λq a=>a▸u);have hs23:=e3.1;have hs02:=C.1;obtain⟨eF4,h4⟩:=r v4 _ (λq=>q=b\/z<=q) e04 (λq a=>a.imp (λ(X:q=b)=>by rw[X];exact u) λ(X:z<=q)=>O) hL4;refine hR v4 Y' s 0 (λq=>v3.size<=q/\q<z) eF4 hp (λ_=>rfl) (λq a=>O) (by rw[w];exact hr) ?_;rw[w];refine h4.mono λq _ a=>⟨?_,λhQ=>?_⟩
    ·rcases a with a|a|a
     ·exact a.1
     ·subst a;exact hG _ u
     ·exact .inr O
    ·rcases a with a|a|a<;>omega
   refine aG (g.rI rfl ?_);rw[i.2.1];refine cQ (λc2=>?_) λc2=>?_
   ·have c2':l.lim<c.batch:=by omega
    have eu:mF c (dZ [x] l) = {dZ [x] l with lim:=l.lim+1}:=by unfold mF;rw[i.2.1,zC c2']
    have aa:=FU W ok2;refine aG (g.rI rfl ?_);rw[i.2.1];have hl128:=V.lim;refine cP (m:=l.lim+1) O O (aG (g.s1 (by simp[mQ]) λv3 o3 hb3=>A v3 o3.ext ?_));rw[eu]at aa ⊢;exact y.st o3.ext hb3 N E aa
   ·have eu:mF c (dZ [x] l)=dZ [x] l:=by unfold mF;rw[i.2.1,zB O]
    exact A v2 (Ext.refl _ _) (by rw[eu];exact y)
 ·refine N8 ac ad (by simpa using hfit) aA (cD rfl ?_);have w:dJ c x l=([],l):=by unfold dJ;rw[zC O]
  refine hR v1 Y' _ 6 (λ_=>False) (e.trans (bK.to e1)) hp (λX=>absurd X hfit) (λq a=>a.elim) (by rw[w];exact bR.nil _ _ _ _) ?_;rw[w,Z9 hl];exact(h'.bO e1).mono λq _ a=>⟨a,id⟩
end Go.Ar
namespace Go.Ar
open Go Go.Vc Go.Proofs
open Go.Bu (Zb QB Y8)
variable {U:Hp}{F:Rg}{p hs:Nat}{A:AR}{Y:Lay}{T:Nat->Hp->Rg->Prop}
theorem dG.sK (h:dG U F Y A T){k q:Nat}{c:bZ}{ss:List cF}(h1:Y.fG[k]?=some q)(h2:A.tb[k]?=some c)(h3:A.cE[k]?=some ss) :
 ∃G:Rg,(∀b,G b->F b)/\(∃ps,fB U G q c ps ss)/\(∀j,∃H:Rg,(∀b,H b->F b)/\(∀b,H b->¬G b)/\T j U H)/\∀(σ':Hp) (ss':List cF) (ps':List (Nat×Nat)) (G' H:Rg),
  Ext G U σ'->(∀b,G' b->G b\/U.size<=b)->fB σ' G' q c ps' ss'->(∀b,(F b/\b<U.size/\¬G b\/G' b)->H b)->dG σ' H Y {A with cE:=A.cE.set k ss'} T:=by
 obtain⟨G,r,p,hd,a⟩:=h.step (.cE k);have m:k<A.cE.length:=(cW.1 h3).1;refine⟨G,r,C3 h1 h2 h3 p,λj=>hd (.cM j) (by intro e;cases e),λσ' ss' ps' G' H e d i g=>?_⟩;refine a σ' _ _ T G' H h.lay.kQ h.tl Pn e d ?_ g;simp only[AC];rw[h1,h2,zL m];exact⟨ps',i⟩
theorem Nd (h:dG U F Y A T)(k m:Int){R:Sl->Int->Hp->Prop}(hR:∀s σ',Ext F U σ'->bR s 1 (ints (Ya A k m)) σ' (λb=>U.size<=b)->dG σ' (Cut F U) Y (Yt A k m) T->R s (Qt A k m) σ') :
 WB.c (aW Y.p) k m U R:=by
 refine WB.o ?_;unfold WB.v;refine Uc h k (λj=>?_) λx E w=>?_
 ·have e1:Qt A k m=1:=by unfold Qt;rw[j];rfl
  have e2:Yt A k m=A:=by unfold Yt;rw[e1];rfl
  have d:Ya A k m=[]:=by unfold Ya;rw[e1];rfl
  have:=hR ⟨none,0,0⟩ U (Ext.refl _ _) (by rw[d];exact bR.nil _ _ _ _) (by rw[e2];exact h.cut);rw[e1]at this;exact cD rfl this
 ·subst E;have j:A.ck (x:Int)=true:=by unfold AR.ck;simp;omega
  obtain⟨c,ss,q,t,r,C,a,z,_,_,H⟩:=h.at_ w;obtain⟨G,D,⟨K,B⟩,_,g⟩:=h.sK z C a;refine cB rfl (aG (h.hd.rS rfl (h.lJ z ?_)));by_cases hm:m<0
  ·have e1:Qt A x m=1:=by unfold Qt;rw[j,zC rfl,zC hm]
   have e2:Yt A x m=A:=by unfold Yt;rw[e1];rfl
   have d:Ya A x m=[]:=by unfold Ya;rw[e1];rfl
   have:=hR ⟨none,0,0⟩ U (Ext.refl _ _) (by rw[d];exact bR.nil _ _ _ _) (by rw[e2];exact h.cut);rw[e1]at this;exact RL B m hm this
  ·have e1:Qt A x m=0:=by unfold Qt;rw[j,zC rfl,zB hm]
   have y:Vm A x m=QW c m.toNat ss:=by unfold Vm;simp only[dE];rw[C,a]
   have e2:Yt A x m = {A with cE:=A.cE.set x (QW c m.toNat ss).2}:=by unfold Yt;rw[e1,zC rfl,y];rfl
   have d:Ya A x m=(QW c m.toNat ss).1:=by unfold Ya;rw[e1,zC rfl,y]
   refine Jh B m O λs σ' e i u=>?_;have:=hR s σ' (e.sub D) (by rw[d];exact i) (by rw[e2];exact g σ' _ _ (Cut G U) _ e (λb J=>.inl J.1) u (Fy D));rw[e1]at this;exact this
theorem Pj {k:Nat}{f:gF->gF}:∀j,j≠Lb.cM k->AC {A with cM:=A.cM.modify k f} Y (cK {A with cM:=A.cM.modify k f} Y) j=AC A Y (cK A Y) j:=by
 intro j hj;cases j<;>first|rfl|skip
 rename_i k';have a:k≠k':=λe=>hj (by rw[e]);simp only[AC,cK];simp[sT,a]
theorem eU.jQ {k:Nat}{f:gF->gF}(h:eU A Y):eU {A with cM:=A.cM.modify k f} Y:=⟨h.c,h.t,h.cE,by simpa using h.cM,h.nC,h.qv,h.n1,h.n2,h.n3,h.st,h.room,h.ok⟩
theorem dG.tg (h:dG U F Y A (cK A Y)){k q:Nat}{c:bZ}{t:gF}(h1:Y.fU[k]?=some q)(h2:A.tb[k]?=some c)(h3:A.cM[k]?=some t) :
 ∃G:Rg,(∀b,G b->F b)/\jr U G q c.batch A.room t/\∀(σ':Hp) (f:gF->gF) (G' H:Rg),
  Ext G U σ'->(∀b,G' b->G b\/U.size<=b)->jr σ' G' q c.batch A.room (f t)->(∀b,(F b/\b<U.size/\¬G b\/G' b)->H b)->dG σ' H Y {A with cM:=A.cM.modify k f} (cK {A with cM:=A.cM.modify k f} Y):=by
 obtain⟨G,r,g,hd,a⟩:=h.step (.cM k);have d:jr U G q c.batch A.room t:=by
  simp only[AC,cK]at g;rw[h1,h2,h3]at g;exact g
 refine⟨G,r,d,λσ' f G' H e i p m=>?_⟩;refine a σ' _ _ _ G' H h.lay.jQ (λj=>cK.loc j) Pj e i ?_ m;simp only[AC,cK];rw[h1,h2,List.getElem?_modify_eq,h3];exact p
theorem H9 (h:dG U F Y A (cK A Y))(k:Int){R:Sl->Int->Hp->Prop}(hR:∀s σ',Ext F U σ'->(∀b,kG s b->F b)->cV s 1 (Wo (Yp A k)) σ' (kG s)->s.len<=s.cap->dG σ' (λb=>F b/\¬kG s b) Y (Zx A k) (cK (Zx A k) Y)->R s (ZZ A k) σ') :
 WA.c (aW Y.p) k U R:=by
 refine WA.o ?_;unfold WA.v;refine Uc h k (λB=>?_) λx M D=>?_
 ·have e1:ZZ A k=1:=by unfold ZZ;rw[B];rfl
  have e2:Zx A k=A:=by unfold Zx;rw[e1];rfl
  have u:Yp A k=[]:=by unfold Yp;rw[e1];rfl
  have:=hR ⟨none,0,0⟩ U (Ext.refl _ _) (λb d=>by obtain⟨a,g,_⟩:=d;cases g) (by rw[u];exact cV.nil _ _ _ _) (zD _) (by rw[e2];exact h.mono λb _ d=>⟨d,λ⟨a,g,_⟩=>by cases g⟩);rw[e1]at this;exact cD rfl this
 ·subst M;have B:A.ck (x:Int)=true:=by unfold AR.ck;simp;omega
  obtain⟨c,Q,q,t,r,P,K,S,z,J,L⟩:=h.at_ D;obtain⟨G,E,H,w⟩:=h.tg J P z;refine cB rfl (aG (h.hd.rS rfl (h.rJ J ?_)));by_cases d:t.bs=[]
  ·have e1:ZZ A x=4:=by unfold ZZ;rw[B,zC rfl];simp only[dE];rw[z];simp[d]
   have e2:Zx A x=A:=by unfold Zx;rw[e1];rfl
   have u:Yp A x=[]:=by unfold Yp;rw[e1];rfl
   have:=hR ⟨none,0,0⟩ U (Ext.refl _ _) (λb d=>by obtain⟨a,g,_⟩:=d;cases g) (by rw[u];exact cV.nil _ _ _ _) (zD _) (by rw[e2];exact h.mono λb _ d=>⟨d,λ⟨a,g,_⟩=>by cases g⟩);rw[e1]at this;exact Jl H d this
  ·have e1:ZZ A x=0:=by unfold ZZ;rw[B,zC rfl];simp only[dE];rw[z];simp[d]
   have e2:Zx A x = {A with cM:=A.cM.modify x gF.rem}:=by unfold Zx;rw[e1,zC rfl];rfl
   have u:Yp A x=t.bs.getLast?.getD []:=by unfold Yp;rw[e1,zC rfl];simp only[dE];rw[z]
   refine Pv H d λs σ' e m j y C=>?_;have i:∀b,(F b/\b<U.size/\¬G b\/G b/\¬kG s b)->F b/\¬kG s b:=λb d=>by
    rcases d with d|d
    ·exact⟨d.1,λN=>d.2.2 (m b N)⟩
    ·exact⟨E b d.1,d.2⟩
   have:=hR s σ' (e.sub E) (λb d=>E b (m b d)) (by rw[u];exact j) y (by rw[e2];exact w σ' _ (λb=>G b/\¬kG s b) _ e (λb d=>.inl d.1) C i);rw[e1]at this;exact this
theorem O9 (h:dG U F Y A (cK A Y))(k:Int){sl:Sl}{xs:List Int}{X:Rg}(hs:cV sl 1 (Wo xs) U X)(hi:∀x∈xs,iE x){R:Bool->Int->Hp->Prop}(hR:∀σ',Ext F U σ'->dG σ' (Grow F U) Y (QV A k xs) (cK (QV A k xs) Y)->R (K0 A k xs) (Ha A k xs) σ') :
 WF.c (aW Y.p) k sl U R:=by
 refine WF.o ?_;unfold WF.v;have u:sl.len=xs.length:=by have:=hs.1;simp[Wo]at this;omega
 have Z:∀e:Int,e≠0->Ha A k xs=e->R false e U:=λe he C=>by
  have e3:K0 A k xs=false:=by unfold K0;rw[zM O];rfl
  have e2:QV A k xs=A:=by unfold QV;rw[e3];rfl
  have:=hR U (Ext.refl _ _) (by rw[e2];exact h.mono λb _ g=>.inl g);rw[C,e3]at this;exact this
 refine Uc h k (λhk=>cD rfl (Z 1 aB (by unfold Ha;rw[hk];rfl))) λx N W=>?_;subst N;have hk:A.ck (x:Int)=true:=by unfold AR.ck;simp;omega
 obtain⟨c,ss,q,t,r,P,E,hq,ht,hr,Q⟩:=h.at_ W;obtain⟨G1,ps,hG1,hCe⟩:=h.cE hq P E;obtain⟨G,hG,hC,L⟩:=h.tg hr P ht;have M:Ha A x xs=if xs.length=c.batch then(if xs.all (λx=>dV c ss x==some true)then 0 else 8)else 1:=by unfold Ha;rw[hk,zC rfl];simp only[dE];rw[P,E]
 refine cB rfl (aG (h.hd.rS rfl (h.wG (d:=2) P O ?_)));simp only[zB (show ¬(2=0) by omega),zB (show ¬(2=1) by omega)];rw[qE];refine cO (λg=>?_) λg=>?_
 ·have:¬xs.length=c.batch:=by rw[←u];simpa using g
  exact Z 1 aB (by rw[M,zB this])
 have H:xs.length=c.batch:=by rw[←u];simpa using g
 rw[zC H]at M;have h32:c.batch<=32:=Q.2.2.2.2.2.2.2;refine Z0 (a:=bN) (λ(i:Int) v=>∃j:Nat,i=(j:Int)/\j<=xs.length/\v=U/\∀y∈xs.take j,dV c ss y=some true) (λi _=>xs.length-i.toNat) ⟨0,rfl,O,rfl,by simp⟩ ?_;rintro i v ⟨j,rfl,hj,rfl,s⟩;refine cQ (λhlt2=>?_) λhge=>?_
 ·have J:j<xs.length:=by omega
  have N:xs[j]?=some xs[j]:=cT J;have htk:xs.take (j+1)=xs.take j++[xs[j]]:=by rw[k8,N];rfl
  have w:=zo J;generalize xs[j]=y at *;have K:dV c ss y≠some true->R false 8 v:=λS=>Z 8 aB (by
   rw[M,zB];intro ha;rw[j4]at ha;exact S (by simpa using ha y w))
  refine hs.mf N (aG (h.hd.rS rfl (h.lJ hq (CY hCe _ (hi y w) (λb g=>?_) λg=>?_))))
  ·refine bW.intro (cB rfl ?_);cases b
   ·exact cD rfl (K (by rw[g];simp))
   ·refine cB rfl (cP (m:=j+1) O O ⟨⟨j+1,rfl,O,rfl,λz hz=>?_⟩,O⟩);rw[htk]at hz;rcases zK.1 hz with C|C
    ·exact s z C
    ·simp at C;rw[C];exact g
  ·exact bW.intro (cD rfl (cD rfl (K (by rw[g];simp))))
 ·have:j=xs.length:=by omega
  subst this;rw[mg]at s;have B:Ha A x xs=0:=by
   rw[M,zC];rw[j4];intro y hy;simp[s y hy]
  have D:K0 A x xs=decide (t.bs.length<A.room):=by unfold K0;rw[B];simp only[dE];rw[ht];simp
  refine aG (h.hd.rS rfl (h.rJ hr (MO hC hs O (λS=>absurd H S) (λ_ hf=>?_) λ_ hf σ' e V=>?_)))
  ·rw[zM O]at D;have e2:QV A x xs=A:=by unfold QV;rw[D];rfl
   have:=hR v (Ext.refl _ _) (by rw[e2];exact h.mono λb _ g=>.inl g);rw[B,D]at this;exact this
  ·rw[zJ O]at D;have e2:QV A x xs = {A with cM:=A.cM.modify x λt=>{t with bs:=t.bs++[xs]}}:=by unfold QV;rw[D,zC rfl];rfl
   have:=hR σ' (e.sub hG) (by rw[e2];exact L σ' (λt=>{t with bs:=t.bs++[xs]}) (Grow G v) _ e (λb g=>g) V (HF hG λb g=>g));rw[B,D]at this;exact this
theorem fB.PU {q:Nat}{c:bZ}{ps:List (Nat×Nat)}{ss:List cF}{G:Rg}(h:fB U G q c ps ss):∀s∈ss,s.st<=1024:=by
 intro s hs;obtain⟨i,a⟩:=zQ hs;have d:=(cW.1 a).1;have b:i<ps.length:=by rw[h.len];exact d
 have:=(h.sp _ _ _ (cT b) a).fit;omega
theorem Pf (h:dG U F Y A T)(k:Int){sl:Sl}{xs:List Int}(hi:∀x∈xs,iE x)(hl:xs.length<=1000000)(hcap:sl.len<=sl.cap)
 (hs:(∃X:Rg,cV sl 1 (Wo xs) U X/\∀b,b<U.size->X b->¬F b)\/∃j,∀H,T j U H->cV sl 1 (Wo xs) U H)
 {R:aN} (hR:∀σ',Ext F U σ'->dG σ' (Grow F U) Y (Zu A k xs) T->R (QL A k xs) σ') :
 WL.c (aW Y.p) k sl U R:=by
 refine WL.o ?_;unfold WL.v;have no:∀e:Int,e≠0->QL A k xs=e->R e U:=λe he E=>by
  have e2:Zu A k xs=A:=by unfold Zu;rw[zB O]
  have:=hR U (Ext.refl _ _) (by rw[e2];exact h.mono λb _ d=>.inl d);rw[E]at this;exact this
 refine Uc h k (λW=>cD rfl (no 1 aB (by unfold QL;rw[W];rfl))) λx hx N=>?_;subst hx;have W:A.ck (x:Int)=true:=by unfold AR.ck;simp;omega
 obtain⟨c,g,q,t,r,V,u,hq,_,_,hok⟩:=h.at_ N;obtain⟨G,hG,⟨ps,J⟩,hd,C⟩:=h.sK hq V u;have hX:∃X:Rg,cV sl 1 (Wo xs) U X/\∀b,X b->¬G b:=by
  rcases hs with⟨X,E,h2⟩|⟨j,hj⟩
  ·exact⟨Cut X U,aH.cut E,λb d hg=>h2 b d.2 d.1 (hG b hg)⟩
  ·obtain⟨H,_,D,hT⟩:=hd j;exact⟨H,hj H hT,D⟩
 obtain⟨X,L,K⟩:=hX;have P:QL A x xs=iC c g xs:=by unfold QL;rw[W,zC rfl];simp only[dE];rw[V,u]
 refine cB rfl (aG (h.hd.rS rfl (h.lJ hq (R8 J L K hi hl hcap (λD=>?_) λh0 o σ1 e1 m Z=>?_))))
 ·refine cD (by simpa using D) (no _ D P)
 ·refine cB rfl ?_;have eS:Zu A x xs=VZ {A with cE:=A.cE.set x (cG (xs.foldl (fF c) g))} ((Qf (xs.foldl (fF c) g)).map λs=>(s,c.aF)):=by
   unfold Zu;rw[P,zC h0];simp only[dE];rw[V,u]
  have S:=C σ1 _ _ (Cut G U) _ e1 (λb d=>.inl d.1) Z (Fy hG);rw[JB]at m;have B:((Qf (xs.foldl (fF c) g)).map λs=>(s,c.aF)).length<=1000000/\∀r∈((Qf (xs.foldl (fF c) g)).map λs=>(s,c.aF)),r.1<=1000000:=by
   have i:∀(ys:List Int) (ls:List cF),((ys.foldl (fF c) ls).map (·.st))=ls.map (·.st):=by
    intro ys
    induction ys with
    | nil=>intro ls;rfl
    | cons y ys ih=>
     intro ls;rw[qA,ih];unfold fF;split
     ·rename_i j hj;split
      ·rename_i s a;split
       ·simp only[xd];apply zp;intro z;rw[mU];by_cases w:j=z
        ·subst w;rw[zC rfl];have:=(cW.1 a).1;rw[zC (by simpa using this)];simp[a,cF.put]
        ·rw[zB w]
       ·rfl
      ·rfl
     ·rfl
   have Q:∀s∈Qf (xs.foldl (fF c) g),s∈g.map (·.st):=by
    intro s a;rw[←i xs g];unfold Qf at a;simp only[zE,zI]at a ⊢;obtain⟨z,w,rfl⟩:=a;exact⟨z,w.1,rfl⟩
   have hfew:=J.pJ;refine⟨?_,λr hr=>?_⟩
   ·have:(Qf (xs.foldl (fF c) g)).length<=(xs.foldl (fF c) g).length:=by
     unfold Qf;rw[zl];exact qX _ _
    have h2:(xs.foldl (fF c) g).length=g.length:=by have:=congrArg List.length (i xs g);simpa using this
    rw[zl];omega
   ·obtain⟨s,a,rfl⟩:=zE.1 hr;obtain⟨z,w,rfl⟩:=zE.1 (Q s a);have:=J.PU z w;simp only;omega
  refine EH S m.gQ (λb _ d hf=>by have:=hf.2;omega) B.1 B.2 λσ2 e2 M=>?_;have:=hR σ2 ((e1.sub hG).trans (e2.sub λb d=>d.1)) ?_
  ·rw[P,h0]at this;exact this
  ·rw[eS];exact M.mono λb _ d=>by
    rcases d with d|d
    ·exact .inl d.1
    ·exact .inr (zh e1.1 d)
theorem SI (l:List (Nat×Nat))(x:Int):bV (iJ l) x=(l.find? λr=>(r.1:Int)==x).map λr=>(r.2:Int):=by
 induction l with
 | nil=>rfl
 | cons r l ih=>
  have:iJ (r::l)=((r.1:Int),(r.2:Int))::iJ l:=rfl;rw[this,Kd,ux,ih];by_cases h:(r.1:Int)=x
  ·simp[h]
  ·have:((r.1:Int)==x)=false:=by simpa using h
   rw[this,zB h]
theorem Mi (l:List (Nat×Nat))(x:Int):cR (iJ l) x=iJ (l.filter λq=>!((q.1:Int)==x)):=by
 unfold cR iJ;rw[vV];rfl
theorem Mo (l:List (Nat×Nat))(x m:Nat):dB (iJ l) (x:Int) (m:Int)=iJ (cA.mset2 l x m):=by
 unfold dB cA.mset2 iJ;have e:(l.map λr=>((r.1:Int),(r.2:Int))).any (λy=>y.1==(x:Int))=l.any λr=>r.1==x:=by
  rw[List.any_map]
  congr 1
  funext r
  exact lR r.1 x
 rw[e];split
 ·rw[lh,lh];apply ka;intro r _;simp only[Function.comp_def];rw[lR];split<;>rfl
 ·simp
theorem dG.rD (h:dG U F Y A T):F Y.rn/\dH U Y.rn .i64 bN (iJ A.runs)/\∀(σ':Hp) (rs:List (Nat×Nat)),Qq U σ' Y.rn->dH σ' Y.rn .i64 bN (iJ rs)->dG σ' F Y {A with runs:=rs} T:=by
 obtain⟨G,g,⟨e,j⟩,_,a⟩:=h.step .runs;refine⟨g _ e,j,λσ' rs p m=>?_⟩;exact a σ' _ _ T G _ h.lay.qB h.tl N3 (p.ext.sub λb d=>by subst d;exact e) (λb d=>.inl d) ⟨e,m⟩ (yz g λb d=>d)
theorem PQ (h:dG U F Y A T)(x:Int)(hf:∀r∈A.runs,r.1<=1000000){R:aN}(hR:∀σ',Ext F U σ'->dG σ' (Grow F U) Y (Qr A x) T->R (KK A x) σ') :
 WK.c (aW Y.p) x U R:=by
 refine WK.o ?_;unfold WK.v;obtain⟨M,J,e⟩:=h.rD;refine U4 h (cB rfl (aG (h.hd.rM rfl ⟨_,J,?_⟩)));rw[SI];cases hr:(A.runs.find? λr=>(r.1:Int)==x)with
 | none=>
  have e1:KK A x=8:=by unfold KK pA;rw[hr];rfl
  have e2:Qr A x=A:=by unfold Qr pA;rw[hr]
  have:=hR U (Ext.refl _ _) (by rw[e2];exact h.mono λb _ a=>.inl a);rw[e1]at this;exact cD rfl this
 | some r=>
  have e1:KK A x=0:=by unfold KK pA;rw[hr];rfl
  have e2:Qr A x=VF {A with runs:=A.runs.filter λq=>!((q.1:Int)==x)} r:=by unfold Qr pA;rw[hr]
  have E:=sr hr;have C:(r.1:Int)=x:=by simpa using sk hr
  refine cB rfl (aG (h.hd.rM rfl ⟨_,J,λm w _ B=>?_⟩));have o1:=w _ rfl;have d:dH m Y.rn .i64 bN (cR (iJ A.runs) x):=B;rw[Mi]at d;have y:=e m _ o1 d;simp only[zX,pF];refine nw (cs:=[.int .i64 x,.int .i64 (r.2:Int)]) λL K g z=>?_;have G:=y.cut.bO g;have s:cV ⟨some ⟨m.size,0,none⟩,1,1⟩ 2 (rV [r]) L (· = m.size):=by
   refine⟨rfl,.inr ⟨_,0,_,rfl,rfl,z.q,λj Q=>?_⟩⟩;have:rV [r]=[.int .i64 (r.1:Int),.int .i64 (r.2:Int)]:=rfl;rw[this,C,zH]
  refine EH G s (λb _ a P=>by have:=P.2;omega) aA (λq H=>by simp at H;subst H;exact hf _ E) λv3 N u=>?_;have D:Ext F U v3:=(o1.ext.sub λb a=>by subst a;exact M).trans ((bK.to g).trans (N.sub λb a=>a.1));have:=hR v3 D (by
   rw[e2];exact u.mono λb _ a=>by
    rcases a with a|a
    ·exact .inl a.1
    ·exact .inr (by have:=o1.1;omega))
  rw[e1]at this;exact this
theorem KW (rs:List (Nat×Nat)):∀A:AR,(VZ A rs).tb=A.tb/\(VZ A rs).room=A.room/\(VZ A rs).cM=A.cM/\(VZ A rs).cE=A.cE/\(VZ A rs).runs=A.runs/\(VZ A rs).n=A.n:=by
 induction rs with
 | nil=>intro A;exact⟨rfl,rfl,rfl,rfl,rfl,rfl⟩
 | cons r rs ih=>intro A;exact ih (VF A r)
theorem Ue (A:AR)(k:Int)(xs:List Int):(Zu A k xs).tb=A.tb/\(Zu A k xs).room=A.room/\(Zu A k xs).cM=A.cM/\(Zu A k xs).runs=A.runs/\(Zu A k xs).n=A.n:=by
 unfold Zu;split
 ·split
  ·exact⟨(KW _ _).1,(KW _ _).2.1,(KW _ _).2.2.1,(KW _ _).2.2.2.2.1,(KW _ _).2.2.2.2.2⟩
  ·exact⟨rfl,rfl,rfl,rfl,rfl⟩
 ·exact⟨rfl,rfl,rfl,rfl,rfl⟩
theorem gF.od (t:gF):∀xs∈t.tick.bs,xs∈t.bs:=λxs h=>sq h
theorem KP {α:Type}{l:List α}{k:Nat}{t:α}{f:α->α}(h:l[k]?=some t):l.modify k f=l.set k (f t):=by
 apply zp;intro i;rw[mU,sT];by_cases hi:k=i
 ·subst hi;have:=(cW.1 h).1;rw[zC rfl,zC this,h];simp
 ·simp[hi]
def Bx (A:AR)(Y:Lay)(k r:Nat)(c:bZ)(t:gF)(out:Sl)(sls:List Sl)(j:Nat):Hp->Rg->Prop:=
 if j=k then λU G=>jr U G r c.batch A.room t.tick/\cV out 1 (sls.map pG) U G/\qN sls t.out U G else cK A Y j
theorem Bx.loc {k r:Nat}{c:bZ}{t:gF}{out:Sl}{sls:List Sl}(j:Nat):dM (Bx A Y k r c t out sls j):=by
 unfold Bx;split
 ·exact λU i F G ⟨g,d,e⟩ b a=>⟨jr.loc _ _ _ _ g b a,cV.loc _ _ _ _ _ _ _ d b a,qN.loc _ _ _ _ _ _ e b a⟩
 ·exact cK.loc j
end Go.Ar
namespace Go.Bu
variable {n:Nat}{S:Nat->Bool}
theorem VL {m a k x:Nat}(h:ZA n S m a k=some x):∃j,j<k/\m<=2^j/\a<=2^j/\(Kb n S j).head?=some x/\∀i,i<j->m<=2^i->a<=2^i->Kb n S i=[]:=by
 have vU:∀k,ZA n S m a k=none->∀i,i<k->m<=2^i->a<=2^i->Kb n S i=[]:=by
  intro k
  induction k with
  | zero=>intro _ i hi;omega
  | succ k ih=>
   intro hn i hi d b;rw[ZA]at hn;split at hn
   ·cases hn
   ·rename_i hn';by_cases e:i=k
    ·subst e;rw[zC ⟨d,b⟩]at hn;simpa using hn
    ·exact ih hn' i O d b
 induction k with
 | zero=>simp[ZA]at h
 | succ k ih=>
  rw[ZA]at h;split at h
  ·rename_i y hy;cases h;obtain⟨j,d,b⟩:=ih hy;exact⟨j,O,b⟩
  ·rename_i hn;split at h
   ·rename_i hc;exact⟨k,O,hc.1,hc.2,h,vU k hn⟩
   ·cases h
theorem UI {m a:Nat}:∀{k},ZA n S m a k=none->∀i,i<k->m<=2^i->a<=2^i->Kb n S i=[]
 | 0,_,i,hi,_,_=>by omega
 | k+1,hn,i,hi,h1,h2=>by
  rw[ZA]at hn;split at hn
  ·cases hn
  ·rename_i hn';by_cases e:i=k
   ·subst e;rw[zC ⟨h1,h2⟩]at hn;simpa using hn
   ·exact UI hn' i O h1 h2
theorem lb (hb:Bounded S n){m a x:Nat}(h:Y8 n S m a=some x):x+m<=n/\∀y,x<=y->y<x+m->S y=true:=by
 obtain⟨j,_,i,_,e,_⟩:=VL h;have b:x∈Kb n S j:=List.mem_of_head? e;obtain⟨q,rfl,d⟩:=(QF hb).1 b;have:=ZG hb (Zw.1 d).1;exact⟨O,λy p g=>VX d (Z4.2 O)⟩
end Go.Bu
namespace Go.Ar
open Go Go.Vc Go.Proofs
open Go.Bu (Zb QB Y8)
variable {U:Hp}{F H:Rg}{p hs:Nat}{A:AR}{sp:Sp}{Y:Lay}{T:Nat->Hp->Rg->Prop}
structure W2 (U:Hp) (F H:Rg) (Y:Lay) (A:AR) (T:Nat->Hp->Rg->Prop) (sp:Sp):Prop where
 a:dG U F Y A T
 s:dL U H Y.hs sp
 d:∀b,F b->¬H b
 g:Gl U
 o:iN F
 o2:iN H
def iP (F H:Rg):Rg:=λb=>F b\/H b
theorem W2.lu (h:W2 U F H Y A T sp){σ':Hp}{A':AR}(e:Ext F U σ')(ha:dG σ' F Y A' T):W2 σ' F H Y A' T sp:=
 ⟨ha,dM.bS dL.loc h.s e λb _ a i=>h.d b i a,h.d,h.g.bS e h.o,h.o,h.o2⟩
theorem W2.space (h:W2 U F H Y A T sp){σ':Hp}{sp':Sp}(e:Ext H U σ')(hs:dL σ' H Y.hs sp'):W2 σ' F H Y A T sp':=
 ⟨dM.bS dG.loc h.a e λb _ i j=>h.d b i j,hs,h.d,h.g.bS e h.o2,h.o,h.o2⟩
theorem W2.bO (h:W2 U F H Y A T sp){σ':Hp}(e:bK U σ'):W2 σ' F H Y A T sp:=⟨h.a.bO e,h.s.bO e,h.d,h.g.bO e,h.o,h.o2⟩
theorem W2.cut (h:W2 U F H Y A T sp):W2 U (Cut F U) (Cut H U) Y A T sp:=⟨h.a.cut,dM.cut dL.loc h.s,λb e i=>h.d b e.1 i.1,h.g,h.o.sub λb e=>e.1,h.o2.sub λb e=>e.1⟩
theorem W2.oW (h:W2 U F H Y A T sp){σ':Hp}{A':AR}(e:Ext F U σ')(ha:dG σ' (Grow F U) Y A' T):W2 σ' (Grow F U) (Cut H U) Y A' T sp:=
 ⟨ha,dM.bS dL.loc (dM.cut dL.loc h.s) e λb _ a j=>h.d b j a.1,λb a i=>by
  rcases a with a|a
  ·exact h.d b a i.1
  ·have:=i.2;omega,h.g.bS e h.o,h.o.grow h.g,h.o2.sub λb a=>a.1⟩
theorem W2.E7 (h:W2 U F H Y A T sp){K:Option Addr->Prop}(hK:K (some ⟨Y.hs,0,none⟩)):fW (Addr.add ⟨Y.p,0,none⟩ 1) U K:=h.a.hd.rP rfl hK
theorem CE (st:List Nat)(a m:Nat):UD st a (m+1)=iS (UD st a m) ((a+m:Nat):Int):=by
 unfold UD;rw[qm,zz,wX];rfl
theorem J6 {a m:Int}(h:eZ sp a m≠0):fS sp a m=sp:=by unfold fS;rw[zB h]
theorem Mq {size:Nat}(h1:1<=size)(h:∀j,1<=j->j*size+size<=sp.st.length->eZ sp ((j*size:Nat):Int) (size:Int)≠0):cY sp size=none:=by
 unfold cY;rw[nS];intro x hx;obtain⟨j,d,rfl⟩:=zE.1 hx;rw[zg]at d;have b:(j+1)*size<=sp.st.length:=zh (l7 size d) (yF _ _);rw[zm,Nat.one_mul]at b;by_cases h0:j=0
 ·subst h0;simp
 ·have:=h j O b;have a:(eZ sp ((j*size:Nat):Int) (size:Int)==0)=false:=by simpa only[mJ]using this
  rw[a,sL];simp
theorem Rf {size j:Nat}(h1:1<=size)(h0:1<=j)(hf:j*size+size<=sp.st.length)(hm:eZ sp ((j*size:Nat):Int) (size:Int)=0)(h:∀i,1<=i->i<j->eZ sp ((i*size:Nat):Int) (size:Int)≠0):cY sp size=some (j*size):=by
 unfold cY;have m:j<sp.st.length/size:=by
  rw[Nat.lt_iff_add_one_le,Nat.le_div_iff_mul_le h1,zm,Nat.one_mul];exact hf
 have a:List.range (sp.st.length/size)=List.range j++(j::(List.range (sp.st.length/size-j-1)).map (j+1 + ·)):=by
  apply zp;intro i;rw[List.getElem?_append,xp];by_cases d:i<j
  ·rw[zC d,nf O,nf d]
  ·rw[zB d];by_cases hij:i=j
   ·subst hij;rw[qT,xG,nf m]
   ·rw[show i-j=(i-j-1)+1 by omega,AU,za];by_cases hl:i<sp.st.length/size
    ·rw[nf hl,nf O];simp only[zX]
     congr 1;omega
    ·rw[zV (by rw[xp];omega),zV (by rw[xp];omega)];rfl
 rw[a,zz,List.find?_append];have b:((List.range j).map (· * size)).find? (λ(s:Nat)=>s != 0&&eZ sp s size==0)=none:=by
  rw[nS];intro x hx;obtain⟨i,d,rfl⟩:=zE.1 hx;rw[zg]at d;by_cases h0:i=0
  ·subst h0;simp
  ·have:=h i O d;have g:(eZ sp ((i*size:Nat):Int) (size:Int)==0)=false:=by simpa only[mJ]using this
   rw[g,sL];simp
 rw[b,zR,ux];have:(j*size != 0&&eZ sp ((j*size:Nat):Int) (size:Int)==0)=true:=by
  rw[hm];have p:0<j*size:=Nat.mul_pos O O;have e:j*size≠0:=by omega
  simp[e]
 rw[this];rfl
theorem L1 (h:W2 U F H Y A T sp){size:Nat}(h1:size=16\/size=32\/size=64){R:aO}(h0:UE A sp size=none->∀σ',Ext (iP F H) U σ'->W2 σ' F H Y A T sp->R false σ')
 (hR:∀A' sp',UE A sp size=some (A',sp')->∀σ',Ext (iP F H) U σ'->W2 σ' F H Y A' T sp'->R true σ'):YB.c (aW Y.p) (size:Int) U R:=by
 refine YB.o ?_;unfold YB.v;have hn2:sp.st.length<=1024:=by obtain⟨q,r,l,B,hh⟩:=h.s;exact hh.n2
 have es:∀{a b:Hp},Ext H a b->Ext (iP F H) a b:=λe=>e.sub λb P=>.inr P;have ea:∀{a b:Hp},Ext F a b->Ext (iP F H) a b:=λe=>e.sub λb P=>.inl P;have d:∀j,j*size+size=(j+1)*size:=λj=>by rw[zm,Nat.one_mul]
 refine Z0 (a:=bN) (λ(t:Int) v=>∃j:Nat,t=((j*size:Nat):Int)/\1<=j/\j*size<=1024+64/\Ext (iP F H) U v/\W2 v F H Y A T sp/\∀i,1<=i->i<j->i*size+size<=sp.st.length->eZ sp ((i*size:Nat):Int) (size:Int)≠0) (λt _=>2000-t.toNat)
  ⟨1,O,zD _,O,Ext.refl _ _,h,λi h1 h2=>O⟩ ?_
 rintro t v ⟨j,rfl,hj,P,e,z,y⟩;refine cP (m:=j*size+size) O O (aG (z.E7 (CG z.s (cQ (λhlt=>?_) λhge=>?_))))
 ·have hf:j*size+size<=sp.st.length:=by omega
  refine aG (z.E7 (OF z.s z.g z.o2 _ _ λv2 e2 G=>?_));refine cO (λQ=>?_) λQ=>?_
  ·have L:eZ sp ((j*size:Nat):Int) (size:Int)≠0:=by simpa using Q
   rw[J6 L]at G;refine cP (m:=(j+1)*size) (by rw[←d];omega) (by rw[←d];omega) ⟨⟨j+1,rfl,O,by rw[←d];omega,e.trans (es e2),z.space e2 G,λi x K E=>?_⟩,by rw[←d];omega⟩;by_cases hij:i=j
   ·subst hij;exact L
   ·exact y i x O E
  ·have W:eZ sp ((j*size:Nat):Int) (size:Int)=0:=by simpa using Q
   have V:=z.space e2 G;have M:∀i,i<j->i*size+size<=sp.st.length:=λi hi=>by
    have:(i+1)*size<=j*size:=l7 _ hi;rw[d];omega
   have D:=Rf (sp:=sp) O hj hf W λi x K=>y i x K (M i K);have J:UE A sp size=some ({A with st:=UD A.st (j*size/16) (size/16),S:=QB A.n A.S ((j*size:Nat):Int) size},fS sp ((j*size:Nat):Int) size):=by unfold UE;rw[D]
   have hd16:(j*size)%16=0:=by
    rcases h1 with rfl|rfl|rfl
    ·omega
    ·omega
    ·omega
   refine nz aB (cP (m:=j*size/16) (by rw[Yr O];simp) O ?_);refine Z0 (a:=bN) (λ(t:Int) w=>∃i:Nat,t=((j*size/16+i:Nat):Int)/\i<=size/16/\Ext (iP F H) U w/\W2 w F H Y {A with st:=UD A.st (j*size/16) i} T (fS sp ((j*size:Nat):Int) size)) (λt _=>200-t.toNat)
    ⟨0,O,O,e.trans (es e2),V⟩ ?_
   rintro t w ⟨i,rfl,hi,Z,u⟩;refine cP (m:=j*size+size) O O (nz aB (cP (m:=(j*size+size)/16) (by rw[Yr O];simp) O (cQ (λaa=>?_) λhge2=>?_)))
   ·refine aG (u.a.hd.rP rfl (u.a.Cp _ λw2 t2 N C=>?_));refine cP (m:=j*size/16+(i+1)) O O ⟨⟨i+1,rfl,O,Z.trans (ea N),?_⟩,O⟩;rw[CE];exact u.lu N C
   ·have X:i=size/16:=by omega
    subst X;refine aG (u.a.hd.rP rfl (u.a.vf _ _ λw2 t2 N C=>?_));exact hR _ _ J w2 (Z.trans (ea N)) (u.lu N C)
 ·have D:=Mq (sp:=sp) (size:=size) O λi x E=>by
   by_cases hij:i<j
   ·exact y i x hij E
   ·have:j*size<=i*size:=l7 _ O;omega
  have J:UE A sp size=none:=by unfold UE;rw[D]
  exact h0 J v e z
theorem NU {m a:Nat}(h1:1<=m)(h2:m<=64)(ha:a=1\/a=2\/a=4\/a=8\/a=16):Go.Bu.fK (m:Int) (a:Int)=true:=by
 have b:Go.Bu.eV (a:Int)=true:=by rcases ha with rfl|rfl|rfl|rfl|rfl<;>decide
 unfold Go.Bu.fK;rw[b];simp only[uT,zF,zU];omega
theorem W2.take (h:W2 U F H Y A T sp){m a:Nat}(hok:Go.Bu.fK (m:Int) (a:Int)=true){R:Int->Int->Hp->Prop}(h0:Y8 A.n A.S m a=none->∀σ',Ext F U σ'->W2 σ' F H Y A T sp->R 0 6 σ')
 (h1:∀x,Y8 A.n A.S m a=some x->x+m<=A.n->∀σ',Ext F U σ'->W2 σ' F H Y {A with S:=Go.Bu.take A.S x (x+m)} T sp->R (x:Int) 0 σ'):XB.c (aW Y.fr) (m:Int) (a:Int) U R:=by
 have b:Go.Bu.Bounded A.S A.n:=by obtain⟨r,p,i,_⟩:=h.a.free;exact i.jq
 refine h.a.vP _ _ λσ' e j=>?_;have d:=h.lu e j;cases ht:Y8 A.n A.S m a with
 | none=>
  have e1:Go.Bu.iZ A.n A.S (m:Int) (a:Int)=6:=by unfold Go.Bu.iZ;rw[hok,zC rfl];simp only[dE];rw[ht]
  have e2:Go.Bu.ja A.n A.S (m:Int) (a:Int)=0:=by unfold Go.Bu.ja;rw[hok,zC rfl];simp only[dE];rw[ht]
  have g:Go.Bu.iM A.n A.S (m:Int) (a:Int)=A.S:=by unfold Go.Bu.iM;rw[hok,zC rfl];simp only[dE];rw[ht]
  rw[e1,e2];rw[g]at d;exact h0 ht σ' e d
 | some x=>
  have e1:Go.Bu.iZ A.n A.S (m:Int) (a:Int)=0:=by unfold Go.Bu.iZ;rw[hok,zC rfl];simp only[dE];rw[ht]
  have e2:Go.Bu.ja A.n A.S (m:Int) (a:Int)=x:=by unfold Go.Bu.ja;rw[hok,zC rfl];simp only[dE];rw[ht]
  have g:Go.Bu.iM A.n A.S (m:Int) (a:Int)=Go.Bu.take A.S x (x+m):=by unfold Go.Bu.iM;rw[hok,zC rfl];simp only[dE];rw[ht]
  rw[e1,e2];rw[g]at d;exact h1 x ht (Go.Bu.lb b ht).1 σ' e d
theorem OD {size:Nat}{A':AR}{sp':Sp}(h:UE A sp size=some (A',sp')):A'.n=A.n:=by
 unfold UE at h;split at h
 ·cases h
 ·cases h;rfl
def Fits (U:Hp)(F H F' H':Rg):Prop:=(∀b,F' b->Grow F U b)/\∀b,H' b->H b
theorem FG (h:W2 U F H Y A T sp){m a no:Nat}(h1:1<=m)(h2:m<=64)(ha:a=1\/a=2\/a=4\/a=8\/a=16)(hn1:1<=no)(hn2:no<=1000){R:Int->Int->Hp->Prop}
 (h0:(cZ A sp m a no).1=none->∀σ',Ext (iP F H) U σ'->W2 σ' F H Y (cZ A sp m a no).2.1 T (cZ A sp m a no).2.2->R 0 6 σ')
 (hR:∀x,(cZ A sp m a no).1=some x->x+m<=A.n->∀σ' F' H',Fits U F H F' H'->Ext (iP F H) U σ'->W2 σ' F' H' Y (cZ A sp m a no).2.1 T (cZ A sp m a no).2.2->R (x:Int) 0 σ') :
 Yz.c (aW Y.p) (m:Int) (a:Int) (no:Int) U R:=by
 refine Yz.o ?_;unfold Yz.v;have G:=NU h1 h2 ha;have es:∀{a b:Hp},Ext H a b->Ext (iP F H) a b:=λe=>e.sub λb j=>.inr j;have u:∀{a b:Hp},Ext F a b->Ext (iP F H) a b:=λe=>e.sub λb j=>.inl j;have fin:∀(v:Hp) (x:Nat) (A1:AR) (sp1:Sp),Ext (iP F H) U v->x+m<=A.n->W2 v F H Y {A1 with S:=Go.Bu.take A1.S x (x+m)} T sp1->cZ A sp m a no=(some x,dQ A1 x m no,sp1) →
  bU (some ⟨Y.p,0,none⟩) λV=>fW (V.add 3) v λP=>Xu.c P (x:Int) (m:Int) v λt55 r=>bU (some ⟨Y.p,0,none⟩) λZ=>fW (Z.add 4) r λW=>XP.c W (x:Int) (m:Int) (no:Int) r λt63 v3=>R (x:Int) 0 v3:=by
  intro v x A1 sp1 e hxm B y;have N:x<=1000000:=by have:=h.a.lay.n2;omega
  refine aG (B.a.hd.rP rfl (B.a.Ru _ _ λr t2 e2 Q=>?_));have g:=B.lu e2 Q;refine aG (g.a.hd.rP rfl (g.a.Set x m N hn1 hn2 λv3 t3 e3 L=>?_));have K:=g.oW e3 L;refine hR x (by rw[y]) hxm v3 (Grow F r) (Cut H r) ⟨λb j=>?_,λb j=>j.1⟩ ((e.trans (u e2)).trans (u e3)) (by rw[y];exact K);rcases j with j|j
  ·exact .inl j
  ·exact .inr (zh (e.trans (u e2)).1 j)
 refine aG (h.a.hd.rP rfl (h.take G (λE v e B=>?_) λx E z v e B=>?_))
 ·refine Jn.intro (cD rfl ?_);have M:(if(a:Int)>(m:Int)then(a:Int)else(m:Int))=((max m a:Nat):Int):=by
   by_cases hgt:(a:Int)>(m:Int)
   ·rw[zC hgt];omega
   ·rw[zB hgt];omega
  rw[M];refine Z0 (a:=bN) (λ(t:Int) w=>w=v/\(t=16\/t=32/\16<max m a\/t=64/\32<max m a)) (λt _=>100-t.toNat) ⟨rfl,.inl rfl⟩ ?_;rintro(t:Int) w ⟨rfl,hcase⟩;have ab:a<=16:=by omega
  refine cQ (λhlt=>?_) λhge=>?_
  ·have:t=16\/t=32:=by omega
   rcases this with rfl|rfl
   ·exact ar O O ⟨⟨rfl,O⟩,by decide⟩
   ·exact ar O O ⟨⟨rfl,O⟩,by decide⟩
  ·have X:t=((QR (max m a):Nat):Int):=by
    unfold QR;by_cases c1:max m a<=16
    ·rw[zC c1];omega
    ·rw[zB c1];by_cases c2:max m a<=32
     ·rw[zC c2];omega
     ·rw[zB c2];omega
   subst X;have aa:QR (max m a)=16\/QR (max m a)=32\/QR (max m a)=64:=by omega
   refine L1 B aa (λy σ' J s=>?_) λA' C y σ' J s=>?_
   ·have d:cZ A sp m a no=(none,A,sp):=by unfold cZ;rw[E];simp only;rw[y]
    exact cD rfl (h0 (by rw[d]) σ' ((u e).trans J) (by rw[d];exact s))
   ·refine cB rfl (aG (s.a.hd.rP rfl (s.take G (λD r e2 g=>?_) λx D z r e2 g=>?_)))
    ·have d:cZ A sp m a no=(none,A',C):=by unfold cZ;rw[E];simp only;rw[y];simp only;rw[D]
     exact cD rfl (h0 (by rw[d]) r (((u e).trans J).trans (u e2)) (by rw[d];exact g))
    ·have d:cZ A sp m a no=(some x,dQ A' x m no,C):=by unfold cZ;rw[E];simp only;rw[y];simp only;rw[D]
     exact cB rfl (fin r x A' C (((u e).trans J).trans (u e2)) (by rw[←OD y];exact z) g d)
 ·have d:cZ A sp m a no=(some x,dQ A x m no,sp):=by unfold cZ;rw[E]
  refine Jn.intro (cB rfl (cB rfl (fin v x A sp (u e) z B d)))
theorem Fits.refl:Fits U F H F H:=⟨λb a=>.inl a,λb a=>a⟩
theorem W2.mono {F' H':Rg}(h:W2 U F H Y A T sp)(hF:iN F')(hF2:∀b,b<U.size->F b->F' b)(hH:∀b,H' b->H b)(hH2:∀b,b<U.size->H b->H' b)(hd:∀b,F' b->¬H' b):W2 U F' H' Y A T sp:=
 ⟨h.a.mono hF2,dM.mono dL.loc h.s hH2,hd,h.g,hF,h.o2.sub hH⟩
theorem Ml (h:W2 U F H Y A T sp)(k:Int){R:aN}(hR:∀σ' F' H',Fits U F H F' H'->Ext (iP F H) U σ'->W2 σ' F' H' Y (cL A sp k).1 T (cL A sp k).2->R (KH A sp k) σ') :
 XQ.c (aW Y.p) k U R:=by
 refine XQ.o ?_;unfold XQ.v;refine Uc h.a k (λE=>?_) λx hx M=>?_
 ·have e1:KH A sp k=1:=by unfold KH;rw[E];rfl
  have e2:cL A sp k=(A,sp):=by unfold cL;rw[E];rfl
  have:=hR U F H Fits.refl (Ext.refl _ _) (by rw[e2];exact h);rw[e1]at this;exact cD rfl this
 ·subst hx;have E:A.ck (x:Int)=true:=by unfold AR.ck;simp;omega
  obtain⟨c,P,q,t,r,J,z,hq,_,_,K⟩:=h.a.at_ M;have ht2:=h.a.lay.qv;obtain⟨_,_,_,N,hp4,_⟩:=K;refine cB rfl (aG (h.a.hd.rS rfl (h.a.wG (d:=1) J O ?_)));simp only[zB (show ¬(1=0) by omega),zS];refine cP (m:=x+1) O O ?_;have Z:KH A sp x=match (cZ A sp c.aF 1 (x+1)).1 with
   | some y=>Gb c P y
   | none=>6:=by unfold KH;rw[E,zC rfl];simp only[dE];rw[J,z];rfl
  have W:cL A sp x=match cZ A sp c.aF 1 (x+1)with
   | (some y,A',w)=>(if Gb c P y=0 then{A' with cE:=A'.cE.set x (ie c P y)}else A',w)
   | (none,A',w)=>(A',w):=by unfold cL;rw[E,zC rfl];simp only[dE];rw[J,z];rfl
  refine FG (a:=1) h N O (.inl rfl) O O (λC σ' e u=>?_) λy C hyn σ' F' H' i e u=>?_
  ·have:=hR σ' F H Fits.refl e;rw[Z,W,C]at this;generalize cZ A sp c.aF 1 (x+1)=g at *;obtain⟨g1,g2,g3⟩:=g;simp only at C;subst C;exact cD rfl (this u)
  ·have B:(cZ A sp c.aF 1 (x+1)).2.1.tb=A.tb/\(cZ A sp c.aF 1 (x+1)).2.1.cE=A.cE:=by
    unfold cZ;split
    ·exact⟨rfl,rfl⟩
    ·split
     ·exact⟨rfl,rfl⟩
     ·rename_i A1 sp1 hga;have:A1.tb=A.tb/\A1.cE=A.cE:=by
       unfold UE at hga;split at hga
       ·cases hga
       ·cases hga;exact⟨rfl,rfl⟩
      split
      ·exact this
      ·exact this
   have s:=λσ' F' H'=>hR σ' F' H';rw[Z,W]at s;generalize cZ A sp c.aF 1 (x+1)=g at *;obtain⟨g1,A',w⟩:=g;simp only at C u B s;subst C;simp only at s;have hWc:=u;obtain⟨G,Q,⟨ps,hC⟩,_,D⟩:=u.a.sK hq (by rw[B.1];exact J) (by rw[B.2];exact z);have hn2:=h.a.lay.n2;refine cB rfl (aG (u.a.hd.rS rfl (u.a.lJ hq (RX hC O (λh9 v e2=>?_) λX v ps' e2 V=>?_))))
   ·have:=s v F' H' i (e.ji e2) (by rw[h9];exact u.bO e2);rw[h9]at this;exact this
   ·have L:=D v _ _ (Grow G σ') _ e2 (λb j=>j) V (HF Q λb j=>j);have S:=u.oW (e2.sub Q) L;have:=s v (Grow F' σ') (Cut H' σ') ⟨λb j=>?_,λb j=>i.2 b j.1⟩ (e.dS (e2.sub Q) λb j=>?_) (by rw[X];exact S)
    ·rw[X]at this;exact this
    ·rcases j with j|j
     ·exact i.1 b j
     ·exact .inr (zh e.1 j)
    ·rcases i.1 b j with h1|h1
     ·exact .inl (.inl h1)
     ·exact .inr h1
theorem HR (A:AR)(sp:Sp)(m a no:Nat):(cZ A sp m a no).2.1.tb=A.tb/\(cZ A sp m a no).2.1.cE=A.cE/\(cZ A sp m a no).2.1.cM=A.cM/\(cZ A sp m a no).2.1.room=A.room/\(cZ A sp m a no).2.1.runs=A.runs/\(cZ A sp m a no).2.1.n=A.n:=by
 unfold cZ;split
 ·exact⟨rfl,rfl,rfl,rfl,rfl,rfl⟩
 ·split
  ·exact⟨rfl,rfl,rfl,rfl,rfl,rfl⟩
  ·rename_i A1 sp1 hga;have:A1.tb=A.tb/\A1.cE=A.cE/\A1.cM=A.cM/\A1.room=A.room/\A1.runs=A.runs/\A1.n=A.n:=by
    unfold UE at hga;split at hga
    ·cases hga
    ·cases hga;exact⟨rfl,rfl,rfl,rfl,rfl,rfl⟩
   split
   ·exact this
   ·exact this
theorem Rr:∀a:Nat,a<17->1<=a->((bits .and .i64 (a:Int) ((a:Int)-1) != 0) = !(a==1||(a==2||(a==4||(a==8||a==16))))):=by decide
theorem Ot (h:W2 U F H Y A T sp)(m a:Int){R:Int->Int->Hp->Prop}(hR:∀σ' F' H',Fits U F H F' H'->Ext (iP F H) U σ'->W2 σ' F' H' Y (cA A sp m a).1 T (cA A sp m a).2->R ((ZY A sp m a:Nat):Int) (Qm A sp m a) σ') :
 WN.c (aW Y.p) m a U R:=by
 refine WN.o ?_;unfold WN.v;have E:Q9 m a=false->R 0 1 U:=λu=>by
  have e1:Qm A sp m a=1:=by unfold Qm;rw[u];rfl
  have e2:cA A sp m a=(A,sp):=by unfold cA;rw[u];rfl
  have e3:ZY A sp m a=0:=by unfold ZY;rw[u];rfl
  have:=hR U F H Fits.refl (Ext.refl _ _) (by rw[e2];exact h);rw[e1,e3]at this;exact this
 have d:¬(1<=m/\m<=64/\(a=1\/a=2\/a=4\/a=8\/a=16))->R 0 1 U:=λhn=>E (by
  rw[←qd];intro hp;unfold Q9 at hp;simp at hp;omega)
 refine U4 h.a (cB rfl (bW.intro (cQ (λc1=>bW.intro (cD rfl (bW.intro (cD rfl (bW.intro (cD rfl (cD rfl (d O)))))))) λc1=>?_)));refine bW.intro (cQ (λc2=>bW.intro (cD rfl (bW.intro (cD rfl (cD rfl (d O)))))) λc2=>?_);refine bW.intro (cQ (λV=>bW.intro (cD rfl (cD rfl (d O)))) λV=>?_);refine bW.intro (cQ (λc4=>cD rfl (d O)) λc4=>ar O O ?_);obtain⟨y,rfl⟩:=zc (show 0<=m by omega);obtain⟨z,rfl⟩:=zc (show 0<=a by omega);rw[Rr z O O];refine cO (λG=>?_) λG=>?_
 ·refine d (λhh=>?_);simp at G;omega
 ·have X:z=1\/z=2\/z=4\/z=8\/z=16:=by
   simp at G;omega
  have u:Q9 (y:Int) (z:Int)=true:=by
   unfold Q9;simp;omega
  have P:Qm A sp y z=if(cZ A sp y z 41).1.isSome then 0 else 6:=by unfold Qm;rw[u,zC rfl];rfl
  have S:ZY A sp y z=(cZ A sp y z 41).1.getD 0:=by unfold ZY;rw[u,zC rfl];rfl
  have N:cA A sp y z=match cZ A sp y z 41 with
   | (some x,A',r)=>({A' with runs:=cA.mset2 A'.runs x y},r)
   | (none,A',r)=>(A',r):=by unfold cA;rw[u,zC rfl];rfl
  refine FG (no:=41) h O O X O O (λB σ' e w=>?_) λx B Z σ' F' H' s e w=>?_
  ·have:=hR σ' F H Fits.refl e;rw[P,N,S,B]at this;generalize cZ A sp y z 41=g at *;obtain⟨g1,g2,g3⟩:=g;simp only at B;subst B;exact cD rfl (this w)
  ·have j:=λσ' F' H'=>hR σ' F' H';rw[P,N,S]at j;generalize cZ A sp y z 41=g at *;obtain⟨g1,A',r⟩:=g;simp only at B w j;subst B;simp only at j;obtain⟨W,hm,D⟩:=w.a.rD;refine cB rfl (aG (w.a.hd.rM rfl ⟨_,_,rfl,hm,λv Q M=>?_⟩));have C:dH v Y.rn .i64 bN (dB (iJ A'.runs) (x:Int) (y:Int)):=M;rw[Mo]at C;have K:=D v _ Q C;have e2:Ext F' σ' v:=Q.ext.sub λb J=>by subst J;exact W
   have L:=w.lu e2 K;exact j v F' H' s (e.dS e2 λb J=>by
    rcases s.1 b J with h1|h1
    ·exact .inl (.inl h1)
    ·exact .inr h1) L
end Go.Ar
namespace Go.Proofs
open Go.Vc
set_option maxRecDepth 100000
end Go.Proofs
namespace Go.Ar
open Go Go.Vc Go.Proofs
variable {U:Hp}{Q:Rg}{key:Nat->Nat}
end Go.Ar
namespace Go.Ar
open Go Go.Vc Go.Proofs
variable {U:Hp}{F:Rg}{p q:Nat}{st:List Nat}
end Go.Ar
namespace Go.Ar
open Go Go.Vc Go.Proofs
open Go.Bu (Zb QB Y8)
variable {U:Hp}{F H:Rg}{p hs:Nat}{A:AR}{sp:Sp}{Y:Lay}{T:Nat->Hp->Rg->Prop}
theorem dG.cM (h:dG U F Y A (cK A Y)){k q:Nat}{c:bZ}{t:gF}(h1:Y.fU[k]?=some q)(h2:A.tb[k]?=some c)(h3:A.cM[k]?=some t):∃G:Rg,(∀b,G b->F b)/\jr U G q c.batch A.room t:=by
 obtain⟨G,d,a,_⟩:=h.tg h1 h2 h3;exact⟨G,d,a⟩
def part {α:Type}(f:bZ->α->Nat)(tb:List bZ)(l:List α)(i:Nat):Nat:=(((tb.zip l).take i).map λx=>f x.1 x.2).sum
end Go.Ar
namespace Go.Ar
open Go Go.Vc Go.Proofs
variable {U:Hp}
theorem Dq:∀(xs:List (Int×Int×Int)),uQ xs=true↔∀(i:Nat) a b,xs[i]?=some a->xs[i+1]?=some b->a.1<b.1
 | []=>by simp[uQ]
 | [x]=>by simp[uQ]
 | x::y::l=>by
  have ih:=Dq (y::l);show(decide (x.1<y.1)&&uQ (y::l))=true↔_;rw[zF,ih,zU];constructor
  ·rintro⟨h1,h2⟩ i a b e d;cases i with
   | zero=>simp at e d;subst e;subst d;exact h1
   | succ i=>exact h2 i a b (by simpa using e) (by simpa using d)
  ·intro h;exact⟨h 0 x y rfl rfl,λi a b e d=>h (i+1) a b (by simpa using e) (by simpa using d)⟩
theorem Qd (xs:List (Int×Int×Int)):Qg xs=true↔1<=xs.length/\xs.length<=40/\(∀(i:Nat) t,xs[i]?=some t->Uf t.1 t.2.1 t.2.2=true)/\∀(i:Nat) a b,xs[i]?=some a->xs[i+1]?=some b->a.1<b.1:=by
 unfold Qg;simp only[zF,zU,Dq,j4];constructor
 ·rintro⟨h1,h2,h3,h4⟩;exact⟨h1,h2,λi t d=>h3 t (zG d),h4⟩
 ·rintro⟨h1,h2,h3,h4⟩;exact⟨h1,h2,λt d=>by obtain⟨i,e⟩:=zQ d;exact h3 i t e,h4⟩
theorem Gp {s:Sl}{xs:List (Int×Int×Int)}(ha:ig U s xs){R:aO}(hR:∀σ',bK U σ'->R (Qg xs) σ'):Zv.c s U R:=by
 refine Zv.o ?_;unfold Zv.v;have M:∀σ',bK U σ'->¬(1<=xs.length/\xs.length<=40/\(∀(i:Nat) t,xs[i]?=some t->Uf t.1 t.2.1 t.2.2=true)/\∀(i:Nat) a b,xs[i]?=some a->xs[i+1]?=some b->a.1<b.1)->R false σ':=λσ' e hn=>by
  have:=hR σ' e;have hf:Qg xs=false:=by rw[←qd,Qd];exact hn
  rw[hf]at this;exact this
 have Y:=ha.1;refine bW.intro (cQ (λc1=>cD rfl (M U (Ext.refl _ _) λh=>O)) λc1=>?_);refine cQ (λc2=>M U (Ext.refl _ _) λh=>O) λc2=>?_;refine Z0 (a:=bN) (λ(t:Int) v=>∃i:Nat,t=(i:Int)/\i<=xs.length/\bK U v/\(∀(j:Nat) t,j<i->xs[j]?=some t->Uf t.1 t.2.1 t.2.2=true)/\∀(j:Nat) a b,j+1<i->xs[j]?=some a->xs[j+1]?=some b->a.1<b.1) (λt _=>xs.length-t.toNat)
  ⟨0,rfl,O,Ext.refl _ _,λj t h=>O,λj a b h=>O⟩ ?_
 rintro t v ⟨i,rfl,P,e,W,h2⟩;have V:=ZR ha e;refine cQ (λhlt=>?_) λhge=>?_
 ·have N:i<xs.length:=by omega
  have B:xs[i]?=some xs[i]:=cT N;generalize xs[i]=r at B;obtain⟨x,y,z⟩:=r;refine yd V B ?_;refine nw (cs:=[.int .i64 0,.int .i64 0,.int .i64 0]) λv2 hz2 e2 b2=>b2.s1 aA λv3 o3 b3=>b3.s1 aA λv4 o4 b4=>b4.s1 aA λv5 o5 J=>?_;have e5:bK v v5:=Ext.fresh (Ext.fresh (Ext.fresh e2 o3.ext λi P=>O) o4.ext λi P=>O) o5.ext λi P=>by omega
  refine Jn.intro ⟨(· = v5),rfl,⟨x,λm E=>by rw[E,add_lit,J.cell];rfl,⟨y,λm E=>by rw[E,add_lit,J.cell];rfl,⟨z,λm E=>by rw[E,add_lit,J.cell];rfl,?_⟩⟩⟩⟩;refine Il x y z λv7 X=>?_;have w:=(Ext.trans e e5).trans X;have C:(Uf x y z=false\/∃a,0<i/\xs[i-1]?=some a/\x<=a.1)->R false v7:=λS=>M v7 w λH=>by
   rcases S with S|⟨a,K,hb1,hb2⟩
   ·have:=H.2.2.1 i _ B;simp only at this;rw[S]at this;cases this
   ·have:=H.2.2.2 (i-1) a (x,y,z) hb1 (by rw[show i-1+1=i by omega];exact B);simp only at this;omega
  cases hc:Uf x y z
  ·exact cD rfl (cD rfl (C (.inl hc)))
  ·have next:(∀a,0<i->xs[i-1]?=some a->a.1<x)->Ar .i64 ((i:Int)+1) λg=>(∃i:Nat,g=(i:Int)/\i<=xs.length/\bK U v7/\(∀(j:Nat) t,j<i->xs[j]?=some t->Uf t.1 t.2.1 t.2.2=true)/\∀(j:Nat) a b,j+1<i->xs[j]?=some a->xs[j+1]?=some b->a.1<b.1)/\xs.length-g.toNat<xs.length-(i:Int).toNat:=by
    intro K;refine cP (m:=i+1) O O ⟨⟨i+1,rfl,O,w,λj t hj A=>?_,λj a b hj p d=>?_⟩,O⟩
    ·by_cases hji:j=i
     ·subst hji;rw[B]at A;cases A;exact hc
     ·exact W j t O A
    ·by_cases hji:j+1=i
     ·subst hji;rw[B]at d;cases d;exact K a O p
     ·exact h2 j a b O p d
   refine cB rfl (cQ (λK=>?_) λK=>cB rfl (next λa kE=>O))
   have u:xs[i-1]?=some (xs[i-1]' O):=cT _;generalize xs[i-1]' O=r at u;obtain⟨L,y',z'⟩:=r;have F:=ZR ha w;obtain⟨b,o,g1,g2,g3,g4,g5⟩:=F.2 (i-1) L y' z' u;have Z:=X.bT J id;refine cP (m:=i-1) O O ?_;rw[g1];refine ix O O ?_;have D:cell v7 ⟨b,o+(((i-1:Nat):Int)).toNat*3+0,none⟩=some (.int .i64 L):=by simpa using g3
   have fin:If (decide (x<=L)) (R false v7) (Ar .i64 ((i:Int)+1) λg=>(∃i:Nat,g=(i:Int)/\i<=xs.length/\bK U v7/\(∀(j:Nat) t,j<i->xs[j]?=some t->Uf t.1 t.2.1 t.2.2=true)/\∀(j:Nat) a b,j+1<i->xs[j]?=some a->xs[j+1]?=some b->a.1<b.1)/\xs.length-g.toNat<xs.length-(i:Int).toNat):=by
    refine cQ (λQ=>C (.inr ⟨_,O,u,Q⟩)) λhgt=>next λa _ G=>?_
    rw[u]at G;cases G;simp only;omega
   rw[add_lit b o];exact⟨Z.rI rfl (fR D fin),fR D (Z.rI rfl fin)⟩
 ·have:i=xs.length:=by omega
  subst this;have H:Qg xs=true:=(Qd xs).2 ⟨O,O,λi t A=>W i t (cW.1 A).1 A,λi a b p d=>h2 i a b (cW.1 d).1 p d⟩;have:=hR v e;rw[H]at this;exact this
end Go.Ar
namespace Go.Ar
open Go Go.Vc Go.Proofs
open Go.Bu (Zb QB Y8)
variable {U:Hp}{F H:Rg}{p hs:Nat}{A:AR}{sp:Sp}{Y:Lay}{T:Nat->Hp->Rg->Prop}
open Classical in
theorem _root_.Go.Vc.Sep.put {L:Type}{C C':L->Hp->Rg->Prop}{U:Hp}{F G:Rg}(hC:∀i,dM (C i))(h:Sep C U F)(i:L)(hd:∀b,G b->¬F b)(hj:∀j,j≠i->C' j=C j)(hi:C' i U G)(hL:dM (C' i)):Sep C' U λb=>F b\/G b:=by
 obtain⟨ρ,h⟩:=h;refine⟨λb=>if G b then i else ρ b,λj=>?_⟩
 by_cases hji:j=i
 ·subst hji;exact hL.mono hi λb _ d=>⟨.inr d,zC d⟩
 ·rw[hj j hji];refine(hC j).mono (h j) λb _ a=>⟨.inl a.1,?_⟩;show(if G b then i else ρ b)=j
  rw[zB λe=>hd b e a.1];exact a.2
def fX (A:AR)(Y:Lay)(T:Nat->Hp->Rg->Prop)(cs:List Value):Lb->Hp->Rg->Prop
 | .hd=>iw Y.p cs
 | i=>AC A Y T i
theorem fX.loc {cs:List Value}(hT:∀k,dM (T k)):∀i,dM (fX A Y T cs i)
 | .hd=>iw.loc _ _
 | .dD=>AC.loc (A:=A) (Y:=Y) hT .dD
 | .free=>AC.loc (A:=A) (Y:=Y) hT .free
 | .nW=>AC.loc (A:=A) (Y:=Y) hT .nW
 | .own=>AC.loc (A:=A) (Y:=Y) hT .own
 | .dO=>AC.loc (A:=A) (Y:=Y) hT .dO
 | .cN=>AC.loc (A:=A) (Y:=Y) hT .cN
 | .runs=>AC.loc (A:=A) (Y:=Y) hT .runs
 | .cE k=>AC.loc (A:=A) (Y:=Y) hT (.cE k)
 | .cM k=>AC.loc (A:=A) (Y:=Y) hT (.cM k)
theorem JX:fX A Y T (kK Y)=AC A Y T:=by
 funext i;cases i<;>rfl
theorem DP {cs:List Value}(hT:∀k,dM (T k))(h:Sep (fX A Y T cs) U F)(hlen:A.cE.length<=Y.fG.length)(hl:Y.fG.length<=40){vb cp ty:Nat}(hb:bY U vb [.pointer (some ⟨cp,0,none⟩)])(hvb:¬F vb){K:Sl->Hp->Prop}
 (hK:∀s' σ',Ext F U σ'->Sep (fX A {Y with dO:=s',fG:=Y.fG++[cp]} T cs) σ' (Grow F U)->K s' σ'):App Y.dO 1 8 ty [.pointer none] ⟨some ⟨vb,0,none⟩,1,1⟩ U K:=by
 obtain⟨G,g,d,_,a⟩:=h.jW (fX.loc hT) .dO;have d:bR Y.dO 1 (fI Y.fG) U G:=d;have p:Y.dO.len=Y.fG.length:=by have:=d.1;simp[fI]at this;omega
 refine d.app (ys:=[.pointer (some ⟨cp,0,none⟩)]) rfl rfl ?_ (by simp[dN]) aC aC mO λs' σ' i e m=>hK s' σ' (e.sub g) ?_
 ·intro j u hu;rw[add_lit,zH,hb.cell];exact hu
 refine(Sep.loc (fX.loc hT)).mono (a σ' (fX A {Y with dO:=s',fG:=Y.fG++[cp]} T cs) (Grow G U) (λj r=>?_) e (λb hb=>hb) ?_ (fX.loc hT _)) λb _ hb=>HF g (λb hb=>hb) b hb
 ·cases j<;>first|rfl|exact absurd rfl r|skip
  rename_i k;show j2 (Y.fG++[cp])[k]? A.tb[k]? A.cE[k]?=j2 Y.fG[k]? A.tb[k]? A.cE[k]?;rcases kg k Y.fG.length with h1|h1
  ·rw[ze h1]
  ·have:A.cE[k]?=none:=zV O;rw[this]
   funext U F
   unfold j2;cases(Y.fG++[cp])[k]?<;>cases Y.fG[k]?<;>cases A.tb[k]?<;>rfl
 ·show bR s' 1 (fI (Y.fG++[cp])) σ' (Grow G U);have:fI (Y.fG++[cp])=fI Y.fG++[.pointer (some ⟨cp,0,none⟩)]:=by simp[fI]
  rw[this];exact m
theorem PL (hlen:A.cM.length<=Y.fU.length)(tp:Nat)(s':Sl):cK A {Y with cN:=s',fU:=Y.fU++[tp]}=cK A Y:=by
 funext k
 unfold cK;simp only;rcases kg k Y.fU.length with h1|h1
 ·rw[ze h1]
 ·have:A.cM[k]?=none:=zV O;rw[this]
  funext U F
  unfold kZ;cases(Y.fU++[tp])[k]?<;>cases Y.fU[k]?<;>cases A.tb[k]?<;>rfl
theorem Io {cs:List Value}(h:Sep (fX A Y (cK A Y) cs) U F)(hlen:A.cM.length<=Y.fU.length)(hl:Y.fU.length<=40){vb tp ty:Nat}(hb:bY U vb [.pointer (some ⟨tp,0,none⟩)])(hvb:¬F vb){K:Sl->Hp->Prop}
 (hK:∀s' σ',Ext F U σ'->Sep (fX A {Y with cN:=s',fU:=Y.fU++[tp]} (cK A {Y with cN:=s',fU:=Y.fU++[tp]}) cs) σ' (Grow F U)->K s' σ'):App Y.cN 1 8 ty [.pointer none] ⟨some ⟨vb,0,none⟩,1,1⟩ U K:=by
 have g:∀k,dM (cK A Y k):=λk=>cK.loc k;obtain⟨G,i,d,_,a⟩:=h.jW (fX.loc g) .cN;have d:bR Y.cN 1 (fI Y.fU) U G:=d;have p:Y.cN.len=Y.fU.length:=by have:=d.1;simp[fI]at this;omega
 refine d.app (ys:=[.pointer (some ⟨tp,0,none⟩)]) rfl rfl ?_ (by simp[dN]) aC aC mO λs' σ' m e r=>hK s' σ' (e.sub i) ?_
 ·intro j u hu;rw[add_lit,zH,hb.cell];exact hu
 rw[PL hlen];refine(Sep.loc (fX.loc g)).mono (a σ' (fX A {Y with cN:=s',fU:=Y.fU++[tp]} (cK A Y) cs) (Grow G U) (λj s=>?_) e (λb hb=>hb) ?_ (fX.loc g _)) λb _ hb=>HF i (λb hb=>hb) b hb
 ·cases j<;>first|rfl|exact absurd rfl s
 ·show bR s' 1 (fI (Y.fU++[tp])) σ' (Grow G U);have:fI (Y.fU++[tp])=fI Y.fU++[.pointer (some ⟨tp,0,none⟩)]:=by simp[fI]
  rw[this];exact r
theorem FA {cs:List Value}(hT:∀k,dM (T k))(h:Sep (fX A Y T cs) U F){i:Nat}{v:Value}(hi:i<cs.length){K:aP}(hK:∀σ',Ext F U σ'->Sep (fX A Y T (cs.set i v)) σ' F->K σ'):dX (Addr.add ⟨Y.p,0,none⟩ i) v U K:=by
 obtain⟨G,g,d,_,e⟩:=h.jW (fX.loc hT) .hd;have d:iw Y.p cs U G:=d;refine d.2.s1 O λσ' o b=>hK σ' (o.ext.sub λb a=>by subst a;exact g _ d.1) ?_;rw[zH]at b;refine(Sep.loc (fX.loc hT)).mono (e σ' (fX A Y T (cs.set i v)) G (λj m=>?_) (o.ext.sub λb a=>by subst a;exact d.1) (λb a=>.inl a) ⟨d.1,b⟩ (fX.loc hT _)) λb _ a=>yz g (λb a=>a) b a;cases j<;>first|rfl|exact absurd rfl m
theorem mG {cs:List Value}(h:Sep (fX A Y T cs) U F):bY U Y.p cs/\F Y.p:=by
 obtain⟨G,d,a,b⟩:=h.get .hd;exact⟨b,d _ a⟩
theorem Jk {cs:List Value}{i cp tp:Nat}{c:bZ}{ss:List cF}{t:gF}{ps:List (Nat×Nat)}{Gc Gt:Rg}(h:Sep (fX A Y (cK A Y) cs) U F)(hlc:A.cE.length=i)(hlt:A.cM.length=i)(hcp:Y.fG[i]?=some cp)(htp:Y.fU[i]?=some tp)(hc:A.tb[i]?=some c)
 (hC:fB U Gc cp c ps ss) (hTf:jr U Gt tp c.batch A.room t) (d1:∀b,Gc b->¬F b) (d2:∀b,Gt b->¬F b) (d3:∀b,Gc b->¬Gt b) :
 Sep (fX {A with cE:=A.cE++[ss],cM:=A.cM++[t]} Y (cK {A with cE:=A.cE++[ss],cM:=A.cM++[t]} Y) cs) U λb=>(F b\/Gc b)\/Gt b:=by
 have g:∀k,dM (cK A Y k):=λk=>cK.loc k;have u:Sep (fX {A with cE:=A.cE++[ss]} Y (cK A Y) cs) U λb=>F b\/Gc b:=by
  refine h.put (fX.loc g) (.cE i) d1 (λj r=>?_) ?_ (fX.loc g _)
  ·cases j<;>first|rfl|skip
   rename_i k;have d:k≠i:=λe=>r (by rw[e]);show j2 Y.fG[k]? A.tb[k]? (A.cE++[ss])[k]?=j2 Y.fG[k]? A.tb[k]? A.cE[k]?;rcases kg k i with h2|h2
   ·rw[ze O]
   ·have m:(A.cE++[ss])[k]?=none:=zV (by rw[zO,Ca];omega);have p:A.cE[k]?=none:=zV O;rw[m,p]
  ·show j2 Y.fG[i]? A.tb[i]? (A.cE++[ss])[i]? U Gc;rw[hcp,hc,zr O,hlc,qT];exact⟨ps,hC⟩
 refine u.put (fX.loc g) (.cM i) (λb s a=>?_) (λj r=>?_) ?_ (fX.loc (λk=>cK.loc k) _)
 ·rcases a with a|a
  ·exact d2 b s a
  ·exact d3 b a s
 ·cases j<;>first|rfl|skip
  rename_i k;have d:k≠i:=λe=>r (by rw[e]);show kZ Y.fU[k]? A.tb[k]? A.room (A.cM++[t])[k]?=kZ Y.fU[k]? A.tb[k]? A.room A.cM[k]?;rcases kg k i with h2|h2
  ·rw[ze O]
  ·have m:(A.cM++[t])[k]?=none:=zV (by rw[zO,Ca];omega);have p:A.cM[k]?=none:=zV O;rw[m,p]
 ·show kZ Y.fU[i]? A.tb[i]? A.room (A.cM++[t])[i]? U Gt;rw[htp,hc,zr O,hlt,qT];exact hTf
open Classical in
noncomputable def jt {L:Type}(C:L->Hp->Rg->Prop)(S:L->Prop)(i:L):Hp->Rg->Prop:=if S i then C i else xA
theorem jt.loc {L:Type}{C:L->Hp->Rg->Prop}{S:L->Prop}(hC:∀i,dM (C i))(i:L):dM (jt C S i):=by
 unfold jt;split
 ·exact hC i
 ·exact xA.loc
theorem jt.put {L:Type}{C:L->Hp->Rg->Prop}{S:L->Prop}{F G:Rg}(hC:∀i,dM (C i))(h:Sep (jt C S) U F)(i:L)(hd:∀b,G b->¬F b)(hi:C i U G):Sep (jt C λj=>S j\/j=i) U λb=>F b\/G b:=by
 refine h.put (jt.loc hC) i hd (λj a=>?_) ?_ (jt.loc hC i)
 ·unfold jt;by_cases hS:S j
  ·rw[zC (.inl hS),zC hS]
  ·rw[zB (λh=>hS (h.resolve_right a)),zB hS]
 ·unfold jt;rw[zC (.inr rfl)];exact hi
theorem jt.all {L:Type}{C:L->Hp->Rg->Prop}{S:L->Prop}{F:Rg}(h:Sep (jt C S) U F)(hS:∀i,S i):Sep C U F:=by
 have:jt C S=C:=by
  funext i;unfold jt;rw[zC (hS i)]
 rw[this]at h;exact h
theorem jt.one {L:Type}{C:L->Hp->Rg->Prop}(S:L->Prop)(l:L)(h:∀i,S i->C i U λ_=>False):Sep (jt C S) U λ_=>False:=by
 refine⟨λ_=>l,λi=>?_⟩;have:(λ(b:Nat)=>False/\l=i)=λ_=>False:=by funext b;simp
 rw[this];unfold jt;by_cases hS:S i
 ·rw[zC hS];exact h i hS
 ·rw[zB hS];trivial
theorem LS {tb:List bZ}:∀v∈fZ tb,dN v=true:=by
 intro v hv;simp only[fZ,List.mem_flatMap]at hv;obtain⟨c,_,a⟩:=hv;simp at a;rcases a with rfl|rfl|rfl<;>rfl
theorem U9 {s:Sl}{xs:List (Int×Int×Int)}(ha:ig U s xs)(hv:Qg xs=true){i:Nat}{c:bZ}(hc:(xs.map Z3)[i]?=some c):xs[i]?=some ((c.size:Int),(c.aF:Int),(c.batch:Int))/\c.ok:=by
 rw[za,pt]at hc;obtain⟨⟨x,y,z⟩,e,rfl⟩:=hc;obtain⟨c,a,j,d,b,g⟩:=Gm (((Qd xs).1 hv).2.2.1 i _ e);simp only at d b g;rw[j,e,d,b,g];exact⟨rfl,a⟩
theorem VR {s:Sl}{xs:List (Int×Int×Int)}(ha:ig U s xs)(hv:Qg xs=true){R:Sl->Hp->Prop}(hR:∀s' σ',bK U σ'->cV s' 3 (fZ (xs.map Z3)) σ' (λb=>U.size<=b)->R s' σ'):Wi.c s U R:=by
 refine Wi.o ?_;unfold Wi.v;have K:=(Qd xs).1 hv;have y:=ha.1;have p:0<(xs.map Z3).length:=by rw[zl];omega
 have D:(xs.map Z3)[0]?=some (xs.map Z3)[0]:=cT p;obtain⟨L,d,a,_⟩:=ha.2 0 _ _ _ (U9 ha hv D).1;refine cB (by rw[a];rfl) (nw (cs:=[]) λv A e1 F=>?_);have r:=ZR ha e1;refine(bR.nil v (λb=>U.size<=b) 3 (some ⟨U.size,0,none⟩)).app (ys:=fZ (xs.map Z3)) rfl (by rw[VV,zl];omega) ?_ LS aC aC O λs' G B E e=>hR s' G (Ext.fresh e1 E λi w=>w) ?_
 ·rw[a];intro j u hu;have m:=(cW.1 hu).1;rw[VV,zl]at m;have w:j/3<(xs.map Z3).length:=by rw[zl];omega
  have x:(xs.map Z3)[j/3]?=some (xs.map Z3)[j/3]:=cT w;generalize (xs.map Z3)[j/3]=c at x;have g:=Gr x;obtain⟨b,o,z,_,J,C,H⟩:=r.2 (j/3) _ _ _ (U9 ha hv x).1;rw[a]at z;cases z;rw[add_lit];rcases(by omega:j=3*(j/3)\/j=3*(j/3)+1\/j=3*(j/3)+2)with hj|hj|hj
  ·rw[hj]at hu;rw[g.1]at hu;cases hu;rw[show d+j=d+j/3*3 by omega];exact J
  ·rw[hj]at hu;rw[g.2.1]at hu;cases hu;rw[show d+j=d+j/3*3+1 by omega];exact C
  ·rw[hj]at hu;rw[g.2.2]at hu;cases hu;rw[show d+j=d+j/3*3+2 by omega];exact H
 ·rw[tN]at e;refine aH.mono e.gQ λb _ g=>?_;rcases g with h|h
  ·exact h
  ·omega
def fo (n room:Nat)(tb:List bZ):AR:={n:=n,room:=room,tb:=tb,S:=Go.Bu.iu,st:=List.replicate n 0,ow:=λ_=>0,cE:=List.replicate tb.length [],cM:=List.replicate tb.length ⟨0,[]⟩,runs:=[]}
def jg (n room:Nat)(tb:List bZ)(i:Nat):AR:={fo n room tb with cE:=List.replicate i [],cM:=List.replicate i ⟨0,[]⟩}
def kS (xs:List (Int×Int×Int))(n:Nat)(room:Int):Int:=if Qg xs then(if 32<=n/\n%16=0/\0<=room/\room<=8 then 0 else 1)else 2
def S0:Lb->Prop
 | .dO | .cN | .cE _ | .cM _=>True
 | _=>False
theorem DU {i cp tp:Nat}{c:bZ}{ss:List cF}{t:gF}{ps:List (Nat×Nat)}{Gc Gt:Rg}{dO cN:Sl}(hpos:Y.fG.length=i/\Y.fU.length=i)
 (h:Sep (fX A {Y with dO:=dO,cN:=cN,fG:=Y.fG++[cp],fU:=Y.fU++[tp]} (cK A {Y with dO:=dO,cN:=cN,fG:=Y.fG++[cp],fU:=Y.fU++[tp]}) (kK Y)) U F)
 (hlc:A.cE.length=i) (hlt:A.cM.length=i) (hc:A.tb[i]?=some c) (hC:fB U Gc cp c ps ss) (hTf:jr U Gt tp c.batch A.room t) (d1:∀b,Gc b->¬F b) (d2:∀b,Gt b->¬F b) (d3:∀b,Gc b->¬Gt b) {K:aP}
 (hK:∀σ' Y',Ext F U σ'->Y'.p=Y.p->Y'.hs=Y.hs->Y'.fG.length=i+1->Y'.fU.length=i+1->Sep (fX {A with cE:=A.cE++[ss],cM:=A.cM++[t]} Y' (cK {A with cE:=A.cE++[ss],cM:=A.cM++[t]} Y') (kK Y')) σ' (λb=>(F b\/Gc b)\/Gt b)->K σ') :
 bU (some ⟨Y.p,0,none⟩) λa93=>dX (a93.add 5) (.slice dO.a dO.len dO.cap) U λv25=>bU (some ⟨Y.p,0,none⟩) λa95=>dX (a95.add 6) (.slice cN.a cN.len cN.cap) v25 K:=by
 have m:∀k,dM (cK A {Y with dO:=dO,cN:=cN,fG:=Y.fG++[cp],fU:=Y.fU++[tp]} k):=λk=>cK.loc k;refine aG (FA (Y:={Y with dO:=dO,cN:=cN,fG:=Y.fG++[cp],fU:=Y.fU++[tp]}) m h (i:=5) (by simp[kK]) λx e1 w=>aG (FA (Y:={Y with dO:=dO,cN:=cN,fG:=Y.fG++[cp],fU:=Y.fU++[tp]}) m w (i:=6) (by simp[kK]) λu e2 r=>?_));have g:=(fB.loc (c:=c) (ps:=ps) (ss:=ss) (p:=cp)).bS ((fB.loc (c:=c) (ps:=ps) (ss:=ss) (p:=cp)).bS hC e1 λb _ d e=>d1 b d e) e2 λb _ d e=>d1 b d e;have j:=(jr.loc (p:=tp) (batch:=c.batch) (room:=A.room) (t:=t)).bS ((jr.loc (p:=tp) (batch:=c.batch) (room:=A.room) (t:=t)).bS hTf e1 λb _ d e=>d2 b d e) e2 λb _ d e=>d2 b d e;have s:=Jk (cp:=cp) (tp:=tp) r hlc hlt (by simp only;rw[zr O,hpos.1,qT];rfl) (by simp only;rw[zr O,hpos.2,qT];rfl) hc g j d1 d2 d3;exact hK u {Y with dO:=dO,cN:=cN,fG:=Y.fG++[cp],fU:=Y.fU++[tp]} (e1.trans e2) rfl rfl (by simp[hpos.1]) (by simp[hpos.2]) s
theorem qi {cs:List Value}{σ':Hp}(hT:∀k,dM (T k))(h:Sep (fX A Y T cs) U F)(e:bK U σ'):Sep (fX A Y T cs) σ' F:=(Sep.loc (fX.loc hT)).bO h e
theorem Dg {cs:List Value}(hT:∀k,dM (T k))(h:Sep (fX A Y T cs) U F):Sep (fX A Y T cs) U (Cut F U):=(Sep.loc (fX.loc hT)).cut h
theorem Ls (n room:Nat)(tb:List bZ)(i:Nat):({jg n room tb i with cE:=(jg n room tb i).cE++[[]],cM:=(jg n room tb i).cM++[⟨0,[]⟩]}:AR)=jg n room tb (i+1):=by
 unfold jg;simp only[←Co]
theorem PB (n room:Nat)(tb:List bZ):jg n room tb tb.length=fo n room tb:=rfl
theorem O2 {i cp tp:Nat}{c:bZ}{ss:List cF}{t:gF}{ps:List (Nat×Nat)}{Gc Gt:Rg}{z:Nat}(hF:∀b,F b->z<=b/\b<U.size)(hpos:Y.fG.length=i/\Y.fU.length=i)(hi:i<40)
 (h:Sep (fX A Y (cK A Y) (kK Y)) U F) (hlc:A.cE.length=i) (hlt:A.cM.length=i) (hc:A.tb[i]?=some c) (hC:fB U Gc cp c ps ss) (hTf:jr U Gt tp c.batch A.room t) (d1:∀b,Gc b->¬F b/\z<=b/\b<U.size) (d2:∀b,Gt b->¬F b/\z<=b/\b<U.size) (d3:∀b,Gc b->¬Gt b) {J4:aP}
 (hK:∀σ' Y',Ext F U σ'->Y'.p=Y.p->Y'.hs=Y.hs->Y'.fG.length=i+1->Y'.fU.length=i+1->Sep (fX {A with cE:=A.cE++[ss],cM:=A.cM++[t]} Y' (cK {A with cE:=A.cE++[ss],cM:=A.cM++[t]} Y') (kK Y')) σ' (λb=>z<=b)->J4 σ') :
 eN U λS=>bU (some ⟨Y.p,0,none⟩) λa80=>gC S .s (a80.add 5) λ(t82:Sl)=>bU (some ⟨Y.p,0,none⟩) λa87=>gC S .s (a87.add 6) λ(t89:Sl)=>
  (Nw (.cells #[.pointer (some ⟨cp,0,none⟩)] 182 (0,0)) U λn84 v21=>And (S v21) <|
   (App t82 1 8 182 [.pointer none] ⟨some n84,1,1⟩ v21 λt85 v22=>And (S v22)<|Nw (.cells #[.pointer (some ⟨tp,0,none⟩)] 184 (0,0)) v22 λn91 v23=>And (S v23)<|App t89 1 8 184 [.pointer none] ⟨some n91,1,1⟩ v23 λt92 v24=>And (S v24) <|
   bU (some ⟨Y.p,0,none⟩) λa93=>dX (a93.add 5) (.slice t85.a t85.len t85.cap) v24 λv25=>bU (some ⟨Y.p,0,none⟩) λa95=>dX (a95.add 6) (.slice t92.a t92.len t92.cap) v25 λv26=>J4 v26) ∧
   (Nw (.cells #[.pointer (some ⟨tp,0,none⟩)] 184 (0,0)) v21 λn911 v27=>And (S v27)<|App t82 1 8 182 [.pointer none] ⟨some n84,1,1⟩ v27 λt851 v28=>And (S v28)<|App t89 1 8 184 [.pointer none] ⟨some n911,1,1⟩ v28 λt921 v29=>And (S v29) <|
   bU (some ⟨Y.p,0,none⟩) λa931=>dX (a931.add 5) (.slice t851.a t851.len t851.cap) v29 λv30=>bU (some ⟨Y.p,0,none⟩) λa951=>dX (a951.add 6) (.slice t921.a t921.len t921.cap) v30 λv31=>J4 v31)) ∧
  (Nw (.cells #[.pointer (some ⟨tp,0,none⟩)] 184 (0,0)) U λn912 v32=>And (S v32)<|Nw (.cells #[.pointer (some ⟨cp,0,none⟩)] 182 (0,0)) v32 λn841 v33=>And (S v33) <|
  App t82 1 8 182 [.pointer none] ⟨some n841,1,1⟩ v33 λt852 v34=>And (S v34)<|App t89 1 8 184 [.pointer none] ⟨some n912,1,1⟩ v34 λt922 v35=>And (S v35) <|
  bU (some ⟨Y.p,0,none⟩) λa932=>dX (a932.add 5) (.slice t852.a t852.len t852.cap) v35 λv36=>bU (some ⟨Y.p,0,none⟩) λa952=>dX (a952.add 6) (.slice t922.a t922.len t922.cap) v36 λv37=>J4 v37):=by
 have H:∀k,dM (cK A Y k):=λk=>cK.loc k;have aa:=fB.loc (c:=c) (ps:=ps) (ss:=ss) (p:=cp);have N:=jr.loc (p:=tp) (batch:=c.batch) (room:=A.room) (t:=t);refine⟨λm=>bY m Y.p (kK Y),(mG h).1,aG ⟨Y.dO,λm hm=>by rw[add_lit,hm.cell];rfl,aG ⟨Y.cN,λm hm=>by rw[add_lit,hm.cell];rfl,?_⟩⟩⟩;have D:∀(w:Hp) (F1:Rg) (b1 b2:Nat),bK U w->(∀b,F1 b->F b)->Sep (fX A Y (cK A Y) (kK Y)) w F1->bY w b1 [.pointer (some ⟨cp,0,none⟩)]->bY w b2 [.pointer (some ⟨tp,0,none⟩)]->U.size<=b1->U.size<=b2 →
  App Y.dO 1 8 182 [.pointer none] ⟨some ⟨b1,0,none⟩,1,1⟩ w λt85 v28=>And (bY v28 Y.p (kK Y))<|App Y.cN 1 8 184 [.pointer none] ⟨some ⟨b2,0,none⟩,1,1⟩ v28 λt92 v29=>And (bY v29 Y.p (kK Y)) <|
   bU (some ⟨Y.p,0,none⟩) λa93=>dX (a93.add 5) (.slice t85.a t85.len t85.cap) v29 λv30=>bU (some ⟨Y.p,0,none⟩) λa95=>dX (a95.add 6) (.slice t92.a t92.len t92.cap) v30 λv31=>J4 v31:=by
  intro w F1 b1 b2 ew hF1 hw hb1 hb2 hz1 hz2;have y:∀b,F1 b->z<=b/\b<U.size:=λb d=>hF b (hF1 b d);have hsw:=ew.1;refine DP H hw O O hb1 (λg=>by have:=y _ g;omega) λs1 v28 G ae=>?_;have ab:=(mG ae).1;have ad:Sep (fX A {Y with dO:=s1,fG:=Y.fG++[cp]} (cK A {Y with dO:=s1,fG:=Y.fG++[cp]}) (kK Y)) v28 (Grow F1 w):=ae;refine⟨ab,?_⟩;have c28:Sep (fX A {Y with dO:=s1,fG:=Y.fG++[cp]} (cK A {Y with dO:=s1,fG:=Y.fG++[cp]}) (kK Y)) v28 (λb=>F1 b\/w.size<=b):=ad;have af:=G.bT hb2 λg=>by have:=y _ g;omega
  have hb2lt:=hb2.lt;refine Io c28 aC aC af (λg=>by
   rcases g with g|g
   ·have:=y _ g;omega
   ·omega) λs2 v29 e29 L=>?_
  refine⟨(mG L).1,?_⟩;have E:∀b,(F1 b\/w.size<=b)->F b\/U.size<=b:=λb d=>by
   rcases d with d|d
   ·exact .inl (hF1 b d)
   ·exact .inr O
  have j:Ext F U v29:=((bK.to ew).trans (G.sub hF1)).dS e29 E;have R:=aa.bS hC j λb _ d g=>(d1 b d).1 g;have W:=N.bS hTf j λb _ d g=>(d2 b d).1 g;have hs28:=G.1;refine DU (F:=Grow (λb=>F1 b\/w.size<=b) v28) hpos L hlc hlt hc R W (λb d g=>?_) (λb d g=>?_) d3 λw2 Y' e2 p1 p2 p3 p4 h2=>?_
  ·have:=d1 b d;rcases g with(g|g)|g
   ·exact this.1 (hF1 b g)
   ·omega
   ·omega
  ·have:=d2 b d;rcases g with(g|g)|g
   ·exact this.1 (hF1 b g)
   ·omega
   ·omega
  ·refine hK w2 Y' (j.dS e2 λb d=>?_) p1 p2 p3 p4 ((Sep.loc (fX.loc (λk=>cK.loc k))).mono h2 λb _ d=>?_)
   ·rcases d with(d|d)|d
    ·exact .inl (hF1 b d)
    ·exact .inr O
    ·exact .inr O
   ·have hz0:z<=U.size:=by have:=(d1 _ hC.fp);omega
    rcases d with(((d|d)|d)|d)|d
    ·exact(y b d).1
    ·omega
    ·omega
    ·exact(d1 b d).2.1
    ·exact(d2 b d).2.1
 have S0:∀{w:Hp},bK U w->bY w Y.p (kK Y):=λe=>e.bT (mG h).1 id;refine⟨nw (cs:=[.pointer (some ⟨cp,0,none⟩)]) λv21 z21 u P=>⟨S0 u,?_,?_⟩,nw (cs:=[.pointer (some ⟨tp,0,none⟩)]) λv32 z32 C b32=>⟨S0 C,nw (cs:=[.pointer (some ⟨cp,0,none⟩)]) λv33 z33 B b33=>⟨S0 (Ext.trans C B),?_⟩⟩⟩
 ·-- row,box,row
  have ag:=qi H h u;refine DP H ag O O P (λg=>by have:=hF _ g;omega) λs1 v22 V X=>⟨(mG X).1,?_⟩;have Q:Sep (fX A {Y with dO:=s1,fG:=Y.fG++[cp]} (cK A {Y with dO:=s1,fG:=Y.fG++[cp]}) (kK Y)) v22 (Grow F v21):=X;have c22:=Dg (λk=>cK.loc k) Q;refine nw (cs:=[.pointer (some ⟨tp,0,none⟩)]) λv23 z23 J b23=>?_;have Z:=qi (λk=>cK.loc k) c22 J;refine⟨(mG Z).1,Io Z aC aC b23 (λg=>by have:=g.2;omega) λs2 v24 e24 ac=>⟨(mG ac).1,?_⟩⟩;have hs22:=V.1;have hs23:=J.1;have r:∀b,Cut (Grow F v21) v22 b->F b\/U.size<=b:=λb d=>by
   rcases d.1 with h|h
   ·exact .inl h
   ·exact .inr O
  have j:Ext F U v24:=((((bK.to u).trans V).ji J)).dS e24 r;have M:=aa.bS hC j λb _ d g=>(d1 b d).1 g;have K:=N.bS hTf j λb _ d g=>(d2 b d).1 g;refine DU (F:=Grow (Cut (Grow F v21) v22) v23) hpos ac hlc hlt hc M K (λb d g=>?_) (λb d g=>?_) d3 λw2 Y' e2 p1 p2 p3 p4 h2=>?_
  ·have:=d1 b d;rcases g with g|g
   ·rcases g.1 with g|g
    ·exact this.1 g
    ·omega
   ·omega
  ·have:=d2 b d;rcases g with g|g
   ·rcases g.1 with g|g
    ·exact this.1 g
    ·omega
   ·omega
  ·refine hK w2 Y' (j.dS e2 λb d=>?_) p1 p2 p3 p4 ((Sep.loc (fX.loc (λk=>cK.loc k))).mono h2 λb _ d=>?_)
   ·rcases d with d|d
    ·exact r b d
    ·exact .inr O
   ·have hz0:z<=U.size:=by have:=(d1 _ hC.fp);omega
    rcases d with((d|d)|d)|d
    ·rcases r b d with h|h
     ·exact(hF b h).1
     ·omega
    ·omega
    ·exact(d1 b d).2.1
    ·exact(d2 b d).2.1
 ·-- box,row,row
  refine nw (cs:=[.pointer (some ⟨tp,0,none⟩)]) λv27 z27 x ah=>⟨S0 (Ext.trans u x),?_⟩;exact D v27 F U.size v21.size (Ext.trans u x) (λb d=>d) (qi H (qi H h u) x) (x.bT P id) ah (zD _) O
 ·exact D v33 F v32.size U.size (Ext.trans C B) (λb d=>d) (qi H (qi H h C) B) b33 (B.bT b32 id) O (zD _)
theorem xO {P:Hp->Rg->Prop}(hl:dM P){a:Nat}(h:P U λb=>a<=b):P U λb=>a<=b/\b<U.size:=hl.mono h λb d e=>⟨e,d⟩
theorem SW {n room:Nat}{tb:List bZ}(h1:32<=n)(h2:n<=1024)(h3:n%16=0)(h4:room<=8)(h5:1<=tb.length)(h6:tb.length<=40)(h7:∀c∈tb,c.ok)(hc:Y.fG.length=tb.length)(ht:Y.fU.length=tb.length):eU (fo n room tb) Y:=
 ⟨hc,ht,by simp[fo],by simp[fo],h5,h6,h1,h2,h3,by simp[fo],h4,h7⟩
theorem NY {s:Sl}{xs:List (Int×Int×Int)}(ha:ig U s xs)(hS:dL U H hs sp)(room:Int){R:Option Addr->Int->Hp->Prop}
 (h0:kS xs sp.st.length room≠0->∀σ',bK U σ'->R none (kS xs sp.st.length room) σ')
 (h1:kS xs sp.st.length room=0->∀σ' Y,bK U σ'->Y.hs=hs->dG σ' (λb=>U.size<=b) Y (fo sp.st.length room.toNat (xs.map Z3)) (cK (fo sp.st.length room.toNat (xs.map Z3)) Y)->R (some ⟨Y.p,0,none⟩) 0 σ') :
 QQ.c s (some ⟨hs,0,none⟩) room U R:=by
 refine QQ.o ?_;unfold QQ.v;have hn2:sp.st.length<=1024:=by obtain⟨q,r,l,B,h⟩:=hS;exact h.n2
 refine Gp ha λv e=>?_;cases hv:Qg xs
 ·have e1:kS xs sp.st.length room=2:=by unfold kS;rw[hv];rfl
  have:=h0 (by rw[e1];decide) v e;rw[e1]at this;exact cD rfl this
 have eE:kS xs sp.st.length room=if 32<=sp.st.length/\sp.st.length%16=0/\0<=room/\room<=8 then 0 else 1:=by unfold kS;rw[hv,zC rfl]
 refine cB rfl (CG (hS.bO e) ?_);have D:¬(32<=sp.st.length/\sp.st.length%16=0/\0<=room/\room<=8)->R none 1 v:=λhn=>by
  rw[zB hn]at eE;have:=h0 (by rw[eE];decide) v e;rw[eE]at this;exact this
 have tm:(((sp.st.length:Nat):Int).tmod 16)=((sp.st.length%16:Nat):Int):=by rw[Qz O];simp
 refine bW.intro (cQ (λc1=>bW.intro (cD rfl (bW.intro (cD rfl (cD rfl (D O)))))) λc1=>nz aB ?_);rw[tm,Lm];refine bW.intro (cO (λc2=>bW.intro (cD rfl (cD rfl (D (λh=>by have:=h.2.1;simp[this]at c2))))) λc2=>?_);have Z:sp.st.length%16=0:=by simpa using c2
 refine bW.intro (cQ (λc3=>cD rfl (D O)) λc3=>cQ (λc4=>D O) λc4=>?_);obtain⟨X,rfl⟩:=zc (show 0<=room by omega);rw[zC O]at eE;have h1:=h1 eE;simp only[dE]at h1;have hva:=(Qd xs).1 hv;have S:=ZR ha e;have hn1:32<=sp.st.length:=by omega
 generalize sp.st.length=n at *;have hlen:s.len=(xs.map Z3).length:=by rw[zl];exact ha.1
 have hcl:∀{σ':Hp} {i:Nat} {c:bZ},ig σ' s xs->(xs.map Z3)[i]?=some c->xs[i]?=some ((c.size:Int),(c.aF:Int),(c.batch:Int))/\c.ok:=λh K=>U9 h hv K;have J:1<=(xs.map Z3).length/\(xs.map Z3).length<=40:=by rw[zl];omega
 refine VR S hv λdD v5 e5 aa=>O6 λV op e6 hop hP=>tv λA z7 e7 hm=>?_;generalize htbd:xs.map Z3=tb at *;refine nw (cs:=[.slice dD.a dD.len dD.cap,.pointer (some ⟨hs,0,none⟩),.pointer none,.pointer none,.pointer (some ⟨op,0,none⟩),.slice none 0 0,.slice none 0 0,.map (some V.size)]) λv8 z8 e8 b8=>?_;refine Go.Bu.tO _ (λg=>absurd ⟨O,O⟩ g) λn' hn' _ _ v9 sb ms e9 hB hfp=>?_;have hnn:n=n':=by omega
 subst hnn;have b9:=e9.bT b8 id;refine aG (b9.s1 aA λv10 gH b10=>Mv O O Z λP tp tq M htp htq hTk=>aG ((M.bT b10 id).s1 aA λv12 L b12=>?_));have s5:=e5.1;have s6:=e6.1;have s9:=e9.1;have s10:=gH.1;have s11:=M.1;have s12:=L.1;have hb8:=b8.lt;have x9:Ext (· = A.size) v9 v12:=(gH.ext.trans (bK.to M)).trans L.ext;have x5:Ext (· = A.size) v5 v12:=(bK.to (Ext.trans (Ext.trans (Ext.trans e6 e7) e8) e9)).trans x9;have x6:Ext (· = A.size) V v12:=(bK.to (Ext.trans (Ext.trans e7 e8) e9)).trans x9;have x7:Ext (· = A.size) A v12:=(bK.to (Ext.trans e8 e9)).trans x9;have x11:Ext (· = A.size) P v12:=L.ext;have p1:=aH.bS (xO aH aa) x5 λb _ g d=>by omega
 have p2:=(jb.loc (p:=op) (ow:=λ_=>0)).bS (xO jb.loc hP) x6 λb _ g d=>by omega
 have p3:dH v12 V.size .i64 bN []:=x7.fO (hm _ _) O;have p5:sU v8.size n Go.Bu.iu v12 (λb=>v8.size<=b/\b<v9.size):=(sU.loc _ _ _).bS (xO (sU.loc _ _ _) ⟨sb,ms,hB,hfp⟩) x9 λb _ g d=>by omega
 have p6:mc tp (List.replicate n 0) v12 (λb=>v10.size<=b/\b<P.size):=(mc.loc _ _).bS (xO (mc.loc _ _) ⟨tq,hTk,htp,htq⟩) x11 λb _ g d=>by omega
 let Y0:Lay:={p:=A.size,hs:=hs,fr:=v8.size,tr:=tp,op:=op,rn:=V.size,dD:=dD,dO:=⟨none,0,0⟩,cN:=⟨none,0,0⟩,fG:=[],fU:=[]}
 have b12':bY v12 A.size (kK Y0):=b12
 let Cf:=fX (jg n X tb 0) Y0 (cK (jg n X tb 0) Y0) (kK Y0)
 have u:∀i,dM (Cf i):=fX.loc λk=>cK.loc k;have q0:Sep (jt Cf S0) v12 λ_=>False:=jt.one S0 .hd λi W=>by
  cases i<;>first|exact W.elim|exact bR.nil _ _ _ _|exact trivial
 have q1:=jt.put u q0 .dD (G:=λb=>v.size<=b/\b<v5.size) (λb g d=>d) p1;have q2:=jt.put u q1 .own (G:=λb=>v5.size<=b/\b<V.size) (λb g d=>by
  rcases d with d|d
  ·exact d
  ·omega) p2
 have q3:=jt.put u q2 .runs (G:=λb=>b=V.size) (λb g d=>by
  rcases d with(d|d)|d
  ·exact d
  ·omega
  ·omega) ⟨rfl,p3⟩
 have q4:=jt.put u q3 .hd (G:=λb=>b=A.size) (λb g d=>by
  rcases d with((d|d)|d)|d
  ·exact d
  ·omega
  ·omega
  ·omega) ⟨rfl,b12'⟩
 have q5:=jt.put u q4 .free (G:=λb=>v8.size<=b/\b<v9.size) (λb g d=>by
  rcases d with(((d|d)|d)|d)|d
  ·exact d
  ·omega
  ·omega
  ·omega
  ·omega) p5
 have q6:=jt.put u q5 .nW (G:=λb=>v10.size<=b/\b<P.size) (λb g d=>by
  rcases d with((((d|d)|d)|d)|d)|d
  ·exact d
  ·omega
  ·omega
  ·omega
  ·omega
  ·omega) p6
 have q7:Sep Cf v12 λb=>v.size<=b:=by
  refine(Sep.loc u).mono (jt.all q6 λi=>?_) λb _ d=>?_
  ·cases i<;>simp[S0]
  ·rcases d with(((((d|d)|d)|d)|d)|d)|d
   ·exact d.elim
   ·omega
   ·omega
   ·omega
   ·omega
   ·omega
   ·omega
 have e12:bK v v12:=Ext.fresh e5 x5 λi W=>by omega
 have szv:=e.1;refine Z0 (a:=bN) (λ(t:Int) w=>∃(i:Nat) (Y:Lay),t=(i:Int)/\i<=tb.length/\Y.p=A.size/\Y.hs=hs/\Y.fG.length=i/\Y.fU.length=i/\bK v w/\Sep (fX (jg n X tb i) Y (cK (jg n X tb i) Y) (kK Y)) w (λb=>v.size<=b)) (λt _=>tb.length-t.toNat)
  ⟨0,Y0,rfl,O,rfl,rfl,rfl,rfl,e12,q7⟩ ?_
 rintro t w ⟨i,Y,rfl,W,hYp,hYh,hYc,hYt,ew,y⟩;refine cQ (λhlt=>?_) λhge=>?_
 ·have hi':i<tb.length:=by omega
  have K:tb[i]?=some tb[i]:=cT hi';generalize tb[i]=c at K;have haw:=ZR S ew;obtain⟨hxi,hok⟩:=hcl haw K;refine yd haw hxi ?_;refine nw (cs:=[.int .i64 0,.int .i64 0,.int .i64 0]) λv14 hz14 e14 b14=>b14.s1 aA λv15 o15 b15=>b15.s1 aA λv16 o16 b16=>b16.s1 aA λv17 o17 b17=>?_;have N:bK w v17:=Ext.fresh (Ext.fresh (Ext.fresh e14 o15.ext λi W=>O) o16.ext λi W=>O) o17.ext λi W=>by omega
  have x:bY v17 w.size [.int .i64 (c.size:Int),.int .i64 (c.aF:Int),.int .i64 (c.batch:Int)]:=b17;refine x.rI rfl (x.rI rfl (x.rI rfl (MT hok λv18 cp C hcp1 hcp2 hCe=>?_)));have b18:=C.bT x id;obtain⟨_,_,_,_,_,_,hbt1,hbt2⟩:=id hok;refine b18.rI rfl (MD hbt1 hbt2 O λv19 tp2 E htp1 htp2 hTf=>Jn.intro ?_);have s14:=N.1;have s18:=C.1;have s19:=E.1;have sw:=ew.1;have hT:∀k,dM (cK (jg n X tb i) Y k):=λk=>cK.loc k;have h19:=qi hT (qi hT (qi hT (Dg hT y) N) C) E;have Q:=hCe.bO E;rw[←hYp];refine O2 (F:=Cut (λb=>v.size<=b) w) (z:=v.size) (ss:=[]) (t:=⟨0,[]⟩) (λb g=>⟨g.1,by have:=g.2;omega⟩) ⟨hYc,hYt⟩ O h19 (by simp[jg]) (by simp[jg]) K Q hTf (λb g=>?_) (λb g=>?_) (λb g hb2=>O) λw2 Y' e2 y1 y2 y3 y4 h2=>?_
  ·subst g;exact⟨λd=>by have:=d.2;omega,O,O⟩
  ·subst g;exact⟨λd=>by have:=d.2;omega,O,O⟩
  ·rw[Ls]at h2;exact cP (m:=i+1) O O ⟨⟨i+1,Y',rfl,O,y1,y2.trans hYh,y3,y4,Ext.fresh (Ext.trans (Ext.trans (Ext.trans ew N) C) E) e2 λb g=>g.1,h2⟩,O⟩
 ·have:i=tb.length:=by omega
  subst this;rw[PB,JX]at y;have hl:eU (fo n X tb) Y:=SW hn1 hn2 Z O J.1 J.2 (λc K=>by
   obtain⟨j,hj⟩:=zQ K;exact(hcl S hj).2) hYc hYt
  have:=h1 w Y (Ext.trans e ew) hYh ⟨hl,λk=>cK.loc k,(Sep.loc (AC.loc λk=>cK.loc k)).mono y λb _ g=>zh szv g⟩;rw[hYp]at this;exact this
end Go.Ar
namespace Go.Vc
open Go
variable {U:Hp}{F:Rg}{s:Sl}{sz:Nat}{xs:List Value}
def dI (s:Sl)(sz:Nat)(xs:List Value):Hp->Rg->Prop:=λh F=>xs.length=s.len*sz/\(s.len=0/\s.cap=0\/∃b o cs,F b/\s.a=some ⟨b,o,none⟩/\bY h b cs/\s.len<=s.cap/\cs.length=o+s.cap*sz/\(cs.drop o).take xs.length=xs)
theorem dI.loc (s:Sl)(sz:Nat)(xs:List Value):dM (dI s sz xs):=λU d F G h g a=>by
 refine⟨h.1,h.2.imp id ?_⟩;rintro⟨b,o,cs,hq,ha,⟨e,he⟩,r⟩;have:=a b (bY.lt ⟨e,he⟩) hq;exact⟨b,o,cs,this.1,ha,⟨e,this.2.trans he⟩,r⟩
theorem dI.nil (h:Hp)(F:Rg)(sz:Nat)(a:Option Addr):dI ⟨a,0,0⟩ sz [] h F:=⟨by simp,.inl ⟨rfl,rfl⟩⟩
theorem bR.o (h:bR s sz xs U F):dI s sz xs U F:=⟨h.1,h.2.imp id λ⟨b,d,e,i,g,a,j,m⟩=>⟨b,0,d,e,i,g,a,O,by simpa using m⟩⟩
theorem dI.gQ (h:dI s sz xs U F):cV s sz xs U F:=by
 refine⟨h.1,?_⟩;rcases h.2 with⟨hl,_⟩|⟨b,o,cs,hq,ha,hb,_,_,ht⟩
 ·left;have:=h.1;rw[hl]at this;simpa using this
 ·refine .inr ⟨b,o,cs,hq,ha,hb.q,λj a=>?_⟩;rw[←ht,zj,kP,zC a]
theorem dI.cap (h:dI s sz xs U F):s.len<=s.cap:=by
 rcases h.2 with⟨q1,q2⟩|⟨_,_,_,_,_,_,q,_⟩
 ·omega
 ·exact q
theorem dI.app {x:Sl}{bytes e:Nat}{zs ys:List Value}{K:Sl->Hp->Prop}(ho:dI s sz xs U F)(hz:zs.length=sz)
 (hy:ys.length=x.len*sz) (hr:Rd U x.a ys) (h1:∀v∈ys,dN v=true) (hb:(s.len+x.len)*bytes<=2^46) (hc:s.len+x.len<=2^62)
 (hx:0<x.len) (hK:∀s' h',s'.len=s.len+x.len->Ext F U h'->dI s' sz (xs++ys) h' (Grow F U)->K s' h'):App s sz bytes e zs x U K:=by
 refine⟨xs,ys,ho.1,hy,ho.gQ.rd,hr,h1,hb,hc,λg=>?_,λr c p=>?_⟩
 ·rcases ho.2 with⟨hl,hcap⟩|⟨b,o,cs,hQ,ha,hk,hle,hcl,ht⟩
  ·omega
  ·rw[ha];simp only;rw[add_lit];have u:(s.len+x.len)*sz<=s.cap*sz:=l7 _ g;rw[zm]at u;have d:=ho.1;refine VT hk O λh' m j=>hK _ h' rfl (Ext.eJ m hQ) ⟨?_,.inr ⟨b,o,_,.inl hQ,rfl,j,g,?_,?_⟩⟩
   ·simp[d,hy,zm]
   ·simp;omega
   ·rw[zO,d,j6];have e1:(cs.take (o+s.len*sz)++ys++cs.drop (o+s.len*sz+ys.length)).drop o=(cs.drop o).take (s.len*sz)++(ys++cs.drop (o+s.len*sz+ys.length)):=by
     rw[j3,List.drop_append_of_le_length (by rw[zZ];omega),List.drop_take]
     congr 2;omega
    have i:(cs.drop o).take (s.len*sz)=xs:=by rw[←d];exact ht
    rw[e1,i,←j3,oV aE,mN aE]
 ·refine hK _ _ rfl (Ext.push _ _ _) ⟨by simp[ho.1,hy,zm],.inr ⟨U.size,0,xs++ys++(List.replicate (c-(s.len+x.len)) zs).flatten,.inr (zD _),rfl,⟨e,by simp⟩,p,?_,?_⟩⟩
  ·simp only[zO,wY,uI,wK,ho.1,hy,hz,←zm];rw[zH];congr 1;omega
  ·rw[yu,oV aA,mN aA]
theorem dI.sR {x:Sl}{bytes e:Nat}{zs:List Value}{K:Sl->Hp->Prop}(ho:dI s sz xs U F)(hx:x.len=0)(hb:s.len*bytes<=2^46)(hc:s.len<=2^62)(hK:dI ⟨s.a,s.len,s.cap⟩ sz xs U F->K ⟨s.a,s.len,s.cap⟩ U):App s sz bytes e zs x U K:=by
 have d:=ho.cap;refine⟨xs,[],ho.1,by simp[hx],ho.gQ.rd,by cases x.a<;>simp[Rd],by simp,by rw[hx];exact hb,O,λg=>?_,λb=>absurd O b⟩
 rw[hx];have:=hK ho;cases ha:s.a<;>(rw[ha]at this;exact this)
theorem dI.from (h:dI s sz xs U F){lo:Nat}(h1:lo<=s.len):dI ⟨if s.cap=lo then s.a else s.a.map (·.add (lo*sz)),s.len-lo,s.cap-lo⟩ sz (xs.drop (lo*sz)) U F:=by
 have d:=h.1;refine⟨by rw[j5,d,Nat.sub_mul],?_⟩;rcases h.2 with⟨q1,q2⟩|⟨b,o,cs,hq,ha,hb,hle,hcl,ht⟩
 ·left;simp only;omega
 ·by_cases hm:s.cap=lo
  ·left;simp only;omega
  ·refine .inr ⟨b,o+lo*sz,cs,hq,by simp only[zB hm,ha,zX,add_lit],hb,by simp only;omega,?_,?_⟩
   ·have:lo*sz<=s.cap*sz:=l7 _ O;rw[hcl,Nat.sub_mul];omega
   ·rw[j5]
    conv=>rhs;rw[←ht]
    rw[List.drop_take,List.drop_drop]
end Go.Vc
namespace Go.Ar
open Go Go.Vc Go.Proofs
variable {U:Hp}{F G:Rg}{Y:gS}{tb:List bZ}{bud:Nat}{ls:List Li}{b k:Nat}{l:Li}{c:bZ}
theorem Mm {s:Sl}{xs:List (Int×Int×Int)}(ha:ig U s xs)(dA:Int){R:Option Addr->Int->Hp->Prop}(h0:Qg xs=false->∀σ',bK U σ'->R none 2 σ')
 (h1:Qg xs=true->¬(0<=dA/\dA<=65536)->∀σ',bK U σ'->R none 1 σ')
 (h2:Qg xs=true->0<=dA->dA<=65536->∀σ' Y,bK U σ'->eC σ' (λq=>U.size<=q) Y (xs.map Z3) dA.toNat (List.replicate (xs.map Z3).length ik)->R (some ⟨Y.p,0,none⟩) 0 σ') :
 QN.c s dA U R:=by
 refine QN.o ?_;unfold QN.v;refine Gp ha λv e=>?_;cases hv:Qg xs
 ·exact cD rfl (h0 hv v e)
 refine cB rfl (bW.intro (cQ (λw=>cD rfl (h1 hv O v e)) λw=>cQ (λx=>h1 hv O v e) λx=>?_));have d:=ZR ha e;have B:=(Qd xs).1 hv;refine VR d hv λdD b e1 j=>tv λg E e2 y=>nw (cs:=[.slice dD.a dD.len dD.cap,.int .i64 dA,.map (some b.size)]) λv3 F m C=>?_;have s1:=e1.1;have s0:=e.1;refine h2 hv O O v3 ⟨g.size,b.size,dD,[]⟩ (((e.trans e1).trans e2).trans m) ⟨by rw[zl];omega,λc z=>?_,by simp,by simp,?_⟩
 ·obtain⟨i,u⟩:=zQ z;exact(U9 d hv u).2
 ·refine⟨λq=>if q=g.size then .hd else if q=b.size then .mp else .dD,λi=>?_⟩
  cases i with
  | hd=>
   refine⟨⟨by show U.size<=g.size;omega,by simp⟩,?_⟩;have:((dA.toNat:Nat):Int)=dA:=by omega
   simp only[zx,this];exact C
  | mp=>
   refine⟨⟨by show U.size<=b.size;omega,?_⟩,m.fO (y .i64 .p) id⟩;show(if b.size=g.size then sJ.hd else if b.size=b.size then sJ.mp else sJ.dD)=.mp
   rw[zB O,zC rfl]
  | dD=>
   have A:=aH.bO (aH.bO (aH.mono j (G:=λq=>v.size<=q/\q<b.size) λq r D=>⟨D,r⟩) e2) m;refine aH.mono A λq _ r=>⟨O,?_⟩;show(if q=g.size then sJ.hd else if q=b.size then sJ.mp else sJ.dD)=.dD
   rw[zB O,zB O]
  | li k=>
   simp only[CC,pa,iQ,List.find?_nil,Option.map_none];cases hk:(List.replicate (xs.map Z3).length ik)[k]? with
   | none=>trivial
   | some l=>simp only[mr]at hk;split at hk<;>simp_all
def kr (f:Nat->Nat)(l:List (Int×Option Addr)):Nat:=(l.map λx=>f x.1.toNat).sum
theorem DT (f:Nat->Nat):∀{l:List (Int×Option Addr)} {n:Int} {x:Option Addr},(l.map (·.1)).Nodup->(n,x)∈l->kr f l=f n.toNat+kr f (l.filter λy=>!(y.1==n))
 | [],_,_,_,h=>by simp at h
 | y::l,n,x,hn,h=>by
  simp only[zR,zt]at hn;rcases zW.1 h with h1|h1
  ·subst h1;have:l.filter (λy=>!(y.1==n))=l:=by
    rw[pH];intro z hz;have:z.1≠n:=λe=>hn.1 (zE.2 ⟨z,hz,e⟩);simpa using this
   rw[ua aA,this];simp[kr]
  ·have a:y.1≠n:=λe=>hn.1 (zE.2 ⟨_,h1,e.symm⟩);rw[uO (by simpa using a)];have:=DT f hn.2 h1;simp only[kr,zR,nM]at *;omega
theorem Pu (n a v:Nat):((List.range n).map λj=>if j=a then v else 0).sum=if a<n then v else 0:=by
 induction n with
 | zero=>simp
 | succ n ih=>
  rw[qm,zz,List.sum_append,ih];by_cases h:a=n
  ·subst h;simp
  ·by_cases h2:a<n
   ·rw[zC h2,zC O];simp[Ne.symm h]
   ·rw[zB h2,zB O];simp[Ne.symm h]
theorem Nv (l:List Nat)(f g:Nat->Nat):(l.map λj=>f j+g j).sum=(l.map f).sum+(l.map g).sum:=by
 induction l with
 | nil=>rfl
 | cons x l ih=>simp only[zR,nM,ih];omega
theorem Fz (f:Nat->Nat)(n:Nat):∀(ps:List (Nat×Nat)),(ps.map (·.1)).Nodup->(∀x∈ps,x.1<n)->(ps.map λx=>f x.1).sum=((List.range n).map λj=>if j∈ps.map (·.1)then f j else 0).sum
 | [],_,_=>by
  have:((List.range n).map λj=>if j∈([]:List (Nat×Nat)).map (·.1)then f j else 0)=(List.range n).map λ_=>0:=by simp
  rw[this]
  induction n with
  | zero=>rfl
  | succ n a=>rw[qm,zz,List.sum_append];simp at *;exact a
 | x::ps,hn,hl=>by
  simp only[zR,zt]at hn;have a:=Fz f n ps hn.2 λy b=>hl y (by simp[b]);rw[zR,nM,a];have e:((List.range n).map λj=>if j∈(x::ps).map (·.1)then f j else 0)=(List.range n).map λj=>(if j=x.1 then f x.1 else 0)+(if j∈ps.map (·.1)then f j else 0):=by
   apply ka;intro j _;by_cases hj:j=x.1
   ·subst hj;rw[zC aA,zC rfl,zB hn.1];rfl
   ·rw[zB hj,zH];by_cases hm:j∈ps.map (·.1)
    ·rw[zC hm,zC (by simp only[zR,zW];exact .inr hm)]
    ·rw[zB hm,zB (by simp only[zR,zW,not_or];exact⟨hj,hm⟩)]
  rw[e,Nv,Pu,zC (hl x aA)]
def pR (tb:List bZ)(ls:List Li)(k:Nat):Nat:=match tb[k]?,ls[k]? with
 | some c,some l=>c.size*l.os.length
 | _,_=>0
theorem DR:∀(tb:List bZ) (ls:List Li),ls.length=tb.length->QS tb ls=((List.range tb.length).map (pR tb ls)).sum
 | [],[],_=>rfl
 | c::tb,l::ls,h=>by
  have ih:=DR tb ls (by simpa using h);simp only[QS]at ih;simp only[QS,List.zip_cons_cons,zR,nM,zY,ih,List.range_succ_eq_map,lh];rfl
 | [],_::_,h=>by simp at h
 | _::_,[],h=>by simp at h
theorem eC.nil (h:eC U F Y tb bud ls)(hf:iQ Y.ps k=none)(hl:ls[k]?=some l):l=ik:=by
 obtain⟨G,_,a⟩:=h.sep.get (.li k);simp only[CC,pa,hf,hl]at a;exact a
theorem eC.vE (h:eC U F Y tb bud ls):(Y.ps.map (·.1)).Nodup:=by
 have:=h.map.nodup;have e:(jS Y.ps).map (·.1)=(Y.ps.map (·.1)).map λ(n:Nat)=>(n:Int):=by simp[jS]
 rw[e]at this;exact List.Pairwise.of_map (λ(n:Nat)=>(n:Int)) (λa b d e=>d (by rw[e])) this
theorem eC.bytes (h:eC U F Y tb bud ls):kr (pR tb ls) (jS Y.ps)=QS tb ls:=by
 have e1:kr (pR tb ls) (jS Y.ps)=(Y.ps.map λx=>pR tb ls x.1).sum:=by simp[kr,jS,Function.comp_def]
 rw[e1,Fz _ tb.length _ h.vE h.keys,DR _ _ h.len]
 congr 1
 apply ka;intro j hj;have a:=zg.1 hj;by_cases hm:j∈Y.ps.map (·.1)
 ·rw[zC hm]
 ·rw[zB hm];have g:iQ Y.ps j=none:=by
   unfold iQ;simp only[rO,nS,zT];exact λx d e=>hm (zE.2 ⟨x,d,e⟩)
  have b:ls[j]?=some (ls[j]'(by rw[h.len];exact a)):=cT _;have:=h.nil g b;unfold pR;rw[cT a,b,this];rfl
theorem EY:∀(tb:List bZ) (ls:List Li),(∀c∈tb,c.ok)->(∀l∈ls,fJ l)->QS tb ls<=tb.length*131072
 | [],_,_,_=>by simp[QS]
 | _::_,[],_,_=>by simp[QS]
 | c::tb,l::ls,h1,h2=>by
  have ih:=EY tb ls (λc a=>h1 c (by simp[a])) (λl d=>h2 l (by simp[d]));simp only[QS]at ih;simp only[QS,List.zip_cons_cons,zR,nM,zY];have a:=h1 c aA;unfold bZ.ok at a;have b:=(h2 l aA).many;have e:c.size*l.os.length<=512*256:=l0 O b;omega
theorem PO (h:eC U F Y tb bud ls)(hok:∀l∈ls,fJ l):QS tb ls<=5242880:=by
 have b:=EY tb ls h.ok hok;have a:=h.nC;omega
theorem eC.Rv (h:eC U F Y tb bud ls):∀l∈ls,fJ l:=by
 intro l hl;obtain⟨k,a⟩:=zQ hl;cases hf:iQ Y.ps k with
 | none=>rw[h.nil hf a];exact fJ.nil
 | some b=>
  obtain⟨G,_,d,_⟩:=h.vZ hf a;exact d.2.1
theorem Cx (h:eC U F Y tb bud ls){R:aN}(hR:∀σ',bK U σ'->R ((QS tb ls:Nat):Int) σ'):Xx.c (aW Y.p) U R:=by
 refine Xx.o ?_;unfold Xx.v;have hle:=PO h h.Rv;have hT:=h.bytes;refine UV h (cB rfl (aG (h.hd.rM rfl ?_)));refine sP (a:=bN) h.map (λg (z:Int) v=>∃n:Nat,z=(n:Int)/\n+kr (pR tb ls) g=QS tb ls/\(∀e∈g,e∈jS Y.ps)/\(g.map (·.1)).Nodup/\bK U v) ?_ ?_ ?_
 ·intro v hz e;exact⟨0,rfl,by rw[hT];omega,λe he=>he,h.map.nodup,e⟩
 ·rintro z v ⟨n,rfl,E,_,_,e⟩;simp only[kr,pE,List.sum_nil,j6]at E;rw[E];exact hR v e
 ·rintro g n x z v v' J ⟨m,rfl,E,r,C,e⟩ W ho hlt hJ;have V:bK U v':=e.only ho (.inr (zD _));have M:=h.bO V;have j:=r _ W;simp only[jS,zE,Prod.mk.injEq]at j;obtain⟨⟨k,b⟩,w,D,A⟩:=j;simp only at D A;subst D;subst A;have H:=h.keys _ w;simp only at H;have S:tb[k]?=some tb[k]:=cT H;have P:ls[k]?=some (ls[k]'(by rw[h.len];exact H)):=cT _;generalize tb[k]=c at S;generalize (ls[k]'(by rw[h.len];exact H))=l at P;have Q:iQ Y.ps k=some b:=Dm h.map.nodup w;obtain⟨G,hG,hL,_⟩:=M.vZ Q P;obtain⟨_,hok,s,N,K,Z⟩:=hL;have L:s.len=l.os.length:=by have:=K.1;simp[Wo]at this;omega
  have hb:pR tb ls k=c.size*l.os.length:=by unfold pR;rw[S,P]
  have u:=DT (pR tb ls) C W;simp only[dE]at u;refine aG (M.hd.rS rfl (GV M.jE S (d:=0) O ?_));simp only[zS];refine aG (N.rS rfl ?_);have B:m+c.size*l.os.length+kr (pR tb ls) (List.filter (λy=>!(y.1==(k:Int))) g)=QS tb ls:=by
   have X:=u;rw[hb]at X;rw[←E,X,wD]
  refine cP (m:=c.size*l.os.length) (by simp only[L];simp) O (cP (m:=m+c.size*l.os.length) O O (hJ _ v' rfl rfl ⟨_,rfl,B,λy hy=>r y (zI.1 hy).1,C.sublist (List.filter_sublist.map _),V⟩))
theorem NR (h:eC U F Y tb bud ls){R:aO}(hR:∀σ',bK U σ'->R (decide (bud<QS tb ls)) σ'):XT.c (aW Y.p) U R:=by
 refine XT.o ?_;unfold XT.v;have e:decide (((QS tb ls:Nat):Int)>(bud:Int))=decide (bud<QS tb ls):=by rw[decide_eq_decide];omega
 refine Jn.intro (UV h (cD rfl (aG ⟨Cx h λσ' a=>(a.bT h.hd id).rI rfl ?_,h.hd.rI rfl (Cx h λσ' a=>?_)⟩)))
 ·rw[e];exact hR σ' a
 ·rw[e];exact hR σ' a
def Bd (f:bZ->Li->List Int×Li)(fn:Nat):Prop:=∀{U:Hp} {G:Rg} {b:Nat} {l:Li} {c:bZ},iO b l U G->c.ok->∀{R:Sl->Hp->Prop},
 (∀s z σ',Ext (· = b) U σ'->U.size<=z->bR s 1 (Wo (f c l).1) σ' (λq=>U.size<=q/\q<z)->iO b (f c l).2 σ' (λq=>q=b\/z<=q)->R s σ') →
 VW Tryz.prog ⟨fn,#[],#[]⟩ [.pointer (some ⟨b,0,none⟩),.int .i64 (c.batch:Int)] [.one .s] U R
theorem Pd:Bd ZH 218:=by
 intro U G b l c h hc R hR;refine pV (all := #[.pointer (some ⟨b,0,none⟩),.int .i64 (c.batch:Int)]) (by kernel_rfl) aA ?_;refine Yn.o ?_;unfold Yn.v;have i:=h;obtain⟨_,j,s,d,a,g⟩:=h;have e:s.len=l.os.length:=by have:=a.1;simp[Wo]at this;omega
 refine aG (d.rS rfl ?_);simp only[e];exact Hk i (zD _) hR
theorem Rm:Bd KE 216:=by
 intro U G b l c h hc R hR;refine pV (all := #[.pointer (some ⟨b,0,none⟩),.int .i64 (c.batch:Int)]) (by kernel_rfl) aA ?_;refine Xo.o ?_;unfold Xo.v;have P:=h;obtain⟨_,g,s,w,M,L⟩:=h;have o1:=g.low;have o2:=g.many;have o3:=g.lim;have x:=Ir hc g;unfold bZ.ok at hc;refine aG (w.rI rfl (cP (m:=l.low+1) O O (nz aB (cP (m:=(l.low+1)/2) (by rw[Yr O];omega) O ?_))));refine Hk P O λout z v e S V y=>?_;have K:=y;obtain⟨_,Q,s1,d,A,C⟩:=y;have u:s1.len=(gp ((l.low+1)/2) l).2.os.length:=by have:=A.1;simp[Wo]at this;omega
 refine Jn.intro ?_;have i:∀(j:Hp) (lim:Nat),Ext (· = b) v j->lim=(if l.lim>c.batch then max (l.lim-c.batch) c.batch else l.lim)->bY j b (mQ s1 {(gp ((l.low+1)/2) l).2 with lim:=lim}) →
  bU (some ⟨b,0,none⟩) λB=>jm (B.add 0) j λE=>bU (some ⟨b,0,none⟩) λD=>dX (D.add 2) (.int .i64 ((E.len:Nat):Int)) j λv2=>R out v2:=by
  intro j lim e1 hlim a;refine aG (a.rS rfl (aG (a.s1 (by simp[mQ]) λv2 o2 r=>?_)));have e2:=e1.trans o2.ext;have N:=d.lt;refine hR out z v2 (e.trans e2) S (aI.bS V e2 λq _ H J=>?_) ?_
  ·have:=w.lt;omega
  ·refine⟨.inl rfl,x,s1,?_,aH.bS A e2 λq _ H J=>H.2 J,C⟩;simp only[u]at r;subst hlim;exact r
 refine aG (d.rI rfl ?_);refine cQ (λF=>?_) λF=>?_
 ·have p:l.lim>c.batch:=by simp only[gp]at F;omega
  refine aG (d.rI rfl (cP (m:=l.lim-c.batch) (by simp only[gp];omega) O (aG (d.s1 (by simp[mQ]) λj o1 a=>i j (max (l.lim-c.batch) c.batch) o1.ext (by rw[zC p]) ?_))));have:(if(c.batch:Int)>((l.lim-c.batch:Nat):Int)then(c.batch:Int)else((l.lim-c.batch:Nat):Int))=((max (l.lim-c.batch) c.batch:Nat):Int):=by split<;>omega
  rw[this]at a;exact a
 ·have p:¬l.lim>c.batch:=by simp only[gp]at F;omega
  exact i v l.lim (Ext.refl _ _) (by rw[zB p]) d
def nY (x:Nat×Sl):List Value:=[.int .i64 (x.1:Int),.slice x.2.a x.2.len x.2.cap]
def fD (l:List (Nat×Sl)):List Value:=l.flatMap nY
theorem Kz (l:List (Nat×Sl)):(fD l).length=l.length*2:=by
 induction l with
 | nil=>rfl
 | cons x l ih=>
  have e:fD (x::l)=nY x++fD l:=rfl;have e2:(nY x).length=2:=rfl;rw[e,zO,ih,e2,zY];omega
theorem UK (a b:List (Nat×Sl)):fD (a++b)=fD a++fD b:=by simp[fD]
theorem US {l:List (Nat×Sl)}:∀v∈fD l,dN v=true:=by
 intro v hv;obtain⟨p,_,a⟩:=List.mem_flatMap.1 hv;simp only[nY,zW,List.not_mem_nil,or_false]at a;rcases a with rfl|rfl<;>rfl
theorem IZ {l:List (Nat×Sl)}{i:Nat}{p:Nat×Sl}(h:l[i]?=some p){d:Nat}(hd:d<2):(fD l)[2*i+d]?=(nY p)[d]? := by
 induction l generalizing i with
 | nil=>simp at h
 | cons x l ih=>
  have e:fD (x::l)=nY x++fD l:=rfl;have e2:(nY x).length=2:=rfl;rw[e];cases i with
  | zero=>
   simp at h;subst h;rw[ze O];congr 1;omega
  | succ i=>
   rw[zr O,e2,show 2*(i+1)+d-2=2*i+d by omega];exact ih (by simpa using h)
def ku (ps:List (Nat×Sl))(bs:List Bt)(U:Hp)(D:Rg):Prop:=ps.length=bs.length/\∀(i:Nat) p x,ps[i]?=some p->bs[i]?=some x->p.1=x.1/\cV p.2 1 (Wo x.2) U D/\p.2.len<=p.2.cap
theorem ku.loc (ps:List (Nat×Sl))(bs:List Bt):dM (ku ps bs):=λU g F G h e d=>⟨h.1,λi p x b a=>⟨(h.2 i p x b a).1,cV.loc _ _ _ _ _ _ _ (h.2 i p x b a).2.1 e d,(h.2 i p x b a).2.2⟩⟩
def uS (ps:List (Nat×Sl)):Prop:=ps.Pairwise λp q=>∀a a',p.2.a=some a->q.2.a=some a'->a.block≠a'.block
theorem uS.snoc {ps:List (Nat×Sl)}{bs:List Bt}{U v:Hp}{D X:Rg}{s:Sl}{xs:List Int}(h:uS ps)(hB:ku ps bs U D)(hne:∀x∈bs,x.2≠[])(hs:cV s 1 (Wo xs) v X)(hx:xs≠[])(hd:∀b,b<U.size->D b->¬X b)(k:Nat):uS (ps++[(k,s)]):=by
 refine pD.2 ⟨h,List.pairwise_singleton _ _,λp z q r=>?_⟩;rw[zN]at r;subst r;intro a a' h1 h2 e;obtain⟨i,u⟩:=zQ z;have d:=(cW.1 u).1;have m:bs[i]?=some (bs[i]'(by rw[←hB.1];exact d)):=cT _;generalize (bs[i]'(by rw[←hB.1];exact d))=y at m;obtain⟨_,j,_⟩:=hB.2 i p y u m;have g:=j.bT (by simpa[Wo]using hne y (zG m)) ⟨a,h1,rfl⟩;have w:=hs.bT (by simpa[Wo]using hx) ⟨a',h2,rfl⟩;rw[e]at g;exact hd _ g.2 g.1 w.1
def iq (s:Sl)(bs:List Bt):Hp->Rg->Prop:=λU F=>∃(ps:List (Nat×Sl)) (D:Rg),dI s 2 (fD ps) U (λq=>F q/\¬D q)/\ku ps bs U D/\(∀q,D q->F q)/\uS ps/\∀x∈bs,x.2≠[]
theorem iq.loc (s:Sl)(bs:List Bt):dM (iq s bs):=λU r F G ⟨i,D,m,j,g,p⟩ e b=>
 ⟨i,λq=>D q/\q<U.size,dI.loc _ _ _ _ _ _ _ m e λq a d=>⟨⟨(b q a d.1).1,λhd=>d.2 hd.1⟩,(b q a d.1).2⟩,ku.loc _ _ _ _ _ _ j e λq a hd=>⟨⟨hd,a⟩,(b q a (g q hd)).2⟩,λq a=>(b q a.2 (g q a.1)).1,p⟩
theorem iq.nil (U:Hp)(F:Rg)(a:Option Addr):iq ⟨a,0,0⟩ [] U F:=⟨[],λ_=>False,dI.nil _ _ _ _,⟨rfl,λi p x h=>by simp at h⟩,λq h=>h.elim,List.Pairwise.nil,by simp⟩
theorem iq.len {s:Sl}{bs:List Bt}(h:iq s bs U F):s.len=bs.length:=by
 obtain⟨d,D,b,a,_⟩:=h;have:=b.1;rw[Kz]at this;have:=a.1;omega
theorem iq.cap {s:Sl}{bs:List Bt}(h:iq s bs U F):s.len<=s.cap:=by
 obtain⟨b,D,a,_⟩:=h;exact a.cap
def Ga:Prop:=∀{U:Hp} {F:Rg} {s:Sl} {xs:List (Nat×Sl)},bR s 2 (fD xs) U F->(∀x∈xs,x.1<64)->xs.length<=1000->∀{R:aP},
 (∀xs' σ',xs'.Perm xs->xs'.Pairwise (λa b=>a.1<=b.1)->Ext F U σ'->bR s 2 (fD xs') σ' F->R σ')->ZS.c s ⟨264,#[],#[]⟩ U R
theorem El:∀{a b:List Nat},a.Pairwise (· < ·)->b.Pairwise (· < ·)->(∀x,x∈a↔x∈b)->a=b
 | [],[],_,_,_=>rfl
 | [],y::b,_,_,h=>by have:=(h y).2 aA;simp at this
 | x::a,[],_,_,h=>by have:=(h x).1 aA;simp at this
 | x::a,y::b,ha,hb,h=>by
  rw[r9]at ha hb;have e:x=y:=by
   rcases zW.1 ((h x).1 aA)with h1|h1
   ·exact h1
   ·rcases zW.1 ((h y).2 aA)with h2|h2
    ·exact h2.symm
    ·have:=ha.1 y h2;have:=hb.1 x h1;omega
  subst e
  congr 1
  refine El ha.2 hb.2 λz=>?_;have d:=h z;simp only[zW]at d;constructor
  ·intro hza;have:=ha.1 z hza;rcases d.1 (.inr hza)with h1|h1
   ·omega
   ·exact h1
  ·intro hzb;have:=hb.1 z hzb;rcases d.2 (.inr hzb)with h1|h1
   ·omega
   ·exact h1
theorem U5 {f:bZ->Li->List Int×Li}{x:Bt}:x∈Q1 f tb ls↔∃c l,tb[x.1]?=some c/\ls[x.1]?=some l/\x.2=(f c l).1/\x.2≠[]:=by
 unfold Q1;rw[wU];constructor
 ·rintro⟨k,hk,h⟩;split at h
  ·rename_i c l hc hl;split at h
   ·cases h
   ·rename_i hne;cases h;exact⟨c,l,hc,hl,rfl,hne⟩
  ·cases h
 ·rintro⟨c,l,hc,hl,e,hne⟩;refine⟨x.1,zg.2 (cW.1 hc).1,?_⟩;rw[hc,hl];simp only;rw[zB (by rw[←e];exact hne),←e]
theorem LY {f:bZ->Li->List Int×Li}:((Q1 f tb ls).map (·.1)).Pairwise (· < ·):=by
 unfold Q1;have key:∀(n:Nat),(((List.range n).filterMap λk=>match tb[k]?,ls[k]? with
  | some c,some l=>if(f c l).1=[]then none else some ((k,(f c l).1):Bt)
  | _,_=>none).map (·.1)).Pairwise (· < ·)/\∀x∈((List.range n).filterMap λk=>match tb[k]?,ls[k]? with
  | some c,some l=>if(f c l).1=[]then none else some ((k,(f c l).1):Bt)
  | _,_=>none),x.1<n:=by
  intro n
  induction n with
  | zero=>simp
  | succ n ih=>
   rw[qm,vo,zz];refine⟨pD.2 ⟨ih.1,?_,?_⟩,?_⟩
   ·simp only[Cs,List.filterMap_nil];split<;>simp
   ·intro a ha b hb;obtain⟨x,g,rfl⟩:=zE.1 ha;obtain⟨y,e,rfl⟩:=zE.1 hb;have j:=ih.2 x g;obtain⟨m,i,d⟩:=wU.1 e;clear e hb ha;simp only[zN]at i;subst i;split at d
    ·split at d
     ·cases d
     ·cases d;exact j
    ·cases d
   ·intro x g;rcases zK.1 g with g|g
    ·have:=ih.2 x g;omega
    ·obtain⟨m,i,e⟩:=wU.1 g;simp only[zN]at i;subst i;split at e
     ·split at e
      ·cases e
      ·cases e;omega
     ·cases e
 exact(key tb.length).1
def mK (todo:List (Int×Option Addr))(k:Nat):Prop:=((k:Nat):Int)∈todo.map (·.1)
instance (todo:List (Int×Option Addr)) (k:Nat):Decidable (mK todo k):=by unfold mK;infer_instance
theorem HA {todo:List (Int×Option Addr)}{m k:Nat}:mK (todo.filter λy=>!(y.1==(m:Int))) k↔mK todo k/\k≠m:=by
 unfold mK;simp only[zE,zI,l9,mJ];constructor
 ·rintro⟨y,⟨h1,h2⟩,h3⟩;exact⟨⟨y,h1,h3⟩,λe=>h2 O⟩
 ·rintro⟨⟨y,h1,h3⟩,h2⟩;exact⟨y,⟨h1,λe=>h2 O⟩,h3⟩
structure xY (f:bZ->Li->List Int×Li) (tb:List bZ) (ls:List Li) (todo:List (Int×Option Addr)) (ls':List Li) (outs:List Bt):Prop where
 l:∀k c l,tb[k]?=some c->ls[k]?=some l->ls'[k]?=some (if mK todo k then l else(f c l).2)
 n:(outs.map (·.1)).Nodup
 o:∀x:Bt,x∈outs↔∃c l,tb[x.1]?=some c/\ls[x.1]?=some l/\¬mK todo x.1/\x.2=(f c l).1/\x.2≠[]
theorem xY.step {f:bZ->Li->List Int×Li}{todo:List (Int×Option Addr)}{ls':List Li}{outs:List Bt}(h:xY f tb ls todo ls' outs)(hc:tb[k]?=some c)(hl:ls[k]?=some l)(hk:mK todo k) :
 xY f tb ls (todo.filter λy=>!(y.1==(k:Int))) (ls'.set k (f c l).2) (if(f c l).1=[]then outs else outs++[(k,(f c l).1)]):=by
 have w:=h.l k c l hc hl;have A:=(cW.1 w).1;have s:∀x∈outs,x.1≠k:=λx g e=>by
  obtain⟨_,_,_,_,B,_⟩:=(h.o x).1 g;rw[e]at B;exact B hk
 refine⟨λj d m hd p=>?_,?_,λx=>?_⟩
 ·by_cases hj:j=k
  ·subst hj;rw[hc]at hd;cases hd;rw[hl]at p;cases p;rw[zL A,zB (by rw[HA];exact λg=>g.2 rfl)]
  ·rw[zk (Ne.symm hj),h.l j d m hd p]
   congr 1
   by_cases r:mK todo j
   ·rw[zC r,zC (HA.2 ⟨r,hj⟩)]
   ·rw[zB r,zB λg=>r (HA.1 g).1]
 ·split
  ·exact h.n
  ·rw[zz,nJ];refine⟨h.n,by simp,λa D b C e=>?_⟩;simp only[zR,pE,zN]at C;subst C;obtain⟨x,g,e2⟩:=zE.1 D;exact s x g (e2.trans e)
 ·have u:(∃d m,tb[x.1]?=some d/\ls[x.1]?=some m/\¬mK (todo.filter λy=>!(y.1==(k:Int))) x.1/\x.2=(f d m).1/\x.2≠[])↔x∈outs\/(x=(k,(f c l).1)/\(f c l).1≠[]):=by
   constructor
   ·rintro⟨d,m,hd,p,r,e,i⟩;by_cases hj:x.1=k
    ·right;rw[hj]at hd p;rw[hc]at hd;cases hd;rw[hl]at p;cases p;exact⟨Prod.ext hj e,by rw[←e];exact i⟩
    ·left;exact(h.o x).2 ⟨d,m,hd,p,λg=>r (HA.2 ⟨g,hj⟩),e,i⟩
   ·rintro(g|⟨rfl,i⟩)
    ·obtain⟨d,m,hd,p,r,e,i⟩:=(h.o x).1 g;exact⟨d,m,hd,p,λz=>r (HA.1 z).1,e,i⟩
    ·exact⟨c,l,hc,hl,λz=>(HA.1 z).2 rfl,rfl,i⟩
  rw[u];split
  ·rename_i he;constructor
   ·exact .inl
   ·rintro(g|⟨_,i⟩)
    ·exact g
    ·exact absurd he i
  ·rename_i he;rw[zK,zN];constructor
   ·rintro(g|g)
    ·exact .inl g
    ·exact .inr ⟨g,he⟩
   ·rintro(g|g)
    ·exact .inl g
    ·exact .inr g.1
set_option maxRecDepth 4000 in
theorem Dk (hso:Ga){f:bZ->Li->List Int×Li}{fn:Nat}(hf:Bd f fn)(hnil:∀c,c.ok->f c ik=([],ik))(h:eC U F Y tb bud ls){R:Sl->Hp->Prop}
 (hR:∀σ' s (Q:Rg),Ext F U σ'->(∀q,Q q->U.size<=q)->eC σ' (λq=>Grow F U q/\¬Q q) Y tb bud (QX f tb ls)->iq s (Q1 f tb ls) σ' Q->R s σ') :
 Xc.c (aW Y.p) ⟨fn,#[],#[]⟩ U R:=by
 refine Xc.o ?_;unfold Xc.v;refine UV h (cB rfl (aG (h.hd.rM rfl ?_)));have htb:=h.nC;refine sP (a:=.s) h.map (λC (out:Sl) v=>∃(ls':List Li) (w:List Bt) (Q D:Rg) (ps:List (Nat×Sl)),Ext F U v/\(∀q,Q q->U.size<q)/\eC v (λq=>(Cut F U q\/U.size<q)/\¬Q q) Y tb bud ls' ∧
  bR out 2 (fD ps) v (λq=>Q q/\¬D q)/\ku ps w v D/\(∀q,D q->Q q)/\xY f tb ls C ls' w/\(∀e∈C,e∈jS Y.ps)/\(C.map (·.1)).Nodup/\uS ps) ?_ ?_ ?_
 ·intro v hz e;refine⟨ls,[],λ_=>False,λ_=>False,[],bK.to e,λq g=>g.elim,((eC.loc.bO h.cut e).mono λq _ g=>⟨.inl g,id⟩),bR.nil _ _ _ _,⟨rfl,λi p x K=>by simp at K⟩,λq g=>g.elim,⟨λk c l E N=>?_,by simp,λx=>?_⟩,λe P=>P,h.map.nodup,List.Pairwise.nil⟩
  ·by_cases hi:mK (jS Y.ps) k
   ·rw[zC hi,N]
   ·rw[zB hi];have hf0:iQ Y.ps k=none:=by
     unfold iQ;simp only[rO,nS,zT];exact λx r e=>hi (zE.2 ⟨((x.1:Int),some ⟨x.2,0,none⟩),zE.2 ⟨x,r,rfl⟩,by rw[e]⟩)
    have:=h.nil hf0 N;rw[N,this,hnil c (h.ok c (zG E))]
  ·simp only[List.not_mem_nil,false_iff];rintro⟨c,l,E,N,hi,e,hne⟩;have hf0:iQ Y.ps x.1=none:=by
    unfold iQ;simp only[rO,nS,zT];exact λy Z e=>hi (zE.2 ⟨((y.1:Int),some ⟨y.2,0,none⟩),zE.2 ⟨y,Z,rfl⟩,by rw[e]⟩)
   have:=h.nil hf0 N;rw[this,hnil c (h.ok c (zG E))]at e;exact hne e
 ·rintro out v ⟨ls',w,Q,D,ps,e,hQ,hC,X,hB,hD,hI,_,_,V⟩;have hno:∀k,¬mK [] k:=λk hk=>by simp[mK]at hk
  have hls:ls'=QX f tb ls:=by
   apply zp;intro k;by_cases hk:k<tb.length
   ·have E:tb[k]?=some tb[k]:=cT hk;have N:ls[k]?=some (ls[k]'(by rw[h.len];exact hk)):=cT _;rw[hI.l k _ _ E N,zB (hno k)];simp[QX,Ak,E,N]
   ·rw[zV (by rw[hC.len];omega),zV (by simp[QX,h.len];omega)]
  subst hls;have hk1:∀(i:Nat) p,ps[i]?=some p->∃x,w[i]?=some x/\p.1=x.1/\cV p.2 1 (Wo x.2) v D/\p.2.len<=p.2.cap:=λi p K=>by
   have hi:=(cW.1 K).1;have r:w[i]?=some (w[i]'(by rw[←hB.1];exact hi)):=cT _;exact⟨_,r,hB.2 i p _ K r⟩
  have B:ps.map (·.1)=w.map (·.1):=by
   apply zp;intro i;simp only[za];cases K:ps[i]? with
   | none=>
    have:w[i]?=none:=by
     rw[List.getElem?_eq_none_iff]at K ⊢;rw[←hB.1];exact K
    rw[this];rfl
   | some p=>
    obtain⟨x,r,e1,_⟩:=hk1 i p K;rw[r];simp[e1]
  have W:∀x∈w,x.1<40:=λx r=>by
   obtain⟨c,l,E,_⟩:=(hI.o x).1 r;have:=(cW.1 E).1;omega
  have hlen:ps.length<=40:=by
   have hn:=hI.n;rw[←B]at hn;have:=hn.length_le_of_subset (l₂:=List.range 40) λj V=>by
    rw[B]at V;obtain⟨x,r,rfl⟩:=zE.1 V;exact zg.2 (W x r)
   simpa using this
  refine hso X (λp K=>?_) O λps' v' L hsort e' hrow'=>?_
  ·have:p.1∈w.map (·.1):=by rw[←B];exact zE.2 ⟨p,K,rfl⟩
   obtain⟨x,r,e1⟩:=zE.1 this;have:=W x r;omega
  ·have hnd:(ps'.map (·.1)).Nodup:=(L.map _).nodup_iff.2 (by rw[B];exact hI.n);have hinc:(ps'.map (·.1)).Pairwise (· < ·):=by
    refine List.Pairwise.map (R:=λa b:Nat×Sl=>a.1<b.1) _ (λa b aa=>aa) ?_;have A:ps'.Pairwise λa b=>a.1≠b.1:=p8.1 hnd;exact(hsort.and A).imp λ{a b} aa=>by have:=aa.1;have:=aa.2;omega
   have hkk:ps'.map (·.1)=(Q1 f tb ls).map (·.1):=by
    refine El hinc LY λj=>?_;rw[(L.map _).mem_iff,B];constructor
    ·intro V;obtain⟨x,r,rfl⟩:=zE.1 V;obtain⟨c,l,E,N,_,e1,e2⟩:=(hI.o x).1 r;exact zE.2 ⟨x,U5.2 ⟨c,l,E,N,e1,e2⟩,rfl⟩
    ·intro V;obtain⟨x,r,rfl⟩:=zE.1 V;obtain⟨c,l,E,N,e1,e2⟩:=U5.1 r;exact zE.2 ⟨x,(hI.o x).2 ⟨c,l,E,N,hno _,e1,e2⟩,rfl⟩
   have eQ:Ext F U v':=e.dS e' λq g=>.inr (qc (hQ q g.1));refine hR v' out Q eQ (λq g=>qc (hQ q g)) ?_ ⟨ps',D,hrow'.o,⟨?_,λi p x K r=>?_⟩,hD,(L.pairwise_iff λ{a b} aa x y A h2 e=>aa y x h2 A e.symm).2 V,λx r=>by
    obtain⟨_,_,_,_,_,h2⟩:=U5.1 r;exact h2⟩
   ·refine(eC.loc.bS hC e' λq _ g hq2=>g.2 hq2.1).mono λq _ g=>⟨?_,g.2⟩;rcases g.1 with r|r
    ·exact .inl r.1
    ·exact .inr (qc r)
   ·have:=congrArg List.length hkk;simpa using this
   ·have e1:p.1=x.1:=by
     have:=congrArg (λl=>l[i]?) hkk;simp only[za,K,r,zX,Option.some.injEq]at this;exact this
    obtain⟨j,V⟩:=zQ (L.mem_iff.1 (zG K));obtain⟨y,Z,e2,hs,hcap⟩:=hk1 j p V;have e3:x.2=y.2:=by
     obtain⟨c,l,E,N,_,A,_⟩:=(hI.o y).1 (zG Z);obtain⟨c',l',hc',hl',h2,_⟩:=U5.1 (zG r);rw[←e1,e2,E]at hc';cases hc';rw[←e1,e2,N]at hl';cases hl';rw[A,h2]
    rw[e3];exact⟨e1,aH.bS hs e' λq _ g hq2=>hq2.2 g,hcap⟩
 ·rintro C n x out v v' J ⟨ls',w,Q,D,ps,e,hQ,hC,X,hB,hD,hI,hsub,hnd,V⟩ r ho hlt hJ;have e1:Ext F U v':=e.only ho (.inr (zD _));have S:eC v' (λq=>(Cut F U q\/U.size<q)/\¬Q q) Y tb bud ls':=eC.loc.bS hC ho.ext λq _ g P=>by
   rcases g.1 with A|A
   ·have:=A.2;omega
   ·omega
  have hrow1:bR out 2 (fD ps) v' (λq=>(Q q/\¬D q)/\q<v'.size):=aI.cut (aI.bS X ho.ext λq _ g P=>by have:=hQ q g.1;omega);have hB1:ku ps w v' (λq=>D q/\q<v'.size):=(ku.loc _ _).cut ((ku.loc _ _).bS hB ho.ext λq _ g P=>by have:=hQ q (hD q g);omega);have hmem:=hsub _ r;simp only[jS,zE,Prod.mk.injEq]at hmem;obtain⟨⟨k,b⟩,hkb,hk1,hx1⟩:=hmem;simp only at hk1 hx1;subst hk1;subst hx1;have hk:=h.keys _ hkb;simp only at hk;have E:tb[k]?=some tb[k]:=cT hk;have N:ls[k]?=some (ls[k]'(by rw[h.len];exact hk)):=cT _;generalize tb[k]=c at E;generalize (ls[k]'(by rw[h.len];exact hk))=l at N;have hcok:=h.ok c (zG E);have hlk:iQ Y.ps k=some b:=Dm h.map.nodup hkb;have hin:mK C k:=zE.2 ⟨_,r,rfl⟩;have hl':ls'[k]?=some l:=by rw[hI.l k c l E N,zC hin]
  have M:=hI.step E N hin;have hmF:(λq=>(Cut F U q\/U.size<q)/\¬Q q) Y.m:=by
   obtain⟨H,hH,hm⟩:=S.sep.get .mp;exact hH _ hm.1
  obtain⟨G,hG,hL,hGm,hput⟩:=S.vZ hlk hl';have hbF:=hG b hL.1;have hbm:b≠Y.m:=λe=>hGm (e▸hL.1);have hbs:b≠U.size:=λe=>by
   subst e;rcases hbF.1 with A|A
   ·have:=A.2;omega
   ·omega
  have hblt:b<v'.size:=by obtain⟨_,_,s,hbk,_⟩:=hL;exact hbk.lt
  have hsz1:=ho.1;refine aG (S.hd.rS rfl (GV S.jE E (d:=2) O ?_));simp only[zB (show ¬(2=0) by omega),zB (show ¬(2=1) by omega)];refine hf hL hcok λs z v5 e5 hz hr hL5=>?_;have hs5:=e5.1;obtain⟨eF,h5⟩:=hput v5 _ (λq=>q=b\/z<=q) (e5.sub λq g=>by rw[g];exact hL.1) (λq g=>g.imp (λ(r:q=b)=>by rw[r];exact hL.1) λ(r:z<=q)=>O) hL5;have h5:=h5.cut;have eF5:Ext F U v5:=e1.dS eF λq g=>by
   rcases g.1 with A|A
   ·exact .inl A.1
   ·exact .inr (qc A)
  have hnb:∀q,Q q->q≠b:=λq g hqb=>hbF.2 (hqb▸g);have hrow5:=aI.bS hrow1 e5 λq _ g P=>hnb q g.1.1 P;have hB5:=(ku.loc _ _).bS hB1 e5 λq _ g P=>hnb q (hD q g.1) P;have hsl:s.len=(f c l).1.length:=by have:=hr.1;simp[Wo]at this;omega
  have hsub':∀y∈C.filter (λy=>!(y.1==(k:Int))),y∈jS Y.ps:=λy Z=>hsub y (zI.1 Z).1;have hnd':((C.filter λy=>!(y.1==(k:Int))).map (·.1)).Nodup:=hnd.sublist (List.filter_sublist.map _);by_cases hemp:(f c l).1=[]
  ·rw[zC hemp]at M;refine fT (by rw[hsl,hemp];simp) (hJ out v5 (e5.2 _ O λP=>hbs P.symm) (e5.2 _ S.map.lt λP=>hbm P.symm) ?_);refine⟨_,w,λq=>Q q/\q<v'.size,λq=>D q/\q<v'.size,ps,eF5,λq g=>hQ q g.1,h5.mono λq _ g=>?_,aI.mono hrow5 λq _ g=>⟨⟨g.1.1,g.2⟩,λhd=>g.1.2 hd.1⟩,hB5,λq g=>⟨hD q g.1,g.2⟩,M,hsub',hnd',V⟩;rcases g.1 with A|A|A
   ·exact⟨A.1.1,λr=>A.1.2 r.1⟩
   ·subst A;exact⟨hbF.1,λr=>hbF.2 r.1⟩
   ·exact⟨.inr O,λr=>O⟩
  ·rw[zB hemp]at M;have hpos:=pX.2 hemp;refine lQ (by rw[hsl];omega) (nw (cs:=nY (k,s)) λv6 hz6 e6 hb6=>?_);have hrow6:=aI.bO hrow5 e6;have hB6:=(ku.loc _ _).bO hB5 e6;have hr6:=aI.bO (aI.cut hr) e6;have hpl:out.len=ps.length:=by have:=X.1;rw[Kz]at this;omega
   have hol:ps.length<=40:=by
    have B:w.map (·.1)⊆List.range 40:=λj V=>by
     obtain⟨x,r,rfl⟩:=zE.1 V;obtain⟨c,l,E,_⟩:=(hI.o x).1 r;have:=(cW.1 E).1;exact zg.2 O
    have:=hI.n.length_le_of_subset B;rw[hB.1];simpa using this
   refine hrow6.app (ys:=nY (k,s)) rfl rfl ?_ (λv hv=>US (l:=[(k,s)]) v (by simpa[fD]using hv)) ?_ ?_ mO λs' v7 hl7 e7 hr7=>?_
   ·intro j u hu;rw[add_lit,zH,hb6.cell];exact hu
   ·simp only;have:(out.len+1)*32<=41*32:=l0 O O;omega
   ·simp only;omega
   have hs7:=e7.1;have e57:Ext (λq=>(Q q/\¬D q)/\q<v'.size) v5 v7:=(bK.to e6).trans e7;refine hJ s' v7 ?_ ?_ ?_
   ·rw[e57.2 _ O λr=>by have:=hQ _ r.1.1;omega];exact e5.2 _ O λP=>hbs P.symm
   ·rw[e57.2 _ (by have:=S.map.lt;omega) λr=>hmF.2 r.1.1];exact e5.2 _ S.map.lt λP=>hbm P.symm
   refine⟨_,_,λq=>Q q/\q<v'.size\/(v'.size<=q/\q<z)\/v5.size<=q,λq=>D q/\q<v'.size\/(v'.size<=q/\q<z)/\q<v5.size,ps++[(k,s)],eF5.dS e57 λq g=>.inr (qc (hQ q g.1.1)),λq g=>?_,(eC.loc.bS h5 e57 λq hq5 g r=>?_).mono λq _ g=>?_,?_,⟨?_,λi p y K Z=>?_⟩,λq g=>?_,M,hsub',hnd',V.snoc hB1 (λx r=>by
    obtain⟨_,_,_,_,_,_,h2⟩:=(hI.o x).1 r;exact h2) hr.gQ hemp (λb hb r Z=>by have:=r.2;have:=Z.1;omega) k⟩
   ·rcases g with g|g|g
    ·exact hQ q g.1
    ·omega
    ·omega
   ·rcases g.1 with A|A|A
    ·exact A.1.2 r.1.1
    ·exact hnb q r.1.1 A
    ·have:=r.2;omega
   ·have hq5:=g.2;rcases g.1 with A|A|A
    ·exact⟨A.1.1,λr=>by
      rcases r with r|r|r
      ·exact A.1.2 r.1
      ·have:=A.2.1;omega
      ·omega⟩
    ·subst A;exact⟨hbF.1,λr=>by
      rcases r with r|r|r
      ·exact hbF.2 r.1
      ·omega
      ·omega⟩
    ·exact⟨.inr O,λr=>by
      rcases r with r|r|r<;>omega⟩
   ·rw[UK];have:fD [(k,s)]=nY (k,s):=by simp[fD]
    rw[this];refine aI.mono hr7 λq _ g=>?_;rcases g with g|g
    ·exact⟨.inl ⟨g.1.1,g.2⟩,λhd=>by
      rcases hd with hd|hd
      ·exact g.1.2 hd.1
      ·omega⟩
    ·exact⟨.inr (.inr O),λhd=>by
      rcases hd with hd|hd<;>omega⟩
   ·rw[zO,zO,hB.1];rfl
   ·rcases kg i ps.length with hi|hi
    ·rw[ze hi]at K;rw[ze (by rw[←hB.1];exact hi)]at Z;obtain⟨a1,a2,a3⟩:=hB6.2 i p y K Z;exact⟨a1,aH.mono (aH.bS a2 e7 λq _ g r=>r.1.2 g.1) λq _ g=>.inl g,a3⟩
    ·rw[zr hi]at K;rw[zr (by rw[←hB.1];exact hi)]at Z;have hi0:i-ps.length=0:=by
      have:=(cW.1 K).1;simp at this;omega
     rw[hi0]at K;rw[show i-w.length=0 by rw[←hB.1];exact hi0]at Z;simp at K Z;subst K;subst Z;exact⟨rfl,aH.mono (aH.bS hr6.gQ e7 λq _ g r=>by have:=r.2;have:=g.1;omega) λq _ g=>.inr g,bR.qP hr⟩
   ·rcases g with g|g
    ·exact .inl ⟨hD q g.1,g.2⟩
    ·exact .inr (.inl g.1)
theorem Ju (hso:Ga)(h:eC U F Y tb bud ls){R:Sl->Hp->Prop}
 (hR:∀σ' s (Q:Rg),Ext F U σ'->(∀q,Q q->U.size<=q)->eC σ' (λq=>Grow F U q/\¬Q q) Y tb bud (QX ZH tb ls)->iq s (Q1 ZH tb ls) σ' Q->R s σ'):XE.c (aW Y.p) U R:=by
 refine XE.o ?_;unfold XE.v;exact Dk hso Pd (λc _=>PD c) h hR
theorem N1 (hso:Ga)(h:eC U F Y tb bud ls){R:Sl->Hp->Prop}
 (hR:∀σ' s (Q:Rg),Ext F U σ'->(∀q,Q q->U.size<=q)->eC σ' (λq=>Grow F U q/\¬Q q) Y tb bud (QX KE tb ls)->iq s (Q1 KE tb ls) σ' Q->R s σ'):WX.c (aW Y.p) U R:=by
 refine WX.o ?_;unfold WX.v;exact Dk hso Rm Lx h hR
end Go.Ar