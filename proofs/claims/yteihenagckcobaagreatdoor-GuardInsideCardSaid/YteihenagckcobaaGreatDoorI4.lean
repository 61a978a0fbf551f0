/- Texts joined. -/
import Derived.Test.YteihenagckcobaaGreatDoorI3
set_option linter.unusedVariables false
set_option linter.unusedSimpArgs false
namespace Go.Vc
open Go
def wj (h:Hp)(it r:Nat):Nat:=
 match h[it]?,h[r]? with
 | some (.mapIter _ _ seen _),some (.map es _)=>(es.toList.filter λe=>!seen.contains e.born).length
 | _,_=>0
variable {U:Hp}{k:IntKind}{c:CK}{l todo:List (Int×c.T)}{cur:Option (Int×c.T)}{r it:Nat}
theorem It.num {h:Hp}(hi:It h it k c (some r) l todo cur):wj h it r=todo.length:=by
 obtain⟨s,e,a,b,g,i,j,u,p,d,m⟩:=hi;unfold wj;rw[b,g];have:=congrArg List.length d;simpa using this
theorem It.bS {h h':Hp}(hi:It h it k c (some r) l todo cur)(h1:h'[it]?=h[it]?)(h2:h'[r]?=h[r]?):It h' it k c (some r) l todo cur:=by
 obtain⟨i,d,b,g,e,a⟩:=hi;exact⟨i,d,b,h1.trans g,h2.trans e,a⟩
theorem AI {A:aP}{body:Int->c.T->Hp->(Hp->Prop)->Prop}(hm:dH U r k c l)(I:List (Int×c.T)->Hp->Prop)
 (h0:∀v,v.size=U.size+1->bK U v->I l v)
 (hend:∀v,I [] v->A v)
 (hstep:∀todo n x v v' (J:aP),I todo v->(n,x)∈todo->Qm v v' U.size->U.size<v.size->(∀w,w[U.size]?=v'[U.size]?->w[r]?=v'[r]?->I (todo.filter λy=>!(y.1==n)) w->J w)->body n x v' J) :
 nA k c (some r) U λit v3=>Yo [] (λI=>I v3) λJ1 v4=>ny k c it v4 (A v4) λ_ _ v5=>nM k c it v5 λkey1 val1=>body key1 val1 v5 J1:=by
 refine⟨l,hm,λv E L G=>?_⟩;have M:bK U v:=⟨O,λb i _=>L b i⟩;refine CZ (λw=>∃todo a,It w U.size k c (some r) l todo a/\I todo w/\U.size<w.size) (λw=>wj w U.size r) ⟨l,none,G,h0 v E M,O⟩ ?_;rintro w ⟨todo,a,g,z,p⟩;refine⟨rfl,some r,l,todo,a,g,λK=>?_,λn x B F D e=>?_⟩
 ·subst K;exact hend w z
 ·refine⟨rfl,some r,l,_,n,x,e,hstep todo n x w F _ z B D p λu j m s=>?_⟩;have d:=e.bS j m;refine⟨⟨_,_,d,s,?_⟩,?_⟩
  ·obtain⟨P,H,C,N,_⟩:=d;exact(zt.1 N).1
  ·rw[d.num,g.num];exact yG.2 ⟨(n,x),B,by simp⟩
theorem sj {a:CK}{x0:a.T}{A:a.T->Hp->Prop}{body:Int->c.T->a.T->Hp->(a.T->Hp->Prop)->Prop}(hm:dH U r k c l)(I:List (Int×c.T)->a.T->Hp->Prop)
 (h0:∀v,v.size=U.size+1->bK U v->I l x0 v)
 (hend:∀z v,I [] z v->A z v)
 (hstep:∀todo n x z v v' (J:a.T->Hp->Prop),I todo z v->(n,x)∈todo->Qm v v' U.size->U.size<v.size->(∀z' w,w[U.size]?=v'[U.size]?->w[r]?=v'[r]?->I (todo.filter λy=>!(y.1==n)) z' w->J z' w)->body n x z v' J) :
 nA k c (some r) U λit v3=>Yo [a] (λI=>I x0 v3) λJ1 z v4=>ny k c it v4 (A z v4) λ_ _ v5=>nM k c it v5 λkey1 val1=>body key1 val1 z v5 J1:=by
 refine⟨l,hm,λv G N K=>?_⟩;have P:bK U v:=⟨O,λb j _=>N b j⟩;refine ZY (a:=a) (λz w=>∃todo d,It w U.size k c (some r) l todo d/\I todo z w/\U.size<w.size) (λ_ w=>wj w U.size r) ⟨l,none,K,h0 v G P,O⟩ ?_;rintro z w ⟨todo,d,i,C,s⟩;refine⟨rfl,some r,l,todo,d,i,λM=>?_,λn x D H F g=>?_⟩
 ·subst M;exact hend z w C
 ·refine⟨rfl,some r,l,_,n,x,g,hstep todo n x z w H _ C D F s λz' u m p B=>?_⟩;have e:=g.bS m p;refine⟨⟨_,_,e,B,?_⟩,?_⟩
  ·obtain⟨R,L,E,Q,_⟩:=e;exact(zt.1 Q).1
  ·rw[e.num,i.num];exact yG.2 ⟨(n,x),D,by simp⟩
end Go.Vc
namespace Go.Ar
open Go Go.Vc Go.Proofs
open Go.Bu (Za)
variable {U:Hp}{F:Rg}{p q r:Nat}{sp:Sp}{l:List (Int×Sl)}{B:Nat->Nat}
theorem Qf {α:Type}{l:List (Int×α)}(hn:(l.map (·.1)).Nodup){n:Int}{x:α}(h:(n,x)∈l):bV l n=some x:=by
 induction l with
 | nil=>simp at h
 | cons y l ih=>
  rw[Q0];simp only[zS,zr]at hn;rcases zW.1 h with h1|h1
  ·subst h1;rw[zC rfl]
  ·have:¬y.1=n:=λe=>hn.1 (zE.2 ⟨_,h1,e.symm⟩);rw[zB this];exact ih hn.2 h1
end Go.Ar
namespace Go.Bu
open Go Go.Vc Go.Proofs
variable {U:Hp}{p n sb:Nat}{S:Nat->Bool}{ms:List Nat}
def ky (ms:List Nat):List Value:=ms.map λm=>Value.map (some m)
structure Part (B:Nat) (h:Hp) (p n:Nat) (j:Nat) (s:Sl) (ms:List Nat):Prop where
 len:ms.length=j
 sl:s.len=j
 hd:bY h p [.int .i64 n,.slice s.a s.len s.cap]
 own:Go.Vc.Own (λb=>B<=b/\b≠p/\b∉ms) h s 1 (ky ms)
 new:∀m∈ms,B<=m/\m≠p/\m<h.size
 nd:ms.Nodup
theorem Part.done {B:Nat}{h:Hp}{j:Nat}{s:Sl}(hp:Part B h p n j s ms)(hB:B<=p)(hj:0<j)(n1:1<=n)(n2:n<=1024)(lo:2^j<=2*n)(hi:n<2^j)(jq:Bounded S n)
 (maps:∀k m,ms[k]?=some m->∃B:List (Int×Bool),dH h m .i64 .b B/\Keys S k B):∃sb,BH h p n S sb ms/\∀b,fp p sb ms b->B<=b:=by
 rcases hp.own.2 with⟨_,hl,_⟩|⟨sb,cs,⟨hq,hqp,hqm⟩,ha,hb,hle,hcl,ht⟩
 ·have:=hp.sl;omega
 ·refine⟨sb,⟨?_,?_,maps,?_,n1,n2,?_,?_,jq⟩,?_⟩
  ·refine⟨s.cap,?_⟩;have:=hp.hd;rw[ha,hp.sl,←hp.len]at this;exact this
  ·refine⟨cs.drop (ky ms).length,?_⟩;have:ky ms++cs.drop (ky ms).length=cs:=by
    conv=>lhs;lhs;rw[←ht]
    exact nH _ _
   show bY h sb (ky ms++_);rw[this];exact hb
  ·simp only[zr,zW,not_or];exact⟨⟨λe=>hqp e.symm,λa=>(hp.new p a).2.1 rfl⟩,hqm,hp.nd⟩
  ·rw[hp.len];exact lo
  ·rw[hp.len];exact hi
  ·intro b hb;simp only[fp,zW]at hb;rcases hb with rfl|rfl|h
   ·exact hB
   ·exact hq
   ·exact(hp.new b h).1
theorem Part.Pq {B:Nat}{h:Hp}{j:Nat}{s:Sl}(hp:Part B h p n j s ms):cell h ⟨p,1,none⟩=some (.slice s.a s.len s.cap):=by rw[hp.hd.cell];rfl
theorem Part.bO {B:Nat}{h h':Hp}{j:Nat}{s:Sl}(hp:Part B h p n j s ms)(e:bK h h'):Part B h' p n j s ms:=
 ⟨hp.len,hp.sl,e.bT hp.hd id,hp.own.bO e,λm a=>⟨(hp.new m a).1,(hp.new m a).2.1,uC (hp.new m a).2.2 e.1⟩,hp.nd⟩
theorem Part.step {B:Nat}{h:Hp}{j m e t bytes:Nat}{s:Sl}{zs:List Value}{K:Sl->Hp->Prop}(hp:Part B h p n j s ms)(hj:j<=1000)(hbt:bytes<=1000)(hz:zs.length=1)(hm:B<=m)(hmp:m≠p)(hml:m<h.size)(hmn:m∉ms)(hms:¬U5 s m)
 (hpB:p<h.size) (hBh:B<=h.size)
 (hgo:∀s' h',Ext (U5 s) h h'->s'.len=j+1->bY h' p [.int .i64 n,.slice s.a s.len s.cap] →
  (∀h2,Qm h' h2 p->bY h2 p [.int .i64 n,.slice s'.a s'.len s'.cap]->Part B h2 p n (j+1) s' (ms++[m]))->K s' h') :
 App s 1 bytes e zs ⟨some ⟨h.size,0,none⟩,1,1⟩ (h.push (.cells #[.map (some m)] t (0,0))) K:=by
 have G:=hp.sl;have w:Go.Vc.Own (λb=>B<=b/\b≠p/\b∉ms++[m]) (h.push (.cells #[.map (some m)] t (0,0))) s 1 (ky ms):=by
  have d:=hp.own;have h2:Go.Vc.Own (λb=>B<=b/\b≠p/\b∉ms++[m]) h s 1 (ky ms):=by
   refine⟨d.1,d.2.imp id ?_⟩;rintro⟨b,cs,⟨q1,q2,q3⟩,ha,r⟩;refine⟨b,cs,⟨q1,q2,?_⟩,ha,r⟩;simp only[zK,zN,not_or];exact⟨q3,λe=>hms ⟨0,by rw[ha,e]⟩⟩
  exact h2.bO (UW _ _)
 have A:(h.push (.cells #[.map (some m)] t (0,0))).size=h.size+1:=by simp
 refine w.app (ys:=[.map (some m)]) ?_ hz rfl N9 (by simp[dQ]) ?_ ?_ mO λs' h' z M J E=>?_
 ·intro b i;rw[A]at i;refine⟨O,O,?_⟩;simp only[zK,zN,not_or];exact⟨λy=>by have:=(hp.new b y).2.2;omega,O⟩
 ·simp only;have:(s.len+1)*bytes<=1001*1000:=lW O hbt;omega
 ·simp only;omega
 ·simp only at z;have g:Ext (U5 s) h h':=(UW h _).to.trans M;have D:¬U5 s p:=λi=>(hp.own.jc i).1.2.1 rfl;refine hgo s' h' g O (g.bT hp.hd D) λh2 u C=>⟨by simp[hp.len],O,C,?_,?_,?_⟩
  ·have:ky (ms++[m])=ky ms++[.map (some m)]:=by simp[ky]
   rw[this];exact J.bS (Ext.eI (F:=(· = p)) u rfl) (λb L _ H=>L.2.1 H)
  ·intro x hx;have N:h2.size=h'.size:=u.1;have:=g.1;rcases zK.1 hx with d|d
   ·have:=hp.new x d;exact⟨this.1,this.2.1,O⟩
   ·simp at d;subst d;exact⟨hm,hmp,O⟩
  ·rw[nK];refine⟨hp.nd,by simp,?_⟩;intro a ha b i;simp at i;subst i;rintro rfl;exact hmn ha
def iu:Nat->Bool:=λ_=>false
theorem L9 (k:Nat):Keys iu k []:=by
 refine⟨by simp,λq a=>?_⟩;have:=VI a (Kv k q);simp[iu]at this
theorem sB (aF:Int){R:Option Addr->Int->Hp->Prop}(hbad:¬(1<=aF/\aF<=1024)->R none 1 U)
 (hR:∀(n:Nat),aF=(n:Int)->1<=n->n<=1024->∀σ' sb ms,bK U σ'->BH σ' U.size n iu sb ms->(∀b,fp U.size sb ms b->U.size<=b)->R (some ⟨U.size,0,none⟩) 0 σ'):QJ.c aF U R:=by
 refine QJ.o ?_;unfold QJ.v;refine bW.intro (cQ (λg=>cE rfl (hbad O)) λg=>?_);refine cQ (λh2=>hbad O) λh2=>?_;obtain⟨n,rfl⟩:=za (show 0<=aF by omega);have L:1<=n:=by omega
 have N:n<=1024:=by omega
 unfold Nw;have e0:=UW U (.cells #[.int .i64 (n:Int),.slice none 0 0] 52 (0,0));refine ZY (a:=bN) (λt h=>∃(j:Nat) (s:Sl) (ms:List Nat),t=((2^j:Nat):Int)/\2^j<=2*n/\bK U h/\U.size<h.size/\Part U.size h U.size n j s ms/\∀m∈ms,dH h m .i64 .b []) (λt _=>2*n+1-t.toNat)
  ⟨0,⟨none,0,0⟩,[],rfl,by simp;omega,Ext.push _ _ _,by simp,⟨rfl,rfl,bY.push _ _ _,Own.nil _ _ _,by simp,by simp⟩,by simp⟩ ?_
 rintro t h ⟨j,s,ms,rfl,B,M,V,d,w⟩;have hj:j<=11:=by
  apply Classical.byContradiction;intro hc;have:2^12<=2^j:=oI aB O;omega
 have Y:=kz j;refine cQ (λZ=>?_) (λK=>?_)
 ·refine aG ?_;rw[add_lit,zH];refine nO d.Pq ?_;have e1:=UW h (.map #[] 0);have P:(h.push (.map #[] 0)).size=h.size+1:=by simp
  have E:=d.bO e1;refine E.step (m:=h.size) O O rfl O O O (λy=>by have:=(d.new _ y).2.2;omega) (λu=>by have:=(d.own.jc u).2;omega) O O λQ h' H hl u p=>?_;refine aG (u.ML aA λh2 z J=>?_);have G:=p h2 z J;have D:bK U h2:=by
   refine Ext.fresh (Ext.fresh (M.trans e1) H λi C=>(d.own.jc C).1.1) (Ext.eI (F:=(· = U.size)) z rfl) λi C=>?_;rw[C];exact zD _
  refine cP (m:=2^(j+1)) (by rw[l3];omega) (by rw[l3];omega) ⟨⟨j+1,Q,ms++[h.size],rfl,by rw[l3];omega,D,?_,G,?_⟩,by rw[l3];omega⟩
  ·have:=z.1;have:=H.1;omega
  ·intro m y;have oF:∀{m:Nat},dH (h.push (.map #[] 0)) m .i64 .b []->¬U5 s m->m≠U.size->dH h2 m .i64 .b []:=λhM hn A=>U7 z (H.fO hM hn) A;rcases zK.1 y with g|g
   ·exact oF (e1.fO (w m g) id) (λu=>(d.own.jc u).1.2.2 g) (d.new m g).2.1
   ·simp at g;subst g;exact oF (dH.push _ _ _) (λu=>by have:=(d.own.jc u).2;omega) O
 ·have r:0<j:=by
   rcases AE j with e|e
   ·subst e;simp at K;omega
   ·exact e
  obtain⟨sb,hB,W⟩:=d.done (S:=iu) (zD _) r L N B O (λx X=>by simp[iu]at X) λk m y=>⟨[],w m (zG y),L9 k⟩;exact hR n rfl L N h sb ms M hB W
end Go.Bu
namespace Go.Proofs
open Go.Vc
set_option maxRecDepth 100000
def W3.h:Hn:=.q .o1 (.q (.cR (.seq [.op,.op,.op,.cX true 5 (RI.ops 5),.op])) .l)
def W3.v (a:R2)(b:Hp)(c:aO):Prop:=bW (λd e=>c d e) λf=>If (!a.isNone) (bF a 1 b λh=>f (!h.isNone) b) (f false b)
theorem W3.o {a b c}(d:W3.v a b c):W3.c a b c:=Wa Tryz.func111 (x:=W3.h) (R0 d)
def QK.h:Hn:=.q .o2 (.q (.q .o3 .aJ) (.q .o3 (.q (.q (.cR (.seq [.op,.op,.op,.cX false 3 (RI.ops 3),.op,.cX false 2 [.op,.op],.op,.cX false 2 [.op,.op]])) .aJ) (.q .o8 (.q .o9 (.q .o9 (.q (.q .o3 (.k (.loop [(61,.I)] (.q .o1 (.q (.c .l .l) (.q (.k (.q .o4 (.q .o7 (.q .o9 (.cR (.hO true [18,21] [] (.tk [0,1,2,3,4,5,6,9,10,11,12,13] (.all [(7,.all [(8,.all [(14,.all [(15,.take 16 (.take 17 (.all [(18,.take 19 (.take 20 (.all [(21,.done)])))])))])]),(14,.all [(8,.all [(15,.take 16 (.take 17 (.all [(18,.take 19 (.take 20 (.all [(21,.done)])))])))])])]),(14,.all [(7,.all [(8,.all [(15,.take 16 (.take 17 (.all [(18,.take 19 (.take 20 (.all [(21,.done)])))])))])])])])))))))) .o2)))))) (.q .o3 .l))))))))
def QK.v (a:Sl)(b:R2)(c:Int)(d:Hp)(e:Option Addr->Int->Hp->Prop):Prop:=Zs.c a d λf g=>If (!f) (e none 2 g) (XA.c b g λh i=>bW (λj k=>bW (λl m=>bW (λn o=>If n (e none 1 o) (Wi.c a o λp q=>Z4.c q λr s=>Nw (.map #[] 0) s λt u=>aV #[.slice p.a p.len p.cap,.pointer b,.pointer none,.pointer none,.pointer r,.slice none 0 0,.slice none 0 0,.map (some t.block)] 179 u λv w=>QJ.c h w λx y z=>bU (some v) λaa=>aR aa 2 (.pointer x) z λab=>Kn.c h ab λac ad ae=>bU (some v) λaf=>aR af 3 (.pointer ac) ae λag=>Yo [bN] (λah=>ah 0 ag) λai (aj:Int) ak=>If (aj<((a.len:Nat):Int)) (Ix a.a a.len aj 3 λal=>aQ al 0 ak λam=>aQ al 1 ak λan=>aQ al 2 ak λao=>aV #[.I 0,.I 0,.I 0] 137 ak λap aq=>aR ap 0 (.I am) aq λar=>aR ap 1 (.I an) ar λau=>aR ap 2 (.I ao) au λav=>aQ ap 0 av λaw=>aQ ap 1 av λax=>aQ ap 2 av λay=>Z2.c aw ax ay av λaz a0 a1=>aQ ap 2 a1 λa2=>ZG.c a2 c a1 λa3 a4 a5=>Jn [] (λa6=>bL (aj+1) λa7=>ai a7 a6) λa8=>eL a5 λa9=>bU (some v) λba=>aT a9 ba 5 λbb=>bU (some v) λbc=>aT a9 bc 6 λbd=>(aV #[.pointer az] 182 a5 λbe bf=>And (a9 bf) <| (App bb 1 8 182 [.pointer none] ⟨some be,1,1⟩ bf λbg bh=>And (a9 bh) <| aV #[.pointer a3] 184 bh λbi bj=>And (a9 bj) <| App bd 1 8 184 [.pointer none] ⟨some bi,1,1⟩ bj λbk bl=>And (a9 bl) <|
 bU (some v) λbm=>aR bm 5 (.slice bg.a bg.len bg.cap) bl λbn=>bU (some v) λbo=>aR bo 6 (.slice bk.a bk.len bk.cap) bn λbp=>a8 bp) ∧ (aV #[.pointer a3] 184 bf λbq br=>And (a9 br) <| App bb 1 8 182 [.pointer none] ⟨some be,1,1⟩ br λbs bt=>And (a9 bt) <| App bd 1 8 184 [.pointer none] ⟨some bq,1,1⟩ bt λbu bv=>And (a9 bv) <| bU (some v) λbw=>aR bw 5 (.slice bs.a bs.len bs.cap) bv λbx=>bU (some v) λbz=>aR bz 6 (.slice bu.a bu.len bu.cap) bx λb0=>a8 b0)) ∧ (aV #[.pointer a3] 184 a5 λb1 b2=>And (a9 b2) <| aV #[.pointer az] 182 b2 λb3 b4=>And (a9 b4) <| App bb 1 8 182 [.pointer none] ⟨some b3,1,1⟩ b4 λb5 b6=>And (a9 b6) <| App bd 1 8 184 [.pointer none] ⟨some b1,1,1⟩ b6 λb7 b8=>And (a9 b8) <| bU (some v) λb9=>aR b9 5 (.slice b5.a b5.len b5.cap) b8 λca=>bU (some v) λcb=>aR cb 6 (.slice b7.a b7.len b7.cap) ca λcc=>a8 cc)) (e (some v) 0 ak))) λcd=>If l (cd true m) (cd (decide (c>8)) m)) λce=>If j (ce true k) (ce (decide (c<0)) k)) λcf=>If (h<32) (cf true i) (Nz 16 <| cf ((h.tmod 16) != 0) i))
theorem QK.o {a b c d e}(f:QK.v a b c d e):QK.c a b c d e:=Wa Tryz.func143 (x:=QK.h) (R0 f)
def Wz.h:Hn:=.q .o2 (.q (.q .o4 (.q .o2 (.c (.q .o3 .l) .l))) (.q (.o 12) .l))
def Wz.v (a:R2)(b:Int)(c:Hp)(d:Sl->Int->Hp->Prop):Prop:=WP.c a b c λe f=>If (e != 0) (d ⟨none,0,0⟩ e f) (bE a 6 f λh=>Ix h.a h.len b 1 λi=>fT i f λj=>WA.c j f λk l m=>d k l m)
theorem Wz.o {a b c d}(e:Wz.v a b c d):Wz.c a b c d:=Wa Tryz.func150 (x:=Wz.h) (R0 e)
def WB.h:Hn:=.q .o2 (.q (.q .o4 (.q .o2 (.c (.q .o3 .l) .l))) (.q (.o 13) .l))
def WB.v (a:R2)(b c:Int)(d:Hp)(e:Sl->Int->Hp->Prop):Prop:=WP.c a b d λf g=>If (f != 0) (e ⟨none,0,0⟩ f g) (bE a 5 g λi=>Ix i.a i.len b 1 λj=>fT j g λk=>WZ.c k c g λl m n=>e l m n)
theorem WB.o {a b c d e}(f:WB.v a b c d e):WB.c a b c d e:=Wa Tryz.func152 (x:=WB.h) (R0 f)
def XX.h:Hn:=.q .o1 (.q (.q .o4 (.q .o2 .aJ)) (.q (.o 17) (.q (.q .o2 .aJ) (.q .gQ .l))))
def XX.v (a:R2)(b:Int)(c:Hp)(d:aN):Prop:=WP.c a b c λe f=>If (e != 0) (d e f) (bE a 0 f λh=>Ix h.a h.len b 3 λi=>aQ i 1 f λj=>bL (b+1) λk=>Yy.c a j 1 k f λl m n=>If (m != 0) (d m n) (bE a 5 n λp=>Ix p.a p.len b 1 λq=>fT q n λr=>YO.c r l n λs t=>d s t))
theorem XX.o {a b c d}(e:XX.v a b c d):XX.c a b c d:=Wa Tryz.func153 (x:=XX.h) (R0 e)
def WL.h:Hn:=.q .o2 (.q (.k (.q .o4 (.c .aL (.q (.cR (.seq [.op,.op,.op,.cX false 2 [.op,.op],.op,.cX false 2 [.op,.op],.op,.cX false 2 [.op,.op],.op,.cX false 5 (RI.ops 5),.op])) .aJ)))) (.q .o9 (.q (.q .o2 (.c (.q .o3 .l) .l)) (.q .o7 (.q .o3 .l)))))
def WL.v (a:R2)(b c:Int)(d:Hp)(e:Int->Int->Hp->Prop):Prop:=W3.c a d λf g=>If (!f) (e 0 5 g) (bW (λh i=>bW (λj k=>bW (λl m=>bW (λn o=>If n (e 0 1 o) (Yy.c a b c 41 o λp q r=>If (q != 0) (e 0 q r) (bI a 7 r λt=>ke .i64 bN t p b r λu=>e p 0 u))) λv=>If l (v true m) (bL (c-1) λw=>v ((bits .and .i64 c w) != 0) m)) λx=>If j (x true k) (x (decide (c>16)) k)) λy=>If h (y true i) (y (decide (c<1)) i)) λz=>If (b<1) (z true g) (z (decide (b>64)) g))
theorem WL.o {a b c d e}(f:WL.v a b c d e):WL.c a b c d e:=Wa Tryz.func155 (x:=WL.h) (R0 f)
def WK.h:Hn:=.q .o1 (.q (.q .o3 .aK) (.q (.o 11) (.q (.q .o2 .aK) (.q .o6 (.q .o6 .aM)))))
def WK.v (a:R2)(b:Int)(c:Hp)(d:aN):Prop:=W3.c a c λe f=>If (!e) (d 5 f) (bI a 7 f λh=>Lk .i64 bN h b f λi=>If (!i.isSome) (d 8 f) (bI a 7 f λk=>ld .i64 bN k b f λl=>aV #[.I b,.I (i.getD 0)] 251 l λm n=>X2.c a ⟨some m,1,1⟩ n λo=>d 0 o))
theorem WK.o {a b c d}(e:WK.v a b c d):WK.c a b c d:=Wa Tryz.func163 (x:=WK.h) (R0 e)
def X2.h:Hn:=.q .o3 (.k (.loop [(8,.I)] (.q .o1 (.q (.c .l .l) (.q (.k (.q .o4 (.q (.cR (.tail 8 (RI.ops 8) [.op])) (.q (.cR (.tail 8 (RI.ops 8) [.op])) (.cR (.tail 8 (RI.ops 8) [.op])))))) .o2)))))
def X2.v (a:R2)(b:Sl)(c:Hp)(d:aP):Prop:=Yo [bN] (λe=>e 0 c) λf (g:Int) h=>If (g<((b.len:Nat):Int)) (Ix b.a b.len g 2 λi=>aQ i 0 h λj=>aQ i 1 h λk=>aV #[.I 0,.I 0] 251 h λl m=>aR l 0 (.I j) m λn=>aR l 1 (.I k) n λo=>bF a 4 o λq=>aQ l 0 o λr=>aQ l 1 o λs=>XF.c q r s o λt u=>bF a 3 u λw=>aQ l 0 u λx=>aQ l 1 u λy=>Xp.c w x y u λz aa=>bF a 2 aa λac=>aQ l 0 aa λad=>aQ l 1 aa λae=>XP.c ac ad ae aa λaf ag=>bL (g+1) λah=>f ah ag) (d h)
theorem X2.o {a b c d}(e:X2.v a b c d):X2.c a b c d:=Wa Tryz.func165 (x:=X2.h) (R0 e)
def WM.h:Hn:=.q .o1 (.q (.q .o4 (.q .o2 .aJ)) (.q (.o 14) (.q (.q .o2 .aJ) (.q .o3 .aM))))
def WM.v (a:R2)(b:Int)(c:Sl)(d:Hp)(e:aN):Prop:=WP.c a b d λf g=>If (f != 0) (e f g) (bE a 5 g λi=>Ix i.a i.len b 1 λj=>fT j g λk=>YI.c k c g λl m n=>If (m != 0) (e m n) (X2.c a l n λo=>e 0 o))
theorem WM.o {a b c d e}(f:WM.v a b c d e):WM.c a b c d e:=Wa Tryz.func175 (x:=WM.h) (R0 f)
def WP.h:Hn:=.q .o1 (.q (.k (.q .o4 (.c .aM (.q (.cR (.seq [.op,.op,.op,.cX false 7 (RI.ops 7),.op])) .aK)))) .aM)
def WP.v (a:R2)(b:Int)(c:Hp)(d:aN):Prop:=W3.c a c λe f=>If (!e) (d 5 f) (bW (λg h=>If g (d 1 h) (d 0 h)) λi=>If (b<0) (i true f) (bE a 0 f λk=>i (decide (b≥((k.len:Nat):Int))) f))
theorem WP.o {a b c d}(e:WP.v a b c d):WP.c a b c d:=Wa Tryz.func206 (x:=WP.h) (R0 e)
def Yy.h:Hn:=.q .o2 (.q (.o 12) (.ka [(10,.I),(11,.I)] (.q .o2 (.c (.q .o1 (.q (.k (.loop [(12,.I)] (.q (.q .o5 (.c .l .l)) (.k .o3)))) (.q (.q .o4 .aJ) (.o 12)))) .l)) (.q (.q .o2 (.c (.q .o3 .l) .l)) (.q .o7 (.q .o8 (.q .o3 .l))))))
def Yy.v (a:R2)(b c d:Int)(e:Hp)(f:Int->Int->Hp->Prop):Prop:=bF a 2 e λh=>XB.c h b c e λi j k=>Jn [bN,bN] (λ(l:Int) (m:Int) n=>If (m != 0) (f 0 m n) (bF a 3 n λp=>Xu.c p l b n λq r=>bF a 4 r λt=>X7.c t l b d r λu v=>f l 0 v)) λw=>If (j==6) (Yo [bN] (λx=>x 16 k) λy (z:Int) aa=>If (z<(if c>b then c else b)) (bL (z*2) λab=>y ab aa) (YE.c a z aa λac ad=>If (!ac) (f 0 6 ad) (bF a 2 ad λaf=>XB.c af b c ad λag ah ai=>w ag ah ai))) (w i j k)
theorem Yy.o {a b c d e f}(g:Yy.v a b c d e f):Yy.c a b c d e f:=Wa Tryz.func209 (x:=Yy.h) (R0 g)
def YH.h:Hn:=.q .o3 (.q (.q .o3 (.c (.q .o3 .l) .l)) (.q (.q .o2 (.c (.q .o3 .l) .l)) (.q .o8 (.q (.q .o2 (.c (.q .o3 .l) .l)) (.ka [] (.q .o2 (.c (.q .o5 (.k (.loop [] (.q (.cR (.seq [.it .i64 bN,.op])) (.q (.c .l .l) (.k (.q (.cR (.seq [.it .i64 bN,.op,.op,.op,.op])) (.q .o3 (.q (.cR (.seq [.op,.op,.op,.op,.cX true 5 (RI.ops 5)])) (.c (.q .o5 .l) .l)))))))))) .l)) (.q (.o 15) (.q (.q .o2 (.c (.q .o4 .l) .l)) (.q .o6 .l))))))))
def YH.v (a:R2)(b:Int)(c:Hp)(d:Int->Int->Int->Hp->Prop):Prop:=W3.c a c λe f=>If (!e) (d 0 0 5 f) (If (b<0) (d 0 0 8 f) (bF a 4 f λh=>Nz 256<|bL (b.tdiv 256) λi=>Y5.c h i f λj k=>If (j==0) (d 0 0 8 k) (Jn [] (λl=>bE a 5 l λn=>bL (j-1) λo=>Ix n.a n.len o 1 λp=>fT p l λq=>Yk.c q b l λr s t=>If (s != 0) (d 0 0 s t) (bL (j-1) λu=>d u r 0 t)) λv=>If (j==41) (bI a 7 k λx=>nA .i64 bN x k λy z=>Yo [] (λaa=>aa z) λab ac=>ny .i64 bN y ac (v ac) (λad ae af=>nM .i64 bN y af λag ah=>Nz 256<|bL (b.tdiv 256) λai=>bW (λaj ak=>If aj (bL (ag*256) λal=>d (-1) al 0 ak) (ab ak)) λam=>If (ag<=ai) (bL (ag+ah) λan=>am (decide (ai<an)) af) (am false af))) (v k))))
theorem YH.o {a b c d}(e:YH.v a b c d):YH.c a b c d:=Wa Tryz.func213 (x:=YH.h) (R0 e)
def WE.h:Hn:=.q .o2 (.q (.q .o4 (.q .o2 (.c (.q .o3 .l) .l))) (.q (.q (.o 11) .aJ) (.q (.q .o3 (.k (.loop [(32,.I)] (.q .o1 (.q (.c .l .l) (.q (.k (.q .o3 (.q (.o 14) (.q (.cR (.seq [.op,.op,.op,.cX false 2 [.op,.op]])) .aJ)))) .o2)))))) (.q (.o 13) .l))))
def WE.v (a:R2)(b:Int)(c:Sl)(d:Hp)(e:Bool->Int->Hp->Prop):Prop:=WP.c a b d λf g=>If (f != 0) (e false f g) (bE a 0 g λi=>Ix i.a i.len b 3 λj=>aQ j 2 g λk=>If (((c.len:Nat):Int) != k) (e false 1 g) (Yo [bN] (λl=>l 0 g) λm (n:Int) o=>If (n<((c.len:Nat):Int)) (Ix c.a c.len n 1 λp=>bM p o λq=>bE a 5 o λs=>Ix s.a s.len b 1 λt=>fT t o λu=>WX.c u q o λv w x=>bW (λy z=>If y (e false 8 z) (bL (n+1) λaa=>m aa z)) λab=>If (w != 0) (ab true x) (ab (!v) x)) (bE a 6 o λad=>Ix ad.a ad.len b 1 λae=>fT ae o λaf=>WY.c af c o λag ah ai=>e ag ah ai)))
theorem WE.o {a b c d e}(f:WE.v a b c d e):WE.c a b c d e:=Wa Tryz.func217 (x:=WE.h) (R0 f)
def YF.h:Hn:=.q .o1 (.q (.cR (.seq [.op,.op,.op,.cX true 7 (RI.ops 7),.op])) .l)
def YF.v (a:R2)(b:Int)(c:Hp)(d:aO):Prop:=W3.c a c λe f=>bW (λg h=>d g h) λi=>If e (bF a 3 f λk=>XG.c k b f λl m=>i (decide (l>0)) m) (i false f)
theorem YF.o {a b c d}(e:YF.v a b c d):YF.c a b c d:=Wa Tryz.func251 (x:=YF.h) (R0 e)
def YE.h:Hn:=.q .o1 (.q (.q .o2 (.k (.loop [(5,.I)] (.q (.q .o9 (.c .l .l)) (.q (.k (.q (.q .o8 (.c .l .l)) (.q (.q .o3 (.k (.loop [(6,.I)] (.q (.q .o6 (.c .l .l)) (.q (.k .o6) .o3))))) (.q .o7 .aM)))) .o4))))) .aM)
def YE.v (a:R2)(b:Int)(c:Hp)(d:aO):Prop:=Yo [bN] (λe=>e b c) λf (g:Int) h=>bL (g+b) λi=>bF a 1 h λk=>XA.c k h λl m=>If (i<=l) (bF a 1 m λo=>YV.c o g b m λp q=>If (p != 0) (bL (g+b) λr=>f r q) (Nz 16<|bL (g.tdiv 16) λs=>Yo [bN] (λt=>t s q) λu (v:Int) w=>bL (g+b) λx=>Nz 16<|bL (x.tdiv 16) λy=>If (v<y) (bF a 3 w λaa=>XV.c aa v w λab ac=>bL (v+1) λad=>u ad ac) (bF a 2 w λaf=>XP.c af g b w λag ah=>d true ah))) (d false m)
theorem YE.o {a b c d}(e:YE.v a b c d):YE.c a b c d:=Wa Tryz.func254 (x:=YE.h) (R0 e)
end Go.Proofs
namespace Go.Ar
open Go Go.Vc Go.Proofs
open Go.Bu (Za Qy Y7)
inductive Lb where
 | hd|dD|free|nE|own|dO|cN|runs
 | cD (k:Nat)
 | cM (k:Nat)
 deriving DecidableEq
structure Lay where
 p:Nat
 hs:Nat
 fr:Nat
 tr:Nat
 op:Nat
 rn:Nat
 dD:Sl
 dO:Sl
 cN:Sl
 fF:List Nat
 fU:List Nat
def kB (Y:Lay):List Value:=[.slice Y.dD.a Y.dD.len Y.dD.cap,.pointer (some ⟨Y.hs,0,none⟩),.pointer (some ⟨Y.fr,0,none⟩),.pointer (some ⟨Y.tr,0,none⟩),.pointer (some ⟨Y.op,0,none⟩),.slice Y.dO.a Y.dO.len Y.dO.cap,.slice Y.cN.a Y.cN.len Y.cN.cap,.map (some Y.rn)]
def fX (tb:List bZ):List Value:=tb.flatMap λc=>[.int .i64 (c.size:Int),.int .i64 (c.aF:Int),.int .i64 (c.batch:Int)]
def fJ (l:List Nat):List Value:=l.map λb=>.pointer (some ⟨b,0,none⟩)
def iF (l:List (Nat×Nat)):List (Int×Int):=l.map λr=>((r.1:Int),(r.2:Int))
def sy (p n:Nat)(S:Nat->Bool):Hp->Rg->Prop:=λU F=>∃sb ms,Go.Bu.BH U p n S sb ms/\∀b,Go.Bu.fp p sb ms b->F b
def l0 (p:Nat)(st:List Nat):Hp->Rg->Prop:=λU F=>∃q,ic U p q st/\F p/\F q
def jU (p:Option Nat)(c:Option bZ)(ss:Option (List cG)):Hp->Rg->Prop:=λU F=>match p,c,ss with
 | some p,some c,some ss=>∃ps,fA U F p c ps ss
 | _,_,_=>True
def kH (p:Option Nat)(c:Option bZ)(room:Nat)(t:Option gD):Hp->Rg->Prop:=λU F=>match p,c,t with
 | some p,some c,some t=>jl U F p c.batch room t
 | _,_,_=>True
def AC (A:AR)(Y:Lay)(T:Nat->Hp->Rg->Prop):Lb->Hp->Rg->Prop
 | .hd=>iq Y.p (kB Y)
 | .dD=>cU Y.dD 3 (fX A.tb)
 | .free=>sy Y.fr A.n A.S
 | .nE=>l0 Y.tr A.st
 | .own=>λU F=>jb U F Y.op A.ow
 | .dO=>bR Y.dO 1 (fJ Y.fF)
 | .cN=>bR Y.cN 1 (fJ Y.fU)
 | .runs=>jx Y.rn .i64 bN (iF A.runs)
 | .cD k=>jU Y.fF[k]? A.tb[k]? A.cD[k]?
 | .cM k=>T k
def cK (A:AR)(Y:Lay)(k:Nat):Hp->Rg->Prop:=kH Y.fU[k]? A.tb[k]? A.room A.cM[k]?
theorem sy.loc (p n:Nat)(S:Nat->Bool):dL (sy p n S):=by
 rintro U σ' F G ⟨d,j,h,s⟩ w r;have g:∀b,Go.Bu.fp p d j b->b<U.size:=λb a=>by
  unfold Go.Bu.fp at a;rcases zW.1 a with h1|h1
  ·obtain⟨c,i⟩:=h.hd;rw[h1];exact i.lt
  rcases zW.1 h1 with h2|h2
  ·obtain⟨c,i⟩:=h.row;rw[h2];exact i.lt
  ·obtain⟨k,u⟩:=zQ h2;obtain⟨B,x,_⟩:=h.maps k b u;exact x.lt
 have e:Ext (λb=>¬Go.Bu.fp p d j b) U σ':=⟨w,λb a m=>(r b a (s b (Classical.not_not.1 m))).2⟩;exact⟨d,j,h.bS e λb a y=>y a,λb a=>(r b (g b a) (s b a)).1⟩
theorem l0.loc (p:Nat)(st:List Nat):dL (l0 p st):=by
 rintro U σ' F G ⟨q,h,j,i⟩ r a;have e:Ext (λb=>b≠p/\b≠q) U σ':=⟨r,λb m s=>by
  by_cases h1:b=p
  ·subst h1;exact(a b m j).2
  ·have d:b=q:=Classical.byContradiction λd=>s ⟨h1,d⟩;subst d;exact(a b m i).2⟩
 exact⟨q,h.bS e (λg=>g.1 rfl) (λg=>g.2 rfl),(a p h.lt.1 j).1,(a q h.lt.2 i).1⟩
theorem jU.loc (p:Option Nat)(c:Option bZ)(ss:Option (List cG)):dL (jU p c ss):=by
 rintro U e F G h a d;unfold jU at *;split
 ·simp only at h;obtain⟨b,h⟩:=h;exact⟨b,fA.loc _ _ _ _ h a d⟩
 ·trivial
theorem kH.loc (p:Option Nat)(c:Option bZ)(room:Nat)(t:Option gD):dL (kH p c room t):=by
 rintro U d F G h b a;unfold kH at *;split
 ·exact jl.loc _ _ _ _ h b a
 ·trivial
theorem AC.loc {A:AR}{Y:Lay}{T:Nat->Hp->Rg->Prop}(hT:∀k,dL (T k)):∀i,dL (AC A Y T i)
 | .hd=>iq.loc _ _
 | .dD=>cU.loc _ _ _
 | .free=>sy.loc _ _ _
 | .nE=>l0.loc _ _
 | .own=>jb.loc
 | .dO=>bR.loc _ _ _
 | .cN=>bR.loc _ _ _
 | .runs=>jx.loc _ _ _ _
 | .cD k=>jU.loc _ _ _
 | .cM k=>hT k
theorem cK.loc {A:AR}{Y:Lay}(k:Nat):dL (cK A Y k):=kH.loc _ _ _ _
structure eV (A:AR) (Y:Lay):Prop where
 c:Y.fF.length=A.tb.length
 t:Y.fU.length=A.tb.length
 cD:A.cD.length=A.tb.length
 cM:A.cM.length=A.tb.length
 mW:1<=A.tb.length
 pW:A.tb.length<=40
 n1:32<=A.n
 n2:A.n<=1024
 n3:A.n%16=0
 st:A.st.length=A.n
 room:A.room<=8
 ok:∀c∈A.tb,c.ok
structure dG (U:Hp) (F:Rg) (Y:Lay) (A:AR) (T:Nat->Hp->Rg->Prop):Prop where
 lay:eV A Y
 tl:∀k,dL (T k)
 sep:Sep (AC A Y T) U F
def AH (U:Hp)(F:Rg)(p hs:Nat)(A:AR):Prop:=∃Y:Lay,Y.p=p/\Y.hs=hs/\dG U F Y A (cK A Y)
variable {U:Hp}{F:Rg}{p hs:Nat}{A:AR}{Y:Lay}{T:Nat->Hp->Rg->Prop}
theorem dG.loc:dL λU F=>dG U F Y A T:=λU d F G h b a=>⟨h.lay,h.tl,Sep.loc (AC.loc h.tl) _ _ _ _ h.sep b a⟩
theorem AH.loc:dL λU F=>AH U F p hs A:=λU e F G ⟨Y,b,d,h⟩ a hs=>⟨Y,b,d,dG.loc _ _ _ _ h a hs⟩
theorem dG.bO {σ':Hp}(h:dG U F Y A T)(e:bK U σ'):dG σ' F Y A T:=dL.bO dG.loc h e
theorem dG.hd (h:dG U F Y A T):bY U Y.p (kB Y):=by
 obtain⟨G,d,b,a⟩:=h.sep.get .hd;exact a
theorem VA (tb:List bZ):(fX tb).length=tb.length*3:=by
 induction tb with
 | nil=>rfl
 | cons x l ih=>simp only[fX,oY,zO,zY,lN]at *;omega
theorem Gw {tb:List bZ}{i:Nat}{c:bZ}(h:tb[i]?=some c):(fX tb)[3*i]?=some (.int .i64 (c.size:Int))/\(fX tb)[3*i+1]?=some (.int .i64 (c.aF:Int))/\(fX tb)[3*i+2]?=some (.int .i64 (c.batch:Int)):=by
 induction tb generalizing i with
 | nil=>simp at h
 | cons x l ih=>
  have e:fX (x::l)=[.int .i64 (x.size:Int),.int .i64 (x.aF:Int),.int .i64 (x.batch:Int)]++fX l:=by simp[fX]
  rw[e];cases i with
  | zero=>simp at h;subst h;simp
  | succ i=>
   have:=ih (i:=i) (by simpa using h);rw[show 3*(i+1)=3*i+3 by omega];simpa using this
theorem dG.oz (h:dG U F Y A T):Y.dD.len=A.tb.length:=by
 obtain⟨G,b,a⟩:=h.sep.get .dD;have:=a.1;rw[VA]at this;omega
theorem sN {s:Sl}{tb:List bZ}(h:cU s 3 (fX tb) U F){k d:Nat}{c:bZ}(hc:tb[k]?=some c)(hd:d<3){K:Int->Prop}(hK:K (if d=0 then c.size else if d=1 then c.aF else c.batch:Nat)) :
 Ix s.a s.len (k:Int) 3 λa=>gp .i64 (a.add d) U K:=by
 have g:=Gw hc;have i:(fX tb)[3*k+d]?=some (.int .i64 ((if d=0 then c.size else if d=1 then c.aF else c.batch:Nat):Int)):=by
  match d,hd with
  | 0,_=>exact g.1
  | 1,_=>exact g.2.1
  | 2,_=>exact g.2.2
 have p:=(cW.1 hc).1;obtain⟨b,o,j,e⟩:=h.cell i;have m:=h.1;rw[VA]at m;rw[j];refine ix O O ?_;rw[add_lit,add_lit];refine nI ?_ hK;rw[show o+(k:Int).toNat*3+d=o+(3*k+d) by omega];exact e
theorem dG.wA (h:dG U F Y A T){k d:Nat}{c:bZ}(hc:A.tb[k]?=some c)(hd:d<3){K:Int->Prop}(hK:K (if d=0 then c.size else if d=1 then c.aF else c.batch:Nat)) :
 Ix Y.dD.a Y.dD.len (k:Int) 3 λa=>gp .i64 (a.add d) U K:=by
 obtain⟨G,e,b⟩:=h.sep.get .dD;exact sN b hc hd hK
theorem AO {s:Sl}{l:List Nat}(h:cU s 1 (fJ l) U F){k q:Nat}(hq:l[k]?=some q){K:Option Addr->Prop}(hK:K (some ⟨q,0,none⟩)):Ix s.a s.len (k:Int) 1 λa=>fT a U K:=by
 have i:=(cW.1 hq).1;obtain⟨b,o,g,d⟩:=h.cell (j:=k) (v:=.pointer (some ⟨q,0,none⟩)) (by simp[fJ,hq]);have e:=h.1;simp[fJ]at e;rw[g];refine ix O O ?_;rw[add_lit];exact ud (by rw[show o+(k:Int).toNat*1=o+k by omega];exact d) hK
theorem dG.lP (h:dG U F Y A T){k q:Nat}(hq:Y.fF[k]?=some q){K:Option Addr->Prop}(hK:K (some ⟨q,0,none⟩)):Ix Y.dO.a Y.dO.len (k:Int) 1 λa=>fT a U K:=by
 obtain⟨G,d,b⟩:=h.sep.get .dO;exact AO (bR.gZ b) hq hK
theorem dG.rj (h:dG U F Y A T){k q:Nat}(hq:Y.fU[k]?=some q){K:Option Addr->Prop}(hK:K (some ⟨q,0,none⟩)):Ix Y.cN.a Y.cN.len (k:Int) 1 λa=>fT a U K:=by
 obtain⟨G,d,b⟩:=h.sep.get .cN;exact AO (bR.gZ b) hq hK
theorem dG.at_ (h:dG U F Y A T){k:Nat}(hk:k<A.tb.length):∃c ss q t r,A.tb[k]?=some c/\A.cD[k]?=some ss/\Y.fF[k]?=some q/\A.cM[k]?=some t/\Y.fU[k]?=some r/\c.ok:=by
 have d:=h.lay.c;have a:=h.lay.t;have b:=h.lay.cD;have e:=h.lay.cM;exact⟨A.tb[k],A.cD[k],Y.fF[k],A.cM[k],Y.fU[k],by simp,by simp,by simp,by simp,by simp,h.lay.ok _ (j4 hk)⟩
theorem FC {k q:Nat}{c:bZ}{ss:List cG}{G:Rg}(h1:Y.fF[k]?=some q)(h2:A.tb[k]?=some c)(h3:A.cD[k]?=some ss)(h:AC A Y T (.cD k) U G):∃ps,fA U G q c ps ss:=by
 simp only[AC]at h;rw[h1,h2,h3]at h;exact h
theorem dG.cD (h:dG U F Y A T){k q:Nat}{c:bZ}{ss:List cG}(h1:Y.fF[k]?=some q)(h2:A.tb[k]?=some c)(h3:A.cD[k]?=some ss):∃G ps,(∀b,G b->F b)/\fA U G q c ps ss:=by
 obtain⟨G,d,a⟩:=h.sep.get (.cD k);obtain⟨ps,e⟩:=FC h1 h2 h3 a;exact⟨G,ps,d,e⟩
theorem UQ (h:dG U F Y A T){R:aO}(hR:R true U):W3.c (aW Y.p) U R:=by
 refine W3.o ?_;unfold W3.v;exact bW.intro (cE rfl (aG (h.hd.rP rfl hR)))
theorem V5 (h:dG U F Y A T)(k:Int){R:aN}(h1:A.ck k=false->R 1 U)(h0:∀x:Nat,k=x->x<A.tb.length->R 0 U):WP.c (aW Y.p) k U R:=by
 refine WP.o ?_;unfold WP.v;have g:=h.oz;have a:¬(0<=k/\k<A.tb.length)->R 1 U:=λe=>h1 (by unfold AR.ck;rw[←uq];exact zM e);refine UQ h (cB rfl (bW.intro (cQ (λd=>cE rfl (a O)) λd=>aG (h.hd.rS rfl (cQ (λb=>?_) λb=>?_)))))
 ·simp only at b;exact a O
 ·simp only at b;exact h0 k.toNat O O
theorem PH (h:dG U F Y A T)(x:Int){R:aO}(hR:R (n4 A x) U):YF.c (aW Y.p) x U R:=by
 refine YF.o ?_;unfold YF.v;obtain⟨G,b,q,a,_⟩:=h.sep.get .nE;refine UQ h (bW.intro (cE rfl (aG (h.hd.rP rfl (M4 a x ?_)))));have:decide (xr A.st x>0)=n4 A x:=by
  unfold xr n4;by_cases hx:0<=x
  ·by_cases hl:x<A.st.length
   ·rw[zC ⟨hx,hl⟩,zJ hx,p8,decide_eq_decide];omega
   ·rw[zB O,zJ hx,p8,zP,zV O];rfl
  ·rw[zB O,zM hx];rfl
 rw[this];exact hR
structure iI (A:AR):Prop where
 sd:∀r∈A.runs,∀s∈A.runs,∀x,r.1<=x->x<r.1+r.2->s.1<=x->x<s.1+s.2->r=s
 xW:∀x,x<1024->A.ow x=41->(rz A x).isSome=true
 cls:∀x,x<1024->A.ow x≠0->A.ow x≠41->A.ow x<=A.tb.length
 fit:∀r∈A.runs,r.1+r.2<=1024
theorem yF (h:iI A){x:Nat}{r:Nat×Nat}(hr:r∈A.runs)(h1:r.1<=x)(h2:x<r.1+r.2):rz A x=some r:=by
 cases hf:rz A x with
 | none=>
  unfold rz at hf;rw[nR]at hf;have:=hf r hr;simp[h1,h2]at this
 | some s=>
  unfold rz at hf;have b:=tj hf;have a:=sP hf;simp at a;rw[h.sd r hr s b x h1 h2 a.1 a.2]
theorem Jr (h:dG U F Y A T)(hr:iI A)(x:Int)(hx:iD x){R:Int->Int->Int->Hp->Prop}(h1:∀σ' k a,bK U σ'->UD A x=some (k,a)->R k (a:Int) 0 σ')(h0:∀σ',bK U σ'->UD A x=none->R 0 0 8 σ') :
 YH.c (aW Y.p) x U R:=by
 refine YH.o ?_;unfold YH.v;refine UQ h (cB rfl (cQ (λW=>h0 U (Ext.refl _ _) (by unfold UD;rw[zC W])) λW=>aG (h.hd.rP rfl (nz aB ?_))));obtain⟨y,rfl⟩:=za (show 0<=x by omega);have hy:y<=9223372036854775807:=by unfold iD at hx;omega
 have Q:((y:Int).tdiv 256)=((y/256:Nat):Int):=by rw[Yq O];simp
 refine ar (by rw[Q];omega) (by rw[Q];omega) ?_;rw[Q];obtain⟨G,hG,hP⟩:=h.sep.get .own;refine Jc hP _ ?_;have eo:pZ A.ow ((y/256:Nat):Int)=if y/256<1024 then A.ow (y/256)else 0:=by
  unfold pZ;by_cases hl:y/256<1024
  ·rw[zC O,zC hl];rfl
  ·rw[zB O,zB hl]
 have g:UD A (y:Int)=(let no:=if y/256<1024 then A.ow (y/256)else 0
  if no=0 then none else if no=41 then(rz A (y/256)).map λr=>(-1,r.1*256)else
  match A.tb[no-1]?,A.cD[no-1]? with
  | some c,some ss=>(pY c ss (y:Int)).map λa=>(((no-1:Nat):Int),a)
  | _,_=>none):=by
  unfold UD;rw[zB W];rfl
 rw[eo];generalize hno:(if y/256<1024 then A.ow (y/256)else 0)=no at *
 simp only at g;rw[wM];refine cO (λe0=>h0 U (Ext.refl _ _) (by rw[g,zC (by simpa using e0)])) λe0=>?_;have C:no≠0:=by simpa using e0
 rw[zB C]at g;have E:y/256<1024:=by
  rcases kr (y/256) 1024 with h|h
  ·exact h
  ·rw[zB O]at hno;exact absurd hno.symm C
 rw[zC E]at hno;refine Jn.intro ?_;have V:(((no:Nat):Int)==41)=(no==41):=ly no 41;rw[V];refine cO (λc2=>?_) λc2=>?_
 ·have w:no=41:=by simpa using c2
  subst w;rw[zC rfl]at g;obtain⟨r,N⟩:=pq.1 (hr.xW _ E hno);have j:=tj N;have D:=sP N;simp at D;obtain⟨G,hG,L⟩:=h.sep.get .runs;refine aG (h.hd.rM rfl ?_);refine AI L.2 (λd v=>bK U v/\(∀z∈d,z∈iF A.runs)/\((r.1:Int),(r.2:Int))∈d) (λv hz e=>⟨e,λz hz=>hz,zE.2 ⟨r,j,rfl⟩⟩) (λv hv=>absurd hv.2.2 aA) ?_;rintro d n z v v' J ⟨e,b,B⟩ hm ho hlt2 hJ;have Z:bK U v':=Ext.fresh e ho.ext λi hi=>by omega
  obtain⟨s,P,hse⟩:=zE.1 (b _ hm);cases hse;have hfit:=hr.fit s P;refine nz aB (ar O O ?_);refine bW.intro (cQ (λc3=>ar O O (cQ (λc4=>?_) λc4=>?_)) λc3=>cB rfl ?_)
  ·have S:=yF hr P (x:=y/256) O O;refine ar O O ?_;have:=h1 v' (-1) (s.1*256) Z (by rw[g,S];rfl);simpa using this
  ·refine hJ v' rfl rfl ⟨Z,λu hu=>b u (zI.1 hu).1,zI.2 ⟨B,?_⟩⟩;have:¬(r.1:Int)=(s.1:Int):=λe=>by
    have:=yF hr j D.1 D.2;have e1:r.1=s.1:=by omega
    by_cases h2:r.2=0
    ·omega
    by_cases h3:s.2=0
    ·have:=L.2.nodup;have M:=Qf this (zE.2 ⟨r,j,rfl⟩);have H:=Qf this (zE.2 ⟨s,P,rfl⟩);rw[e1,H]at M;have:s.2=r.2:=by
      have:(s.2:Int)=(r.2:Int):=Option.some.inj M;omega
     omega
    ·have:=hr.sd r j s P r.1 O O O O;subst this;omega
   simpa using this
  ·refine hJ v' rfl rfl ⟨Z,λu hu=>b u (zI.1 hu).1,zI.2 ⟨B,?_⟩⟩;have:¬(r.1:Int)=(s.1:Int):=λe=>by omega
   simpa using this
 ·have w:no≠41:=by simpa using c2
  rw[zB w]at g;have hcl:=hr.cls _ E (by rw[hno];exact C) (by rw[hno];exact w);rw[hno]at hcl;obtain⟨c,ss,q,t,r,hc,K,hq,_,_,hok⟩:=h.at_ (k:=no-1) O;obtain⟨G,ps,hG,hC⟩:=h.cD hq hc K;rw[hc,K]at g;simp only at g;refine aG (h.hd.rS rfl (cP (m:=no-1) O (by have:=h.lay.pW;omega) (h.lP hq (NG hC _ hx (λa X=>?_) λX=>?_))))
  ·refine cB rfl (cP (m:=no-1) O (by have:=h.lay.pW;omega) (h1 U _ a (Ext.refl _ _) ?_));rw[g,X];rfl
  ·refine cE rfl (h0 U (Ext.refl _ _) ?_);rw[g,X];rfl
end Go.Ar
namespace Go.Ar
open Go Go.Vc Go.Proofs
open Go.Bu (Za Qy Y7)
open Classical in
theorem _root_.Go.Vc.Sep.jW {L:Type}{C:L->Hp->Rg->Prop}{U:Hp}{F:Rg}(hC:∀i,dL (C i))(h:Sep C U F)(i:L):∃G:Rg,(∀b,G b->F b)/\C i U G/\(∀j,j≠i->∃H:Rg,(∀b,H b->F b)/\(∀b,H b->¬G b)/\C j U H)/\∀(σ':Hp) (C':L->Hp->Rg->Prop) (G':Rg),
 (∀j,j≠i->C' j=C j)->Ext G U σ'->(∀b,G' b->G b\/U.size<=b)->C' i σ' G'->dL (C' i)->Sep C' σ' λb=>F b/\b<U.size/\¬G b\/G' b:=by
 obtain⟨ρ,h⟩:=h;refine⟨_,λb a=>a.1,h i,λj p=>⟨_,λb a=>a.1,λb m x=>p (m.2.symm.trans x.2),h j⟩,λσ' C' G' p e u w y=>⟨λb=>if G' b then i else ρ b,λj=>?_⟩⟩
 by_cases hji:j=i
 ·subst hji;exact y.mono w λb _ a=>⟨.inr a,zC a⟩
 ·rw[p j hji];refine hC j _ _ _ _ (h j) e.1 λb a s=>?_;have d:¬(F b/\ρ b=i):=λr=>hji (s.2.symm.trans r.2);have g:¬G' b:=λr=>by
   rcases u b r with m|m
   ·exact d m
   ·omega
  exact⟨⟨.inl ⟨s.1,a,d⟩,(zB g).trans s.2⟩,e.2 b a d⟩
variable {U:Hp}{F:Rg}{p hs:Nat}{A:AR}{Y:Lay}{T:Nat->Hp->Rg->Prop}
theorem dG.step (h:dG U F Y A T)(i:Lb):∃G:Rg,(∀b,G b->F b)/\AC A Y T i U G/\(∀j,j≠i->∃H:Rg,(∀b,H b->F b)/\(∀b,H b->¬G b)/\AC A Y T j U H)/\∀(σ':Hp) (A':AR) (Y':Lay) (T':Nat->Hp->Rg->Prop) (G' H:Rg),
 eV A' Y'->(∀k,dL (T' k))->(∀j,j≠i->AC A' Y' T' j=AC A Y T j)->Ext G U σ'->(∀b,G' b->G b\/U.size<=b)->AC A' Y' T' i σ' G'->(∀b,(F b/\b<U.size/\¬G b\/G' b)->H b)->dG σ' H Y' A' T':=by
 obtain⟨G,p,r,hd,a⟩:=h.sep.jW (AC.loc h.tl) i;refine⟨G,p,r,hd,λσ' A' Y' T' G' H x d u e m g s=>⟨x,d,?_⟩⟩;exact(Sep.loc (AC.loc d)).mono (a σ' _ G' u e m g (AC.loc d i)) λb _ w=>s b w
theorem HB {U:Hp}{F G G':Rg}(hG:∀b,G b->F b)(hg:∀b,G' b->G b\/U.size<=b):∀b,(F b/\b<U.size/\¬G b\/G' b)->Grow F U b:=λb a=>by
 rcases a with a|a
 ·exact .inl a.1
 ·exact(hg b a).imp (hG b) id
theorem yi {U:Hp}{F G G':Rg}(hG:∀b,G b->F b)(hg:∀b,G' b->G b):∀b,(F b/\b<U.size/\¬G b\/G' b)->F b:=λb a=>by
 rcases a with a|a
 ·exact a.1
 ·exact hG b (hg b a)
theorem Ea {U:Hp}{F G:Rg}(hG:∀b,G b->F b):∀b,(F b/\b<U.size/\¬G b\/Cut G U b)->Cut F U b:=λb a=>by
 rcases a with a|a
 ·exact⟨a.1,a.2.1⟩
 ·exact⟨hG b a.1,a.2⟩
theorem FI {ow:Nat->Nat}:∀j,j≠Lb.own->AC {A with ow:=ow} Y T j=AC A Y T j:=by
 intro j hj;cases j<;>first|rfl|exact absurd rfl hj
theorem Ni {st:List Nat}:∀j,j≠Lb.nE->AC {A with st:=st} Y T j=AC A Y T j:=by
 intro j hj;cases j<;>first|rfl|exact absurd rfl hj
theorem AT {S:Nat->Bool}:∀j,j≠Lb.free->AC {A with S:=S} Y T j=AC A Y T j:=by
 intro j hj;cases j<;>first|rfl|exact absurd rfl hj
theorem Nb {rs:List (Nat×Nat)}:∀j,j≠Lb.runs->AC {A with runs:=rs} Y T j=AC A Y T j:=by
 intro j hj;cases j<;>first|rfl|exact absurd rfl hj
theorem PJ {k:Nat}{ss:List cG}:∀j,j≠Lb.cD k->AC {A with cD:=A.cD.set k ss} Y T j=AC A Y T j:=by
 intro j hj;cases j<;>first|rfl|skip
 rename_i k';have a:k≠k':=λe=>hj (by rw[e]);simp only[AC];rw[zk a]
theorem eV.ow {ow:Nat->Nat}(h:eV A Y):eV {A with ow:=ow} Y:=⟨h.c,h.t,h.cD,h.cM,h.mW,h.pW,h.n1,h.n2,h.n3,h.st,h.room,h.ok⟩
theorem eV.yC {S:Nat->Bool}(h:eV A Y):eV {A with S:=S} Y:=⟨h.c,h.t,h.cD,h.cM,h.mW,h.pW,h.n1,h.n2,h.n3,h.st,h.room,h.ok⟩
theorem eV.pV {rs:List (Nat×Nat)}(h:eV A Y):eV {A with runs:=rs} Y:=⟨h.c,h.t,h.cD,h.cM,h.mW,h.pW,h.n1,h.n2,h.n3,h.st,h.room,h.ok⟩
theorem eV.vR {st:List Nat}(h:eV A Y)(hl:st.length=A.st.length):eV {A with st:=st} Y:=⟨h.c,h.t,h.cD,h.cM,h.mW,h.pW,h.n1,h.n2,h.n3,hl.trans h.st,h.room,h.ok⟩
theorem eV.kK {k:Nat}{ss:List cG}(h:eV A Y):eV {A with cD:=A.cD.set k ss} Y:=⟨h.c,h.t,by simpa using h.cD,h.cM,h.mW,h.pW,h.n1,h.n2,h.n3,h.st,h.room,h.ok⟩
theorem C6 (st:List Nat)(a m:Int)(v:Nat)(fr:List Nat):(VX st a m v fr).length=st.length:=by
 unfold VX;split<;>simp[Ku]
theorem Na (st:List Nat)(k:Int):(iT st k).length=st.length:=by
 unfold iT;split<;>simp[Ku]
theorem dG.Clear (h:dG U F Y A T)(a m:Nat)(ha:a<=1000000){R:aN}(hR:∀σ' t,Ext F U σ'->dG σ' (Grow F U) Y {A with ow:=jB A.ow a m 0} T->R t σ'):XF.c (aW Y.op) a m U R:=by
 obtain⟨G,i,p,_,d⟩:=h.step .own;refine IF p a m ha λσ' e j=>hR σ' _ (e.sub i) ?_;exact d σ' _ _ T (Grow G U) _ h.lay.ow h.tl FI e (λb g=>g) j (HB i λb g=>g)
theorem dG.Set (h:dG U F Y A T)(a m:Nat)(ha:a<=1000000){no:Nat}(h1:1<=no)(h2:no<=1000){R:aN}(hR:∀σ' t,Ext F U σ'->dG σ' (Grow F U) Y {A with ow:=jB A.ow a m no} T->R t σ'):X7.c (aW Y.op) a m no U R:=by
 obtain⟨G,i,p,_,d⟩:=h.step .own;refine OF p a m ha h1 h2 λσ' e j=>hR σ' _ (e.sub i) ?_;exact d σ' _ _ T (Grow G U) _ h.lay.ow h.tl FI e (λb g=>g) j (HB i λb g=>g)
theorem dG.nE (h:dG U F Y A T):∃G:Rg,(∀b,G b->F b)/\∃q,ic U Y.tr q A.st/\F q/\∀(σ':Hp) (st:List Nat),st.length=A.st.length->Ext (· = q) U σ'->ic σ' Y.tr q st->Ext F U σ'/\dG σ' F Y {A with st:=st} T:=by
 obtain⟨G,i,⟨q,p,j,g⟩,_,d⟩:=h.step .nE;refine⟨G,i,q,p,i _ g,λσ' st m e r=>⟨e.sub λb a=>by subst a;exact i _ g,?_⟩⟩;exact d σ' _ _ T G _ (h.lay.vR m) h.tl Ni (e.sub λb a=>by subst a;exact g) (λb a=>.inl a) ⟨q,r,j,g⟩ (yi i λb a=>a)
theorem dG.wQ (h:dG U F Y A T)(a m:Int){R:aN}(hR:∀σ' t,Ext F U σ'->dG σ' F Y {A with st:=VX A.st a m 2 [1]} T->R t σ'):Xp.c (aW Y.tr) a m U R:=by
 obtain⟨G,i,q,d,_,b⟩:=h.nE;refine Jw d a m λσ' e g=>?_;have:=b σ' _ (C6 _ _ _ _ _) e g;exact hR σ' _ this.1 this.2
theorem dG.NI (h:dG U F Y A T)(a m:Int){R:aN}(hR:∀σ' t,Ext F U σ'->dG σ' F Y {A with st:=VX A.st a m 1 [2,3]} T->R t σ'):Xu.c (aW Y.tr) a m U R:=by
 obtain⟨G,i,q,d,_,b⟩:=h.nE;refine IQ d a m λσ' e g=>?_;have:=b σ' _ (C6 _ _ _ _ _) e g;exact hR σ' _ this.1 this.2
theorem dG.A3 (h:dG U F Y A T)(k:Int){R:aN}(hR:∀σ' t,Ext F U σ'->dG σ' F Y {A with st:=iT A.st k} T->R t σ'):XV.c (aW Y.tr) k U R:=by
 obtain⟨G,g,q,b,_,a⟩:=h.nE;refine L6 b k λσ' e d=>?_;have:=a σ' _ (Na _ _) e d;exact hR σ' _ this.1 this.2
theorem dG.free (h:dG U F Y A T):∃sb ms,Go.Bu.BH U Y.fr A.n A.S sb ms/\∀(σ':Hp) (S:Nat->Bool),Ext (· ∈ ms) U σ'->Go.Bu.BH σ' Y.fr A.n S sb ms->Ext F U σ'/\dG σ' F Y {A with S:=S} T:=by
 obtain⟨G,i,⟨sb,ms,m,g⟩,_,d⟩:=h.step .free;have j:∀b,b∈ms->G b:=λb a=>g b (by unfold Go.Bu.fp;simp[a]);refine⟨sb,ms,m,λσ' S e p=>⟨e.sub λb a=>i b (j b a),?_⟩⟩;exact d σ' _ _ T G _ h.lay.yC h.tl AT (e.sub j) (λb a=>.inl a) ⟨sb,ms,p,g⟩ (yi i λb a=>a)
theorem dG.u7 (h:dG U F Y A T)(a m:Int){R:aN}(hR:∀σ' t,Ext F U σ'->dG σ' F Y {A with S:=Qy A.n A.S a m} T->R t σ'):XP.c (aW Y.fr) a m U R:=by
 obtain⟨j,i,d,b⟩:=h.free;refine Go.Bu.qv d a m λσ' e g=>?_;have:=b σ' _ e g;exact hR σ' _ this.1 this.2
theorem dG.wK (h:dG U F Y A T)(a m:Int){R:Int->Int->Hp->Prop}(hR:∀σ',Ext F U σ'->dG σ' F Y {A with S:=Go.Bu.iY A.n A.S a m} T->R ((Go.Bu.iL A.n A.S a m:Nat):Int) (Go.Bu.iX A.n A.S a m) σ'):XB.c (aW Y.fr) a m U R:=by
 obtain⟨j,i,d,b⟩:=h.free;refine Go.Bu.kG d a m λσ' e g=>?_;have:=b σ' _ e g;exact hR σ' this.1 this.2
def rV (rs:List (Nat×Nat)):List Value:=rs.flatMap λr=>[.int .i64 (r.1:Int),.int .i64 (r.2:Int)]
theorem C1 (rs:List (Nat×Nat)):(rV rs).length=rs.length*2:=by
 induction rs with
 | nil=>rfl
 | cons x l ih=>simp only[rV,oY,zO,zY,lN]at *;omega
theorem I3 {l:List (Nat×Nat)}{i:Nat}{r:Nat×Nat}(h:l[i]?=some r):(rV l)[2*i]?=some (.int .i64 (r.1:Int))/\(rV l)[2*i+1]?=some (.int .i64 (r.2:Int)):=by
 induction l generalizing i with
 | nil=>simp at h
 | cons x l ih=>
  have e:rV (x::l)=[.int .i64 (x.1:Int),.int .i64 (x.2:Int)]++rV l:=by simp[rV]
  rw[e];cases i with
  | zero=>simp at h;subst h;simp
  | succ i=>
   have:=ih (i:=i) (by simpa using h);rw[show 2*(i+1)=2*i+2 by omega];simpa using this
theorem Ps (c:bZ)(l:List Nat):iJ c l=rV (l.map λs=>(s,c.aF)):=by
 simp[iJ,rV,List.flatMap_map]
theorem Jv {s:Sl}{rs:List (Nat×Nat)}(h:cU s 2 (rV rs) U F){i:Nat}{r:Nat×Nat}(hr:rs[i]?=some r){K:Int->Int->Prop}(hK:K (r.1:Int) (r.2:Int)) :
 Ix s.a s.len (i:Int) 2 λa=>gp .i64 (a.add 0) U λu=>gp .i64 (a.add 1) U λw=>K u w:=by
 have g:=I3 hr;have x:=(cW.1 hr).1;obtain⟨b,o,j,m⟩:=h.cell g.1;obtain⟨y,o1,d,e⟩:=h.cell g.2;rw[j]at d;cases d;have p:=h.1;rw[C1]at p;rw[j];refine ix O O ?_;rw[add_lit];refine nI ?_ (nI ?_ hK)<;>rw[add_lit]
 ·rw[show o+(i:Int).toNat*2+0=o+2*i by omega];exact m
 ·rw[show o+(i:Int).toNat*2+1=o+(2*i+1) by omega];exact e
theorem dG.mono {G:Rg}(h:dG U F Y A T)(hs:∀b,b<U.size->F b->G b):dG U G Y A T:=dL.mono dG.loc h hs
theorem dG.cut (h:dG U F Y A T):dG U (Cut F U) Y A T:=dL.cut dG.loc h
theorem LV (A:AR)(rs:List (Nat×Nat))(r:Nat×Nat):VU A (rs++[r])=VG (VU A rs) r:=by simp[VU]
theorem DN (h:dG U F Y A T){sl:Sl}{rs:List (Nat×Nat)}{X:Rg}(hs:cU sl 2 (rV rs) U X)(hX:∀b,b<U.size->X b->¬F b)(hl:rs.length<=1000000)(hb:∀r∈rs,r.1<=1000000){R:aP}
 (hR:∀σ',Ext F U σ'->dG σ' (Grow F U) Y (VU A rs) T->R σ'):X2.c (aW Y.p) sl U R:=by
 refine X2.o ?_;unfold X2.v;have aa:sl.len=rs.length:=by have:=hs.1;rw[C1]at this;omega
 have B:cU sl 2 (rV rs) U (Cut X U):=aH.cut hs;refine ZY (a:=bN) (λ(t:Int) v=>∃i:Nat,t=(i:Int)/\i<=rs.length/\Ext F U v/\dG v (Grow F U) Y (VU A (rs.take i)) T) (λt _=>rs.length-t.toNat) ⟨0,rfl,O,Ext.refl _ _,by simpa[VU]using h.mono λb _ hb=>.inl hb⟩ ?_;rintro t v ⟨i,rfl,Q,e,H⟩;refine cQ (λhlt=>?_) λac=>?_
 ·have j:i<rs.length:=by omega
  have y:rs[i]?=some rs[i]:=cV j;have E:=hb _ (j4 j);have D:=aH.bS B e λb K y u=>hX b K y.1 u;refine Jv D y ?_;have z:rs.take (i+1)=rs.take i++[rs[i]]:=by rw[k7,y];rfl
  generalize rs[i]=r at *;refine nw (cs:=[.int .i64 0,.int .i64 0]) λv4 ab e4 N=>N.s1 aA λv5 o5 b5=>b5.s1 aA λv6 o6 Z=>?_;have w:bK v v6:=Ext.fresh (Ext.fresh e4 o5.ext λi Q=>O) o6.ext λi Q=>by omega
  have x:=H.cut.bO w;have W:¬Cut (Grow F U) v v.size:=λu=>by have:=u.2;omega
  have g:bY v6 v.size [.int .i64 (r.1:Int),.int .i64 (r.2:Int)]:=Z;have z6:v.size<v6.size:=Z.lt;refine aG (x.hd.rP rfl (g.rI rfl (g.rI rfl (x.Clear r.1 r.2 E λv7 t7 P M=>?_))));have J:=P.bT g W;have d:=M.mono (G:=λb=>Cut (Grow F U) v b\/v.size<b) λb _ hb=>by
   rcases hb with hb|hb
   ·exact .inl hb
   ·exact .inr O
  have L:¬(Cut (Grow F U) v v.size\/v.size<v.size):=λu=>by
   rcases u with h|h
   ·exact W h
   ·omega
  refine aG (d.hd.rP rfl (J.rI rfl (J.rI rfl (d.wQ _ _ λv8 t8 V s=>?_))));have S:=V.bT J L;refine aG (s.hd.rP rfl (S.rI rfl (S.rI rfl (s.u7 _ _ λv9 t9 e9 C=>?_))));have sub:∀b,(Cut (Grow F U) v b\/v.size<b)->Grow F U b:=λb hb=>by
   rcases hb with hb|hb
   ·exact hb.1
   ·exact .inr (by have:=e.1;omega)
  have ee:Ext F U v9:=((((e.trans (bK.to w)).jk (P.sub λb hb=>hb.1))).jk (V.sub sub)).jk (e9.sub sub);refine cP (m:=i+1) O O ⟨⟨i+1,rfl,O,ee,?_⟩,O⟩;rw[z,LV];exact C.mono λb _ hb=>sub b hb
 ·have:i=rs.length:=by omega
  subst this;rw[mV]at H;exact hR v e H
end Go.Ar
namespace Go.Proofs
open Go.Vc
set_option maxRecDepth 100000
def XE.h:Hn:=.q .o1 (.q (.q .o3 .aK) (.q .o1 (.q (.q .o5 (.k (.loop [(3,.I)] (.q (.cR (.seq [.it .i64 .p,.op])) (.q (.c .l .l) (.k (.q (.cR (.seq [.it .i64 .p,.op,.op,.op,.op])) (.oq 17)))))))) .aL)))
def XE.v (a:R2)(b:Hp)(c:aN):Prop:=W5.c a b λd e=>If (!d) (c 0 e) (bI a 2 e λg=>nA .i64 .p g e λh i=>Yo [bN] (λj=>j 0 i) λk (l:Int) m=>ny .i64 .p h m (c l m) (λn o p=>nM .i64 .p h p λq r=>bE a 0 p λt=>Ix t.a t.len q 3 λu=>aQ u 0 p λv=>bE r 0 p λx=>bL (v*((x.len:Nat):Int)) λy=>bL (l+y) λz=>k z p))
theorem XE.o {a b c}(d:XE.v a b c):XE.c a b c:=Wa Tryz.func79 (x:=XE.h) (R0 d)
def W5.h:Hn:=.q .o1 (.q (.cR (.seq [.op,.op,.op,.cX true 5 (RI.ops 5),.op])) .l)
def W5.v (a:R2)(b:Hp)(c:aO):Prop:=bW (λd e=>c d e) λf=>If (!a.isNone) (bI a 2 b λh=>f (!h.isNone) b) (f false b)
theorem W5.o {a b c}(d:W5.v a b c):W5.c a b c:=Wa Tryz.func110 (x:=W5.h) (R0 d)
def QL.h:Hn:=.q .o2 (.q (.k (.q .o4 (.c .aL (.q (.cR (.seq [.op,.op,.op,.cX false 2 [.op,.op],.op])) .aJ)))) (.q .o8 .l))
def QL.v (a:Sl)(b:Int)(c:Hp)(d:Option Addr->Int->Hp->Prop):Prop:=Zs.c a c λe f=>If (!e) (d none 2 f) (bW (λg h=>If g (d none 1 h) (Wi.c a h λi j=>Nw (.map #[] 0) j λk l=>aV #[.slice i.a i.len i.cap,.I b,.map (some k.block)] 168 l λm n=>d (some m) 0 n)) λo=>If (b<0) (o true f) (o (decide (b>65536)) f))
theorem QL.o {a b c d}(e:QL.v a b c d):QL.c a b c d:=Wa Tryz.func144 (x:=QL.h) (R0 e)
def X3.h:Hn:=.q .o2 (.q .o8 (.q (.q .o2 (.c (.q .o3 .l) .l)) (.q (.q .o6 (.c (.q (.q .o9 (.q .o6 (.c .o8 (.o 11)))) .aL) .l)) (.q .o7 (.q .o8 (.q .gQ (.q .gQ (.q .o3 .l))))))))
def X3.v (a:R2)(b:Int)(c:Hp)(d:Int->Int->Hp->Prop):Prop:=Xg.c a b c λe f g=>If (f != 0) (d 0 f g) (bE e 0 g λi=>If (((i.len:Nat):Int)==0) (bE a 0 g λk=>Ix k.a k.len b 3 λl=>aQ l 2 g λm=>bD e 1 g λo=>If (o<m) (bD e 1 g λq=>bL (q+1) λr=>bU e λs=>aR s 1 (.I r) g λt=>d 0 4 t) (bD e 1 g λv=>bL (v+m) λw=>bU e λx=>aR x 1 (.I (if 128<w then 128 else w)) g λy=>d 0 4 y)) (bE e 0 g λaa=>bL (((aa.len:Nat):Int)-1) λab=>bE e 0 g λad=>Ix ad.a ad.len ab 1 λae=>bM ae g λaf=>bE e 0 g λah=>eX ah 1 0 ab (ah.cap:Nat) λai=>bU e λaj=>aR aj 0 (.slice ai.a ai.len ai.cap) g λak=>bD e 2 ak λam=>bU e λan=>aR an 2 (.I (if ab<am then ab else am)) ak λao=>d af 0 ao))
theorem X3.o {a b c d}(e:X3.v a b c d):X3.c a b c d:=Wa Tryz.func147 (x:=X3.h) (R0 e)
def X6.h:Hn:=.q .o2 (.q .o8 (.q (.q .o2 (.c (.q .o3 .l) .l)) (.q (.oq 15) .l)))
def X6.v (a:R2)(b:Int)(c:Hp)(d:Int->Int->Hp->Prop):Prop:=Xg.c a b c λe f g=>If (f != 0) (d 0 f g) (bD e 1 g λi=>bE a 0 g λk=>Ix k.a k.len b 3 λl=>aQ l 2 g λm=>d (if m<i then m else i) 0 g)
theorem X6.o {a b c d}(e:X6.v a b c d):X6.c a b c d:=Wa Tryz.func149 (x:=X6.h) (R0 e)
def XS.h:Hn:=.q .o1 (.q .o8 (.q (.q .o2 .aJ) (.q .o3 (.q .o2 (.q .o4 .l)))))
def XS.v (a:R2)(b:Int)(c:Sl)(d:Hp)(e:aN):Prop:=Xg.c a b d λf g h=>If (g != 0) (e g h) (WC.c c h λi j=>WR.c i j λk=>WT.c f i k λl m=>e l m)
theorem XS.o {a b c d e}(f:XS.v a b c d e):XS.c a b c d e:=Wa Tryz.func154 (x:=XS.h) (R0 f)
def Yu.h:Hn:=.q .o2 (.q .o8 (.q (.q .o2 (.c (.q .o3 .l) .l)) (.q (.q .o5 (.q .o2 (.c (.q .o3 .l) .l))) (.q (.q (.oq 10) .aJ) (.q .o9 (.ka [] (.q .o6 (.c .o8 .l)) (.q (.o 11) .l)))))))
def Yu.v (a:R2)(b c:Int)(d:Hp)(e:Sl->Int->Hp->Prop):Prop:=Xg.c a b d λf g h=>If (g != 0) (e ⟨none,0,0⟩ g h) (aV #[.I c] 3 h λi j=>WT.c f ⟨some i,1,1⟩ j λk l=>If (k != 0) (e ⟨none,0,0⟩ k l) (bE f 0 l λn=>bD f 1 l λp=>If (((n.len:Nat):Int)<=p) (e ⟨none,0,0⟩ 0 l) (bE a 0 l λr=>Ix r.a r.len b 3 λs=>aQ s 2 l λt=>Jn [] (λu=>bE f 0 u λw=>W0.c f (if((w.len:Nat):Int)<t then((w.len:Nat):Int)else t) u λx y=>e x 0 y) λz=>bD f 1 l λab=>If (ab<t) (bD f 1 l λad=>bL (ad+1) λae=>bU f λaf=>aR af 1 (.I ae) l λag=>z ag) (z l))))
theorem Yu.o {a b c d e}(f:Yu.v a b c d e):Yu.c a b c d e:=Wa Tryz.func157 (x:=Yu.h) (R0 f)
def XZ.h:Hn:=.q .o1 (.q (.cR (.hO false [] [(2,.one .b)] (.take 0 (.all [(1,.take 2 (.split 5 (.tk [3,5,6,7] (.all [(4,.all [(8,.tk [9,10,11] (.done))]),(8,.all [(4,.tk [9,10,11] (.done))])])) (.tk [3,4,5,6,7,8,9,10,11] (.done))))])))) .l)
def XZ.v (a:R2)(b:Hp)(c:aO):Prop:=Jn [.b] (λ(d:Bool) e=>c d e) λf=>W5.c a b λg h=>If g (bU a λi=>(XE.c a h λj k=>aQ i 1 k λl=>f (decide (j>l)) k) ∧ (aQ i 1 h λm=>XE.c a h λn o=>f (decide (n>m)) o)) (f false h)
theorem XZ.o {a b c}(d:XZ.v a b c):XZ.c a b c:=Wa Tryz.func158 (x:=XZ.h) (R0 d)
def WW.h:Hn:=.q .o1 (.q .o3 .l)
def WW.v (a:R2)(b:Hp)(c:Sl->Hp->Prop):Prop:=W9.c a ⟨216,#[],#[]⟩ b λd e=>c d e
theorem WW.o {a b c}(d:WW.v a b c):WW.c a b c:=Wa Tryz.func159 (x:=WW.h) (R0 d)
def XC.h:Hn:=.q .o1 (.q .o3 .l)
def XC.v (a:R2)(b:Hp)(c:Sl->Hp->Prop):Prop:=W9.c a ⟨218,#[],#[]⟩ b λd e=>c d e
theorem XC.o {a b c}(d:XC.v a b c):XC.c a b c:=Wa Tryz.func164 (x:=XC.h) (R0 d)
def Xg.h:Hn:=.q .o2 (.q (.q .o3 .aJ) (.q .o4 (.q (.q .o2 .aJ) (.q .o3 .l))))
def Xg.v (a:R2)(b:Int)(c:Hp)(d:Option Addr->Int->Hp->Prop):Prop:=W5.c a c λe f=>If (!e) (d none 5 f) (Zl.c a b f λg h=>If g.isNone (d none 1 h) (d g 0 h))
theorem Xg.o {a b c d}(e:Xg.v a b c d):Xg.c a b c d:=Wa Tryz.func204 (x:=Xg.h) (R0 e)
def WT.h:Hn:=.q .o1 (.q (.q .o9 .aK) (.q (.o 11) .aM))
def WT.v (a:R2)(b:Sl)(c:Hp)(d:aN):Prop:=bE a 0 c λf=>bL (((f.len:Nat):Int)+((b.len:Nat):Int)) λg=>If (g>256) (d 6 c) (bE a 0 c λi=>Xd.c i c λj k=>App j 1 8 3 [.I 0] b k λl m=>bU a λn=>aR n 0 (.slice l.a l.len l.cap) m λo=>d 0 o)
theorem WT.o {a b c d}(e:WT.v a b c d):WT.c a b c d:=Wa Tryz.func212 (x:=WT.h) (R0 e)
def W0.h:Hn:=.q .o1 (.q .o8 (.q (.o 11) (.q (.cR (.tail 13 (RI.ops 13) [.op])) .aL)))
def W0.v (a:R2)(b:Int)(c:Hp)(d:Sl->Hp->Prop):Prop:=bE a 0 c λf=>eX f 1 0 b (f.cap:Nat) λg=>WC.c g c λh i=>bE a 0 i λk=>eX k 1 b (k.len:Nat) (k.cap:Nat) λl=>WC.c l i λm n=>bU a λo=>aR o 0 (.slice m.a m.len m.cap) n λp=>bD a 2 p λr=>bE a 0 p λt=>bU a λu=>aR u 2 (.I (if((t.len:Nat):Int)<r then((t.len:Nat):Int)else r)) p λv=>d h v
theorem W0.o {a b c d}(e:W0.v a b c d):W0.c a b c d:=Wa Tryz.func214 (x:=W0.h) (R0 e)
def W9.h:Hn:=.q .o1 (.q (.q .o3 .aK) (.q .o1 (.q (.q .o5 (.k (.loop [(5,.one .s)] (.q (.cR (.seq [.it .i64 .p,.op])) (.q (.c .l .l) (.k (.q (.cR (.seq [.it .i64 .p,.op,.op,.op,.op])) (.q (.o 12) (.q .o3 (.c .o7 .l)))))))))) (.q .o2 .aL))))
def W9.v (a:R2)(b:Fv)(c:Hp)(d:Sl->Hp->Prop):Prop:=W5.c a c λe f=>If (!e) (d ⟨none,0,0⟩ f) (bI a 2 f λh=>nA .i64 .p h f λi j=>Yo [.s] (λk=>k ⟨none,0,0⟩ j) λl (m:Sl) n=>ny .i64 .p i n (ZP.c m ⟨264,#[],#[]⟩ n λo=>d m o) (λp q r=>nM .i64 .p i r λs t=>bE a 0 r λv=>Ix v.a v.len s 3 λw=>aQ w 2 r λx=>VF Tryz.prog b [.pointer t,.I x] [.one .s] r λy z=>If (((y.len:Nat):Int)>0) (aV #[.I s,.slice y.a y.len y.cap] 135 z λaa ab=>App m 2 32 135 [.I 0,.slice none 0 0] ⟨some aa,1,1⟩ ab λac ad=>l ac ad) (l m z)))
theorem W9.o {a b c d}(e:W9.v a b c d):W9.c a b c d:=Wa Tryz.func215 (x:=W9.h) (R0 e)
def Xo.h:Hn:=.q .o1 (.q .o9 (.ka [] (.q .o6 (.c (.o 12) .l)) (.q .o9 .aL)))
def Xo.v (a:R2)(b:Int)(c:Hp)(d:Sl->Hp->Prop):Prop:=bD a 2 c λf=>bL (f+1) λg=>Nz 2<|bL (g.tdiv 2) λh=>W0.c a h c λi j=>Jn [] (λk=>bE a 0 k λm=>bU a λn=>aR n 2 (.I ((m.len:Nat):Int)) k λo=>d i o) λp=>bD a 1 j λr=>If (r>b) (bD a 1 j λt=>bL (t-b) λu=>bU a λv=>aR v 1 (.I (if b>u then b else u)) j λw=>p w) (p j)
theorem Xo.o {a b c d}(e:Xo.v a b c d):Xo.c a b c d:=Wa Tryz.func216 (x:=Xo.h) (R0 e)
def Yl.h:Hn:=.q .o1 (.q .o8 .l)
def Yl.v (a:R2)(b:Int)(c:Hp)(d:Sl->Hp->Prop):Prop:=bE a 0 c λf=>W0.c a ((f.len:Nat):Int) c λg h=>d g h
theorem Yl.o {a b c d}(e:Yl.v a b c d):Yl.c a b c d:=Wa Tryz.func218 (x:=Yl.h) (R0 e)
def Zl.h:Hn:=.q .o1 (.q (.q (.cR (.seq [.op,.op,.op,.op,.cX false 2 [.op,.op],.op,.cX false 7 (RI.ops 7)])) .aK) (.ka [] (.q .o7 (.c .o8 .l)) (.q .o7 .l)))
def Zl.v (a:R2)(b:Int)(c:Hp)(d:Option Addr->Hp->Prop):Prop:=W5.c a c λe f=>bW (λg h=>bW (λi j=>If i (d none j) (Jn [] (λk=>bI a 2 k λm=>Lk .i64 .p m b k λn=>d (n.getD none) k) λo=>bU a λp=>bB p 2 j λq=>Lk .i64 .p q b j λr=>If ((r.getD none).isNone) (bI a 2 j λt=>aV #[.slice none 0 0,.I 1,.I 0] 171 j λu v=>ke .i64 .p t b (some u) v λw=>o w) (o j))) λx=>If g (x true h) (bE a 0 h λz=>x (decide (b≥((z.len:Nat):Int))) h)) λaa=>If (!e) (aa true f) (aa (decide (b<0)) f)
theorem Zl.o {a b c d}(e:Zl.v a b c d):Zl.c a b c d:=Wa Tryz.func248 (x:=Zl.h) (R0 e)
end Go.Proofs
namespace Go.Ar
open Go Go.Vc Go.Proofs
theorem cU.sub {U:Hp}{F:Rg}{s:Sl}{sz:Nat}{xs:List Value}(h:cU s sz xs U F){lo hi mx:Nat}(h1:lo<=hi)(h2:hi<=s.len)(h3:hi<=mx) :
 cU ⟨if mx=lo then s.a else s.a.map (·.add (lo*sz)),hi-lo,mx-lo⟩ sz ((xs.drop (lo*sz)).take ((hi-lo)*sz)) U F:=by
 have g:=h.1;have e1:hi*sz<=s.len*sz:=lX _ h2;have e2:(hi-lo)*sz=hi*sz-lo*sz:=Nat.sub_mul _ _ _;have e:lo*sz<=hi*sz:=lX _ h1;refine⟨by rw[zZ,j2];simp only;omega,?_⟩;by_cases hm:mx=lo
 ·left;have:hi-lo=0:=by omega
  rw[this,uf,xy]
 ·rcases h.2 with h0|⟨b,o,cs,hb,ha,hq,hc⟩
  ·left;subst h0;simp
  ·refine .inr ⟨b,o+lo*sz,cs,hb,?_,hq,λj d=>?_⟩
   ·simp only[zB hm,ha,zX,add_lit]
   ·rw[zZ,j2]at d;rw[wI,hc _ O,zj,kO,zC O]
inductive tC where
 | hd|dD|mp
 | li (k:Nat)
 deriving DecidableEq
structure gO where
 p:Nat
 m:Nat
 dD:Sl
 ps:List (Nat×Nat)
def iQ (ps:List (Nat×Nat))(k:Nat):Option Nat:=(ps.find? λx=>x.1==k).map (·.2)
def jV (ps:List (Nat×Nat)):List (Int×Option Addr):=ps.map λx=>((x.1:Int),some ⟨x.2,0,none⟩)
def mH (s:Sl)(l:Li):List Value:=[.slice s.a s.len s.cap,.int .i64 (l.lim:Int),.int .i64 (l.low:Int)]
def iK (b:Nat)(l:Li):Hp->Rg->Prop:=λU F=>F b/\fI l/\∃s:Sl,bY U b (mH s l)/\cU s 1 (Wo l.os) U (λq=>F q/\q≠b)/\s.len<=s.cap
def nX (b:Option Nat)(l:Option Li):Hp->Rg->Prop:=λU F=>match b,l with
 | some b,some l=>iK b l U F
 | none,some l=>l=ib
 | _,none=>True
def yI (Y:gO)(bud:Nat):List Value:=[.slice Y.dD.a Y.dD.len Y.dD.cap,.int .i64 (bud:Int),.map (some Y.m)]
def CC (tb:List bZ)(bud:Nat)(ls:List Li)(Y:gO):tC->Hp->Rg->Prop
 | .hd=>iq Y.p (yI Y bud)
 | .dD=>cU Y.dD 3 (fX tb)
 | .mp=>jx Y.m .i64 .p (jV Y.ps)
 | .li k=>nX (iQ Y.ps k) ls[k]?
theorem iK.loc (b:Nat)(l:Li):dL (iK b l):=by
 rintro U y F G ⟨p,w,s,j,u,x⟩ m a;have i:=a b j.lt p;obtain⟨e,r⟩:=j;exact⟨i.1,w,s,⟨e,i.2.trans r⟩,cU.loc _ _ _ _ _ _ _ u m λq g d=>⟨⟨(a q g d.1).1,d.2⟩,(a q g d.1).2⟩,x⟩
theorem nX.loc (b:Option Nat)(l:Option Li):dL (nX b l):=by
 intro U σ' F G h hz hs;unfold nX at *;split at h
 ·exact iK.loc _ _ _ _ _ _ h hz hs
 ·exact h
 ·trivial
theorem CC.loc {tb:List bZ}{bud:Nat}{ls:List Li}{Y:gO}:∀i,dL (CC tb bud ls Y i)
 | .hd=>iq.loc _ _
 | .dD=>cU.loc _ _ _
 | .mp=>jx.loc _ _ _ _
 | .li k=>nX.loc _ _
structure eA (U:Hp) (F:Rg) (Y:gO) (tb:List bZ) (bud:Nat) (ls:List Li):Prop where
 mW:tb.length<=40
 ok:∀c∈tb,c.ok
 len:ls.length=tb.length
 keys:∀x∈Y.ps,x.1<tb.length
 sep:Sep (CC tb bud ls Y) U F
variable {U:Hp}{F G:Rg}{Y:gO}{tb:List bZ}{bud:Nat}{ls:List Li}{b k:Nat}{l:Li}
theorem eA.loc:dL λU F=>eA U F Y tb bud ls:=λU d F G h b a=>⟨h.mW,h.ok,h.len,h.keys,Sep.loc CC.loc _ _ _ _ h.sep b a⟩
theorem eA.bO {σ':Hp}(h:eA U F Y tb bud ls)(e:bK U σ'):eA σ' F Y tb bud ls:=dL.bO eA.loc h e
theorem eA.hd (h:eA U F Y tb bud ls):bY U Y.p (yI Y bud):=by
 obtain⟨G,b,a⟩:=h.sep.get .hd;exact a.2
theorem eA.jz (h:eA U F Y tb bud ls):cU Y.dD 3 (fX tb) U F:=by
 obtain⟨G,d,a⟩:=h.sep.get .dD;exact aH.mono a λb _ a=>d b a
theorem eA.oz (h:eA U F Y tb bud ls):Y.dD.len=tb.length:=by
 have:=h.jz.1;rw[VA]at this;omega
theorem eA.map (h:eA U F Y tb bud ls):dH U Y.m .i64 .p (jV Y.ps):=by
 obtain⟨G,b,a⟩:=h.sep.get .mp;exact a.2
theorem y7 (ps:List (Nat×Nat))(k:Nat):bV (α:=Option Addr) (jV ps) (k:Int)=(iQ ps k).map λb=>some ⟨b,0,none⟩:=by
 induction ps with
 | nil=>rfl
 | cons x l ih=>
  simp only[bV,jV,iQ,zS,uy]at *;have e:(((x.1:Nat):Int)==(k:Int))=(x.1==k):=ly _ _;rw[e];cases x.1==k
  ·exact ih
  ·rfl
theorem EW {ps:List (Nat×Nat)}(h:iQ ps k=none):∀x∈ps,x.1≠k:=by
 unfold iQ at h;simp only[qO,nR,zT]at h;exact h
theorem Ri {ps:List (Nat×Nat)}(h:iQ ps k=none)(b:Nat):dB (α:=Option Addr) (jV ps) (k:Int) (some ⟨b,0,none⟩)=jV (ps++[(k,b)]):=by
 unfold dB;rw[zB]
 ·simp[jV]
 ·simp only[jV,List.any_map,kb,Function.comp,zT,not_exists,not_and];intro x hx e;exact EW h x hx O
theorem Uh {ps:List (Nat×Nat)}(h:iQ ps k=none)(b j:Nat):iQ (ps++[(k,b)]) j=if j=k then some b else iQ ps j:=by
 have a:=EW h;unfold iQ at *;rw[List.find?_append];by_cases hj:j=k
 ·subst hj;have:ps.find? (λx=>x.1==j)=none:=by simpa using h
  rw[this];simp
 ·rw[zB hj];cases hf:ps.find? (λx=>x.1==j)with
  | none=>
   have:(k==j)=false:=by simpa using λe=>hj e.symm
   simp[this]
  | some x=>simp
theorem Es {ps:List (Nat×Nat)}(hn:((jV ps).map (·.1)).Nodup)(h:(k,b)∈ps):iQ ps k=some b:=by
 induction ps with
 | nil=>simp at h
 | cons x l ih=>
  simp only[jV,zS,zr]at hn;unfold iQ;rw[uy];rcases zW.1 h with rfl|h
  ·simp
  ·have:(x.1==k)=false:=by
    have:x.1≠k:=λe=>hn.1 (zE.2 ⟨(((k:Nat):Int),some ⟨b,0,none⟩),zE.2 ⟨(k,b),h,rfl⟩,by rw[e]⟩);simpa using this
   rw[this];exact ih hn.2 h
theorem UR (h:eA U F Y tb bud ls){R:aO}(hR:R true U):W5.c (aW Y.p) U R:=by
 refine W5.o ?_;unfold W5.v;exact bW.intro (cE rfl (aG (h.hd.rM rfl hR)))
theorem eA.wa (h:eA U F Y tb bud ls)(hb:iQ Y.ps k=some b)(hl:ls[k]?=some l):∃G:Rg,(∀q,G q->F q)/\iK b l U G/\¬G Y.m ∧
 ∀(σ':Hp) (l':Li) (G':Rg),Ext G U σ'->(∀q,G' q->Grow G U q)->iK b l' σ' G'->Ext F U σ'/\eA σ' (λq=>F q/\q<U.size/\¬G q\/G' q) Y tb bud (ls.set k l'):=by
 have i:=(cW.1 hl).1;obtain⟨G,s,g,a,d⟩:=h.sep.jW CC.loc (.li k);have g:iK b l U G:=by
  simp only[CC,nX,hb,hl]at g;exact g
 have r:¬G Y.m:=by
  obtain⟨H,_,hd,p⟩:=a .mp (by intro e;cases e);exact hd _ p.1
 refine⟨G,s,g,r,λσ' l' G' e u x=>⟨e.sub s,h.mW,h.ok,by rw[nQ];exact h.len,h.keys,?_⟩⟩;refine d σ' (CC tb bud (ls.set k l') Y) G' (λj w=>?_) e u ?_ (CC.loc _)
 ·cases j<;>try rfl
  rename_i m;have r:m≠k:=λe=>w (by rw[e]);simp only[CC,zk (Ne.symm r)]
 ·simp only[CC,nX,hb,zL i];exact x
theorem eA.mono (h:eA U F Y tb bud ls)(hs:∀q,q<U.size->F q->G q):eA U G Y tb bud ls:=dL.mono eA.loc h hs
theorem eA.cut (h:eA U F Y tb bud ls):eA U (Cut F U) Y tb bud ls:=dL.cut eA.loc h
theorem eA.fB {v:Hp}(h:eA v (Grow F U) Y tb bud ls)(e0:Ext F U v)(hb:iQ Y.ps k=some b)(hl:ls[k]?=some l):∃G:Rg,iK b l v G ∧
 ∀(σ':Hp) (l':Li) (G':Rg),Ext G v σ'->(∀q,G' q->Grow G v q)->iK b l' σ' G'->Ext F U σ'/\eA σ' (Grow F U) Y tb bud (ls.set k l'):=by
 obtain⟨G,m,p,_,a⟩:=h.wa hb hl;refine⟨G,p,λσ' l' G' e i g=>?_⟩;obtain⟨e1,j⟩:=a σ' l' G' e i g;refine⟨e0.jk e1,j.mono λq _ d=>?_⟩;have:=e0.1;rcases d with d|d
 ·exact d.1
 ·rcases i q d with h2|h2
  ·exact m q h2
  ·exact .inr O
theorem Rf (h:eA U F Y tb bud ls)(hk:k<tb.length){R:Option Addr->Hp->Prop}(hR:∀σ' Y' b,Ext F U σ'->Y'.p=Y.p->iQ Y'.ps k=some b->eA σ' (Grow F U) Y' tb bud ls->R (some ⟨b,0,none⟩) σ') :
 Zl.c (aW Y.p) (k:Int) U R:=by
 refine Zl.o ?_;unfold Zl.v;have J:k<ls.length:=by rw[h.len];exact hk
 have D:ls[k]?=some ls[k]:=cV J;generalize ls[k]=l at D;have N:=h.oz;refine UR h (bW.intro (cB rfl ?_));refine bW.intro (fR O (aG (h.hd.rS rfl ?_)));refine fR aC ?_;refine Jn.intro (aG (h.hd.rM rfl ⟨_,h.map,?_⟩));rw[y7];cases hf:iQ Y.ps k with
 | some b=>
  refine cB rfl (aG (h.hd.rM rfl ⟨_,h.map,?_⟩));rw[y7,hf];exact hR U Y b (Ext.refl _ _) rfl hf (h.mono λq _ a=>.inl a)
 | none=>
  refine cE rfl (aG (h.hd.rM rfl (nw (cs:=[.slice none 0 0,.int .i64 1,.int .i64 0]) λv S e C=>?_)));obtain⟨G,H,u,Q,hd,g,w,s⟩:=h.cut.sep.oA CC.loc .mp (.li k) (by intro e;cases e);have L:∀q,G q->F q:=λq a=>(u q a).1;have g:jx Y.m .i64 .p (jV Y.ps) U G:=g;have w:l=ib:=by
   simp only[CC,nX,hf,D]at w;exact w
  have M:=g.2.lt;have z:dH v Y.m .i64 .p (jV Y.ps):=e.fO g.2 id;refine⟨Y.m,_,rfl,z,λv2 B r=>?_⟩;rw[Ri hf]at r;have e2:Ext F U v2:=(bK.to e).only B (.inl (L _ g.1));have A:Ext (λq=>G q\/H q) U v2:=(bK.to e).only B (.inl (.inl g.1));have E:bY v2 U.size [.slice none 0 0,.int .i64 1,.int .i64 0]:=Ws B C O;have d:eA v2 (Grow F U) {Y with ps:=Y.ps++[(k,U.size)]} tb bud ls:=by
   refine⟨h.mW,h.ok,h.len,λx i=>?_,?_⟩
   ·rcases zK.1 i with i|i
    ·exact h.keys x i
    ·simp only[zN]at i;subst i;exact hk
   refine(Sep.loc CC.loc).mono (s v2 (CC tb bud ls {Y with ps:=Y.ps++[(k,U.size)]}) G (· = U.size) (λj y K=>?_) A (λq a=>.inl (.inl a)) (λq a=>.inr O) (λq y K=>?_) ⟨g.1,r⟩ ?_ CC.loc) λq _ a=>?_
   ·cases j<;>first|rfl|exact absurd rfl y|skip
    rename_i m;have P:m≠k:=λe=>K (by rw[e]);simp only[CC,Uh hf,zB P]
   ·have:=(u q y).2;omega
   ·simp only[CC,Uh hf,zR,D,w,nX];exact⟨rfl,fI.nil,⟨none,0,0⟩,E,cU.nil _ _ _ _,zD _⟩
   ·rcases a with a|a|a
    ·exact .inl a.1.1
    ·exact .inl (L q a)
    ·exact .inr O
  refine aG (d.hd.rM rfl ⟨_,d.map,?_⟩);rw[y7,Uh hf,zC rfl];exact hR v2 {Y with ps:=Y.ps++[(k,U.size)]} U.size e2 rfl (by show iQ (Y.ps++[(k,U.size)]) k=_;rw[Uh hf,zC rfl]) d
theorem Ga (h:eA U F Y tb bud ls)(hk:k<tb.length){R:Option Addr->Int->Hp->Prop}(hR:∀σ' Y' b,Ext F U σ'->Y'.p=Y.p->iQ Y'.ps k=some b->eA σ' (Grow F U) Y' tb bud ls->R (some ⟨b,0,none⟩) 0 σ') :
 Xg.c (aW Y.p) (k:Int) U R:=by
 refine Xg.o ?_;unfold Xg.v;exact UR h (cB rfl (Rf h hk λσ' Y' b e d a g=>cB rfl (hR σ' Y' b e d a g)))
theorem bR.qy {s:Sl}{sz:Nat}{xs:List Value}(h:bR s sz xs U F):s.len<=s.cap:=by
 rcases h.2 with⟨q1,q2⟩|⟨_,_,_,_,_,q,_⟩
 ·omega
 ·exact q
theorem Hx (h:iK b l U G){m:Nat}(hm:m<=l.os.length){R:Sl->Hp->Prop}
 (hR:∀s z σ',Ext (· = b) U σ'->U.size<=z->bR s 1 (Wo (l.os.take m)) σ' (λq=>U.size<=q/\q<z)->iK b (fZ m l).2 σ' (λq=>q=b\/z<=q)->R s σ') :
 W0.c (aW b) (m:Int) U R:=by
 refine W0.o ?_;unfold W0.v;obtain⟨W,e,s,J,A,X⟩:=h;have M:s.len=l.os.length:=by have:=A.1;simp[Wo]at this;omega
 have y:=e.many;have K:=e.low;have g:=cU.sub A (lo:=0) (hi:=m) (mx:=s.cap) O O O;have e1:((Wo l.os).drop (0*1)).take ((m-0)*1)=Wo (l.os.take m):=by simp[Wo]
 rw[e1]at g;refine aG (J.rS rfl (iR (lo:=0) O aC aC (UX g Vv aC λs1 L S x B=>?_)));have p:=x.bT J id;have H:=aH.bO A x;have u:=cU.sub H (lo:=m) (hi:=s.len) (mx:=s.cap) O O O;have e2:((Wo l.os).drop (m*1)).take ((s.len-m)*1)=Wo (l.os.drop m):=by
  rw[mT (by simp[Wo];omega)];simp[Wo]
 rw[e2]at u;refine aG (p.rS rfl (iR aC aC aC (UX u Vv aC λs2 P E D i=>?_)));have F:=D.bT p id;refine aG (F.s1 (by simp[mH]) λv3 o3 d=>aG (d.rI rfl (aG (d.rS rfl (aG (d.s1 (by simp[mH]) λv4 o4 w=>?_))))));have a:Ext (· = b) P v4:=o3.ext.trans o4.ext;have V:=J.lt;have C:=x.1;have j:s2.len=l.os.length-m:=by rw[E];simp only;omega
 refine hR s1 L.size v4 ((bK.to (x.trans D)).trans a) C ?_ ⟨.inl rfl,xD e,s2,?_,?_,bR.qy i⟩
 ·refine aI.bS (aI.bO (aI.mono B (G:=λq=>U.size<=q/\q<L.size) λq r N=>⟨N,r⟩) D) a λq _ r Q=>by omega
 ·have:(if((s2.len:Nat):Int)<(l.low:Int)then((s2.len:Nat):Int)else(l.low:Int))=((min l.low (l.os.length-m):Nat):Int):=by rw[j];split<;>omega
  rw[this]at w;exact w
 ·refine aH.mono (aH.bS i.gZ a λq _ r Q=>O) λq _ r=>⟨.inr r,O⟩
theorem M5 (h:iK b l U G){sl:Sl}{xs:List Int}{X:Rg}(hs:cU sl 1 (Wo xs) U X)(hx:xs≠[])(hfit:l.os.length+xs.length<=256){R:aN}
 (hR:∀σ',Ext (· = b) U σ'->iK b (eC xs l) σ' (λq=>q=b\/U.size<=q)->R 0 σ'):WT.c (aW b) sl U R:=by
 refine WT.o ?_;unfold WT.v;obtain⟨J,w,s,g,d,K⟩:=h;have A:s.len=l.os.length:=by have:=d.1;simp[Wo]at this;omega
 have D:sl.len=xs.length:=by have:=hs.1;simp[Wo]at this;omega
 have y:=pI.2 hx;have z:eC xs l = {l with os:=l.os++xs}:=by unfold eC;rw[zB O]
 refine aG (g.rS rfl (cP (m:=l.os.length+xs.length) aC O (fR O (aG (g.rS rfl ?_)))));refine Xd.o ?_;unfold Xd.v;refine iR (lo:=0) aC aC aC ?_;have F:=g.lt;refine⟨Wo l.os,Wo xs,by simp[Wo];omega,by simp[Wo];omega,?_,hs.rd,Vv,?_,by simp only;omega,λi=>by simp only at i;omega,λx c r=>?_⟩
 ·by_cases h0:s.len=0
  ·have:l.os=[]:=vN.1 O;rw[this];simp only[h0,zR];cases s.a<;>simp[Rd,Wo]
  ·simp only[zB h0,uf];have:=d.rd;cases ha:s.a with
   | none=>rw[ha]at this;simpa[Rd]using this
   | some a=>rw[ha]at this;simpa[Rd,Addr.add_zero']using this
 ·simp only;have:(s.len-0+sl.len)*8<=256*8:=lW O O;omega
 ·refine nw λv H e p=>aG ((e.bT g id).s1 (by simp[mH]) λC o2 u=>?_);have B:l.os.length+xs.length<=c:=by simp only at r;omega
  refine hR C ((bK.to e).trans o2.ext) ?_;rw[z];have:=ya (xs:=xs) w;rw[z]at this;refine⟨.inl rfl,this,⟨some ⟨U.size,0,none⟩,s.len-0+sl.len,c⟩,u,⟨by simp[Wo];omega,.inr ⟨U.size,0,_,⟨.inr (zD _),O⟩,rfl,(Ws o2 p O).q,λj E=>?_⟩⟩,by simp only;omega⟩;simp only[Wo,zl,zO]at E;rw[zH,j3,←j3,ze (by simp[Wo];omega)];simp[Wo]
theorem RY (h:iK b l U G){sl:Sl}{xs:List Int}{X:Rg}(hs:cU sl 1 (Wo xs) U X)(hfit:¬l.os.length+xs.length<=256)(hxs:xs.length<=1000000){R:aN}
 (hR:R 6 U):WT.c (aW b) sl U R:=by
 refine WT.o ?_;unfold WT.v;obtain⟨p,a,s,g,d,j⟩:=h;have i:s.len=l.os.length:=by have:=d.1;simp[Wo]at this;omega
 have e:sl.len=xs.length:=by have:=hs.1;simp[Wo]at this;omega
 have:=a.many;exact aG (g.rS rfl (cP (m:=l.os.length+xs.length) aC O (lA O hR)))
end Go.Ar
namespace Go.Ar
open Go Go.Vc Go.Proofs
variable {U:Hp}{F G:Rg}{Y:gO}{tb:List bZ}{bud:Nat}{ls:List Li}{b k:Nat}{l:Li}{c:bZ}
theorem eA.cls (h:eA U F Y tb bud ls)(hc:tb[k]?=some c):c.ok/\k<tb.length:=⟨h.ok c (zG hc),(cW.1 hc).1⟩
theorem iK.st {v:Hp}(h:iK b l U G){s:Sl}{l':Li}(ho:Ext (· = b) U v)(hb:bY v b (mH s l'))(hs:cU s 1 (Wo l'.os) U (λq=>G q/\q≠b))(hc:s.len<=s.cap)(ok:fI l'):iK b l' v G:=
 ⟨h.1,ok,s,hb,aH.bS hs ho λq _ a d=>a.2 d,hc⟩
theorem kG (h:eA U F Y tb bud ls)(hc:tb[k]?=some c)(hl:ls[k]?=some l){R:Int->Int->Hp->Prop}
 (hR:∀σ' Y',Ext F U σ'->Y'.p=Y.p->eA σ' (Grow F U) Y' tb bud (ls.set k (QX c l).2)->R ((QX c l).1.getD 0) (if(QX c l).1.isSome then 0 else 4) σ'):X3.c (aW Y.p) (k:Int) U R:=by
 obtain⟨w,hk⟩:=h.cls hc;refine X3.o ?_;unfold X3.v;refine Ga h hk λv Y' b e hp hb W=>cB rfl ?_;obtain⟨G,hL,M⟩:=W.fB e hb hl;have A:=hL;obtain⟨X,i,s,g,C,u⟩:=hL;have H:=W.hd;rw[hp]at H;have S:s.len=l.os.length:=by have:=C.1;simp[Wo]at this;omega
 have o1:=i.low;have o2:=i.many;have o3:=i.lim;have o4:=i.nm;have a:=Fj w i;have fin:∀v' G',Ext G v v'->(∀q,G' q->Grow G v q)->iK b (QX c l).2 v' G'->R ((QX c l).1.getD 0) (if(QX c l).1.isSome then 0 else 4) v':=λv' G' V hg Q=>by
  obtain⟨e2,h2⟩:=M v' _ G' V hg Q;exact hR v' Y' e2 hp h2
 unfold bZ.ok at w;have z:∀{v':Hp},Ext (· = b) v v'->Ext G v v':=λV=>V.sub λq y=>by rw[y];exact X
 refine aG (g.rS rfl ?_);by_cases h0:l.os=[]
 ·have e1:(QX c l).1=none:=by unfold QX;rw[h0];rfl
  have e2:(QX c l).2=if l.lim<c.batch then{l with lim:=l.lim+1}else{l with lim:=min (l.lim+c.batch) 128}:=by unfold QX;rw[h0];rfl
  rw[e1,e2]at fin;rw[e2]at a;refine cE (by simp[S,h0]) (aG (H.rS rfl (sN W.jz hc (d:=2) O ?_)));simp only[zB (show ¬(2=0) by omega),zB (show ¬(2=1) by omega)];refine aG (g.rI rfl (cQ (λc1=>?_) λc1=>?_))
  ·have B:l.lim<c.batch:=by omega
   rw[zC B]at fin a;refine aG (g.rI rfl (cP (m:=l.lim+1) O O (aG (g.s1 (by simp[mH]) λv' K j=>?_))));exact fin v' G (z K.ext) (λq y=>.inl y) (A.st K.ext j C u a)
  ·have B:¬l.lim<c.batch:=by omega
   rw[zB B]at fin a;refine aG (g.rI rfl (cP (m:=l.lim+c.batch) O O (aG (g.s1 (by simp[mH]) λv' K j=>?_))));refine fin v' G (z K.ext) (λq y=>.inl y) (A.st K.ext ?_ C u a);have:(if(128:Int)<((l.lim+c.batch:Nat):Int)then(128:Int)else((l.lim+c.batch:Nat):Int))=((min (l.lim+c.batch) 128:Nat):Int):=by split<;>omega
   rw[this]at j;exact j
 ·have aa:=pI.2 h0;obtain⟨x,Z⟩:∃x,l.os[l.os.length-1]?=some x:=⟨_,cV O⟩;have L:l.os.getLast?=some x:=by rw[List.getLast?_eq_getElem?];exact Z
  have e1:(QX c l).1=some x:=by unfold QX;rw[L]
  have e2:(QX c l).2 = {l with os:=l.os.dropLast,low:=min l.low (l.os.length-1)}:=by unfold QX;rw[L]
  rw[e1,e2]at fin;rw[e2]at a;refine cB (by simp only[mj];omega) ?_;refine aG (g.rS rfl (cP (m:=l.os.length-1) aC O (aG (g.rS rfl (C.mY Z (aG (g.rS rfl ?_)))))));have r:=cU.sub C (lo:=0) (hi:=l.os.length-1) (mx:=s.cap) O O O;have ed:((Wo l.os).drop (0*1)).take ((l.os.length-1-0)*1)=Wo l.os.dropLast:=by simp[Wo,xS]
  rw[ed]at r;refine iR (lo:=0) O aC aC (aG (g.s1 (by simp[mH]) λv1 P E=>aG (E.rI rfl (aG (E.s1 (by simp[mH]) λv2 N J=>?_)))));have D:=P.ext.trans N.ext;refine fin v2 G (z D) (λq y=>.inl y) (A.st D ?_ r aC a);have:(if((l.os.length-1:Nat):Int)<(l.low:Int)then((l.os.length-1:Nat):Int)else(l.low:Int))=((min l.low (l.os.length-1):Nat):Int):=by split<;>omega
  rw[this]at J;exact J
theorem Sc (h:eA U F Y tb bud ls)(hc:tb[k]?=some c)(hl:ls[k]?=some l){R:Int->Int->Hp->Prop}
 (hR:∀σ' Y',Ext F U σ'->Y'.p=Y.p->eA σ' (Grow F U) Y' tb bud ls->R ((GD c l:Nat):Int) 0 σ'):X6.c (aW Y.p) (k:Int) U R:=by
 obtain⟨j,w⟩:=h.cls hc;refine X6.o ?_;unfold X6.v;refine Ga h w λv Y' b e m z g=>cB rfl ?_;obtain⟨G,A,r⟩:=g.fB e z hl;obtain⟨x,y,s,i,B,u⟩:=A;have a:=g.hd;rw[m]at a;refine aG (i.rI rfl (aG (a.rS rfl (sN g.jz hc (d:=2) O ?_))));simp only[zB (show ¬(2=0) by omega),zB (show ¬(2=1) by omega)];have:(if(c.batch:Int)<(l.lim:Int)then(c.batch:Int)else(l.lim:Int))=((GD c l:Nat):Int):=by unfold GD;split<;>omega
 rw[this];exact hR v Y' e m g
theorem JB (l:List Int)(i:Nat)(h:i<l.length):l.reverse[i]?=l[l.length-1-i]? := by
 rw[List.getElem?_reverse h]
theorem Oe {s:Sl}{xs:List Int}(h:bR s 1 (Wo xs) U F)(hlen:xs.length<=1000000){R:aP}(hR:∀σ',Ext F U σ'->bR s 1 (Wo xs.reverse) σ' F->R σ'):WR.c s U R:=by
 refine WR.o ?_;unfold WR.v;have K:s.len=xs.length:=by have:=h.1;simp[Wo]at this;omega
 let iZ (i:Nat):List Int:=(List.range xs.length).map λj=>if j<i\/xs.length-i<=j then xs.getD (xs.length-1-j) 0 else xs.getD j 0
 have kT:∀i,(iZ i).length=xs.length:=λi=>by simp[iZ]
 have bV:∀i j,j<xs.length->(iZ i)[j]?=some (if j<i\/xs.length-i<=j then xs.getD (xs.length-1-j) 0 else xs.getD j 0):=λi j e=>by simp[iZ,e]
 have M:iZ 0=xs:=by
  apply zo;intro j;by_cases e:j<xs.length
  ·rw[bV 0 j e,zB O];simp[zP,cV e]
  ·rw[zV (by rw[kT];omega),zV O]
 have w:∀i,xs.length<=2*i+1->i<=xs.length->iZ i=xs.reverse:=by
  intro i G J;apply zo;intro j;by_cases e:j<xs.length
  ·rw[bV i j e,JB xs j e,zP,zP,cV (show xs.length-1-j<xs.length by omega),cV e];split
   ·rfl
   ·have:xs.length-1-j=j:=by omega
    simp only[this];rfl
  ·rw[zV (by rw[kT];omega),zV aE]
 have step:∀i,2*i+1<xs.length->((iZ i).set i (xs.getD (xs.length-1-i) 0)).set (xs.length-1-i) (xs.getD i 0)=iZ (i+1):=by
  intro i hi;apply zo;intro j;by_cases e:j<xs.length
  ·rw[bV (i+1) j e,mJ,mJ];simp only[nQ,kT];by_cases e1:xs.length-1-i=j
   ·subst e1;rw[zC rfl,zC O,zC O]
    congr 2;omega
   ·rw[zB e1];by_cases e2:i=j
    ·subst e2;rw[zC rfl,zC O,zC O]
    ·rw[zB e2,bV i j e];by_cases e3:j<i\/xs.length-i<=j
     ·rw[zC e3,zC O]
     ·rw[zB e3,zB O]
  ·rw[zV (by simp[kT];omega),zV (by rw[kT];omega)]
 refine yo ?_;rw[Uj O O];refine UC (a:=bN) (bb:=bN) (λ(i j:Int) v=>∃n:Nat,i=(n:Int)/\j=(xs.length:Int)-1-n/\n<=xs.length/\Ext F U v/\bR s 1 (Wo (iZ n)) v F) (λi _ _=>xs.length-i.toNat) ⟨0,rfl,O,O,Ext.refl _ _,by rw[M];exact h⟩ ?_;rintro i j v ⟨n,rfl,rfl,W,ev,r⟩;refine cQ (λN=>?_) λL=>?_
 ·have z:2*n+1<xs.length:=by omega
  have B:(xs.length:Int)-1-n=((xs.length-1-n:Nat):Int):=by omega
  rw[B];have C:=bV n (xs.length-1-n) O;have D:=bV n n O;rw[zB O]at C D;rw[zP]at C D;obtain⟨b,p⟩:∃b,s.a=some ⟨b,0,none⟩:=by
   rcases r.2 with⟨q1,q2⟩|⟨b,cs,_,A,_⟩
   ·omega
   ·exact⟨b,A⟩
  have g:∀u,bR s 1 (Wo (iZ n)) u F->∀(j:Nat) (x:Int),(iZ n)[j]?=some x->cell u (Addr.add ⟨b,0,none⟩ ((j:Int).toNat*1))=some (.int .i64 x):=λu y j x P=>by
   obtain⟨H,o,A,Q⟩:=y.gZ.cell (j:=j) (v:=.int .i64 x) (by simp[Wo,P]);rw[p]at A;cases A;rw[add_lit,show 0+(j:Int).toNat*1=0+j by omega];exact Q
  rw[p];refine⟨λu=>bR s 1 (Wo (iZ n)) u F,r,?_⟩;refine ix O O ⟨_,λu y=>g u y _ _ C,?_⟩;refine ix O O ⟨_,λu y=>g u y _ _ D,?_⟩;refine ix O O ?_;refine r.st (j:=n) (by simp[Wo,kT];omega) (λH d=>by rw[p]at d;cases d;rw[add_lit];simp) λV e1 G=>?_;refine ix O O ?_;refine G.st (j:=xs.length-1-n) (by simp[Wo,kT];omega) (λH d=>by rw[p]at d;cases d;rw[add_lit];simp) λS e2 J=>?_;refine cP (m:=n+1) O O (cP (m:=xs.length-1-n-1) O O ⟨⟨n+1,rfl,O,O,(ev.trans e1).trans e2,?_⟩,O⟩);rw[←step n z,zP,zP];have E:∀(l:List Int) (i:Nat) (x:Int),Wo (l.set i x)=(Wo l).set i (.int .i64 x):=λl i x=>by simp[Wo,vB]
  rw[E,E];exact J
 ·rw[w n O O]at r;exact hR v ev r
theorem RE (h:iK b l U G){sl:Sl}(hz:sl.len=0){R:aN}(hR:∀σ',Ext (· = b) U σ'->iK b l σ' G->R 0 σ'):WT.c (aW b) sl U R:=by
 refine WT.o ?_;unfold WT.v;have B:=h;obtain⟨D,j,s,z,g,E⟩:=h;have w:s.len=l.os.length:=by have:=g.1;simp[Wo]at this;omega
 have p:=j.many;refine aG (z.rS rfl (cP (m:=l.os.length) aC O (fR O (aG (z.rS rfl ?_)))));refine Xd.o ?_;unfold Xd.v;refine iR (lo:=0) aC aC aC ?_;have d:=cU.sub g (lo:=0) (hi:=s.len) (mx:=s.len) O O O;have C:((Wo l.os).drop (0*1)).take ((s.len-0)*1)=Wo l.os:=by rw[w,mT (by simp[Wo])];simp
 rw[C]at d;have key:∀(e:Sl),cU e 1 (Wo l.os) U (λq=>G q/\q≠b)->e.len<=e.cap->bU (some ⟨b,0,none⟩) λu=>dW (u.add 0) (.slice e.a e.len e.cap) U λv2=>R 0 v2:=λe y x=>by
  refine aG (z.s1 (by simp[mH]) λv2 o2 r=>hR v2 o2.ext ?_);exact B.st (l':=l) (s:=e) o2.ext r y x j
 refine⟨Wo l.os,[],by simp[Wo];omega,by simp[hz],d.rd,by cases sl.a<;>simp[Rd],by simp,?_,by simp only;omega,λA=>?_,λi=>absurd (by simp only[hz];omega) i⟩
 ·simp only[hz];have:(s.len-0+0)*8<=256*8:=lW O O;omega
 ·simp only[hz,j0];cases ha:(if s.len=0 then s.a else s.a.map (·.add (0*1)))
  ·rw[ha]at d;exact key ⟨none,s.len-0,s.len-0⟩ d (zD _)
  ·rw[ha]at d;exact key ⟨some _,s.len-0,s.len-0⟩ d (zD _)
theorem Fy (h:iK b l U G){sl:Sl}{xs:List Int}{X:Rg}(hs:cU sl 1 (Wo xs) U X)(hfit:l.os.length+xs.length<=256){R:aN}
 (hR:∀σ',Ext (· = b) U σ'->iK b (eC xs l) σ' (Grow G U)->R 0 σ'):WT.c (aW b) sl U R:=by
 by_cases hx:xs=[]
 ·subst hx;have g:eC [] l=l:=by unfold eC;rw[zB (by simp only[lN]at hfit ⊢;omega)];simp
  refine RE h (by have:=hs.1;simp[Wo]at this;omega) λσ' e d=>hR σ' e ?_;rw[g];exact(iK.loc _ _).mono d λq _ a=>.inl a
 ·exact M5 h hs hx hfit λσ' e d=>hR σ' e ((iK.loc _ _).mono d λq _ a=>a.imp (λe=>by rw[e];exact h.1) id)
theorem Pd (h:eA U F Y tb bud ls)(hc:tb[k]?=some c)(hl:ls[k]?=some l){sl:Sl}{xs:List Int}{X:Rg}(hs:cU sl 1 (Wo xs) U X)(hX:∀q,X q->¬F q)(hfit:l.os.length+xs.length<=256){R:aN}
 (hR:∀σ' Y',Ext F U σ'->Y'.p=Y.p->eA σ' (Grow F U) Y' tb bud (ls.set k (eC xs.reverse l))->R 0 σ'):XS.c (aW Y.p) (k:Int) sl U R:=by
 obtain⟨s,w⟩:=h.cls hc;have z:sl.len=xs.length:=by have:=hs.1;simp[Wo]at this;omega
 refine XS.o ?_;unfold XS.v;refine Ga h w λv Y' b e C D y=>cB rfl ?_;have i:=aH.bS hs e λq _ a=>hX q a;refine UX i Vv O λs1 H B e1 r=>?_;refine Oe r O λv2 e2 j=>?_;have g:bK v v2:=Ext.fresh e1 e2 λq a=>a;obtain⟨G,u,d⟩:=(y.bO g).fB (e.trans (bK.to g)) D hl;refine Fy u j.gZ aE λv3 A m=>?_;obtain⟨x,E⟩:=d v3 _ _ (A.sub λq a=>a▸u.1) (λq a=>a) m;exact hR v3 Y' x C E
theorem Z5 {α:Type}{ls:List α}{k:Nat}{l:α}(h:ls[k]?=some l):ls.set k l=ls:=by
 apply zo;intro j;by_cases hj:j=k
 ·subst hj;rw[zL (cW.1 h).1,h]
 ·rw[zk (Ne.symm hj)]
theorem RN (h:eA U F Y tb bud ls)(hc:tb[k]?=some c)(hl:ls[k]?=some l)(x:Int){R:Sl->Int->Hp->Prop}
 (hR:∀σ' Y' s e (Q:Rg),Ext F U σ'->Y'.p=Y.p->(l.os.length+1<=256->e=0)->(∀q,Q q->U.size<=q)->bR s 1 (Wo (dJ c x l).1) σ' Q->eA σ' (λq=>Grow F U q/\¬Q q) Y' tb bud (ls.set k (dJ c x l).2)->R s e σ'):Yu.c (aW Y.p) (k:Int) x U R:=by
 obtain⟨Z,hk⟩:=h.cls hc;refine Yu.o ?_;unfold Yu.v;refine Ga h hk λv Y' b e hp hb h'=>cB rfl ?_;have hσv:=e.1;obtain⟨G,hG,hL,_,ad⟩:=h'.wa hb hl;have hblt:b<v.size:=by obtain⟨_,_,s,hbk,_⟩:=hL;exact hbk.lt
 have u:=hL.1;have aa:=hL.2.1;have hmany:=aa.many;have r:∀(σ':Hp) (l':Li) (G':Rg),Ext G v σ'->(∀q,G' q->Grow G v q)->iK b l' σ' G'->Ext F U σ'/\eA σ' (λq=>Grow F U q/\q<v.size/\¬G q\/G' q) Y' tb bud (ls.set k l'):=λσ' l' G' e' hg hL'=>by
  obtain⟨e1,h1⟩:=ad σ' l' G' e' hg hL';exact⟨e.jk e1,h1⟩
 have hin:∀{G':Rg} {q:Nat},(∀q,G' q->Grow G v q)->(Grow F U q/\q<v.size/\¬G q\/G' q)->Grow F U q:=λhg a=>by
  rcases a with a|a
  ·exact a.1
  ·rcases hg _ a with H|H
   ·exact hG _ H
   ·exact .inr O
 refine nw (cs:=[.int .i64 x]) λv1 hz1 e1 hb1=>?_;have S:=(iK.loc _ _).bO hL e1;have P:cU ⟨some ⟨v.size,0,none⟩,1,1⟩ 1 (Wo [x]) v1 (· = v.size):=hb1.gZ (o:=0) rfl (by simp[Wo]) (λj hj=>by
  simp only[Wo,zS,qs,zY,lN]at hj ⊢;rw[zH])
 by_cases hfit:l.os.length+1<=256
 ·refine Fy S P (by simpa using hfit) λv2 e2 B=>cB rfl ?_;have E:Ext G v v2:=(bK.to e1).trans (e2.sub λq a=>a▸u);have X:∀q,Grow G v1 q->Grow G v q:=λq a=>a.imp id λN=>by omega
  obtain⟨eF2,H⟩:=r v2 _ _ E X B;have i:(eC [x] l).os=l.os++[x]/\(eC [x] l).lim=l.lim/\(eC [x] l).low=l.low:=by unfold eC;rw[zB (by simp only[zY,lN];omega)];exact⟨rfl,rfl,rfl⟩
  have y:=B;obtain⟨_,ok2,s2,g,ab,C⟩:=B;have hs2l:s2.len=l.os.length+1:=by have:=ab.1;simp[Wo,i.1]at this;omega
  refine aG (g.rS rfl (aG (g.rI rfl ?_)));rw[i.2.1];refine cQ (λc1=>?_) λc1=>?_
  ·have D:l.os.length+1<=l.lim:=by simp only at c1;omega
   have w:dJ c x l=([],eC [x] l):=by unfold dJ;rw[zB O,zC D]
   refine hR v2 Y' _ 0 (λ_=>False) eF2 hp (λ_=>rfl) (λq a=>a.elim) (by rw[w];exact bR.nil _ _ _ _) ?_;rw[w];exact H.mono λq _ a=>⟨hin X a,id⟩
  ·have D:¬l.os.length+1<=l.lim:=by simp only at c1;omega
   have w:dJ c x l=fZ (min c.batch (l.os.length+1)) (l9 c (eC [x] l)):=by unfold dJ;rw[zB O,zB D]
   have L:=H.hd;rw[hp]at L;refine aG (L.rS rfl (sN H.jz hc (d:=2) O ?_));simp only[zB (show ¬(2=0) by omega),zB (show ¬(2=1) by omega)];refine Jn.intro ?_;have A:∀v3,Ext (· = b) v2 v3->iK b (l9 c (eC [x] l)) v3 (Grow G v1)->bU (some ⟨b,0,none⟩) λa62=>jr (a62.add 0) v3 λK=>W0.c (aW b) (if((K.len:Nat):Int)<(c.batch:Int)then((K.len:Nat):Int)else(c.batch:Int)) v3 λt67 v4=>R t67 0 v4:=by
    intro v3 e3 hL3;have ac:=hL3;obtain⟨_,ok3,s3,W,hs3,hcap3⟩:=hL3;have J:(l9 c (eC [x] l)).os=l.os++[x]:=by unfold l9;split<;>exact i.1
    have M:s3.len=l.os.length+1:=by have:=hs3.1;simp[Wo,J]at this;omega
    refine aG (W.rS rfl ?_);have em:(if((s3.len:Nat):Int)<(c.batch:Int)then((s3.len:Nat):Int)else(c.batch:Int))=((min c.batch (l.os.length+1):Nat):Int):=by rw[M];split<;>omega
    rw[em];refine Hx ac (by rw[J];simp;omega) λs z v4 e4 hz hr hL4=>?_;have e24:Ext (· = b) v2 v4:=e3.trans e4;have e04:Ext G v v4:=E.trans (e24.sub λq a=>a▸u);have hs23:=e3.1;have hs02:=E.1;obtain⟨eF4,h4⟩:=r v4 _ (λq=>q=b\/z<=q) e04 (λq a=>a.imp (λ(N:q=b)=>by rw[N];exact u) λ(N:z<=q)=>O) hL4;refine hR v4 Y' s 0 (λq=>v3.size<=q/\q<z) eF4 hp (λ_=>rfl) (λq a=>O) (by rw[w];exact hr) ?_;rw[w];refine h4.mono λq _ a=>⟨?_,λhQ=>?_⟩
    ·rcases a with a|a|a
     ·exact a.1
     ·subst a;exact hG _ u
     ·exact .inr O
    ·rcases a with a|a|a<;>omega
   refine aG (g.rI rfl ?_);rw[i.2.1];refine cQ (λc2=>?_) λc2=>?_
   ·have c2':l.lim<c.batch:=by omega
    have eu:l9 c (eC [x] l) = {eC [x] l with lim:=l.lim+1}:=by unfold l9;rw[i.2.1,zC c2']
    have V:=Cy Z ok2;refine aG (g.rI rfl ?_);rw[i.2.1];have hl128:=aa.lim;refine cP (m:=l.lim+1) O O (aG (g.s1 (by simp[mH]) λv3 o3 hb3=>A v3 o3.ext ?_));rw[eu]at V ⊢;exact y.st o3.ext hb3 ab C V
   ·have eu:l9 c (eC [x] l)=eC [x] l:=by unfold l9;rw[i.2.1,zB O]
    exact A v2 (Ext.refl _ _) (by rw[eu];exact y)
 ·refine RY S P (by simpa using hfit) aA (cE rfl ?_);have w:dJ c x l=([],l):=by unfold dJ;rw[zC O]
  refine hR v1 Y' _ 6 (λ_=>False) (e.trans (bK.to e1)) hp (λN=>absurd N hfit) (λq a=>a.elim) (by rw[w];exact bR.nil _ _ _ _) ?_;rw[w,Z5 hl];exact(h'.bO e1).mono λq _ a=>⟨a,id⟩
end Go.Ar
namespace Go.Ar
open Go Go.Vc Go.Proofs
open Go.Bu (Za Qy Y7)
variable {U:Hp}{F:Rg}{p hs:Nat}{A:AR}{Y:Lay}{T:Nat->Hp->Rg->Prop}
theorem dG.tv (h:dG U F Y A T){k q:Nat}{c:bZ}{ss:List cG}(h1:Y.fF[k]?=some q)(h2:A.tb[k]?=some c)(h3:A.cD[k]?=some ss) :
 ∃G:Rg,(∀b,G b->F b)/\(∃ps,fA U G q c ps ss)/\(∀j,∃H:Rg,(∀b,H b->F b)/\(∀b,H b->¬G b)/\T j U H)/\∀(σ':Hp) (ss':List cG) (ps':List (Nat×Nat)) (G' H:Rg),
  Ext G U σ'->(∀b,G' b->G b\/U.size<=b)->fA σ' G' q c ps' ss'->(∀b,(F b/\b<U.size/\¬G b\/G' b)->H b)->dG σ' H Y {A with cD:=A.cD.set k ss'} T:=by
 obtain⟨G,m,p,hd,a⟩:=h.step (.cD k);have g:k<A.cD.length:=(cW.1 h3).1;refine⟨G,m,FC h1 h2 h3 p,λj=>hd (.cM j) (by intro e;cases e),λσ' ss' ps' G' H e i d r=>?_⟩;refine a σ' _ _ T G' H h.lay.kK h.tl PJ e i ?_ r;simp only[AC];rw[h1,h2,zL g];exact⟨ps',d⟩
theorem O9 (h:dG U F Y A T)(k m:Int){R:Sl->Int->Hp->Prop}(hR:∀s σ',Ext F U σ'->bR s 1 (ints (X9 A k m)) σ' (λb=>U.size<=b)->dG σ' (Cut F U) Y (Ys A k m) T->R s (Qo A k m) σ') :
 WB.c (aW Y.p) k m U R:=by
 refine WB.o ?_;unfold WB.v;refine V5 h k (λj=>?_) λx E w=>?_
 ·have e1:Qo A k m=1:=by unfold Qo;rw[j];rfl
  have e2:Ys A k m=A:=by unfold Ys;rw[e1];rfl
  have g:X9 A k m=[]:=by unfold X9;rw[e1];rfl
  have:=hR ⟨none,0,0⟩ U (Ext.refl _ _) (by rw[g];exact bR.nil _ _ _ _) (by rw[e2];exact h.cut);rw[e1]at this;exact cE rfl this
 ·subst E;have j:A.ck (x:Int)=true:=by unfold AR.ck;simp;omega
  obtain⟨c,ss,q,t,r,C,a,z,_,_,H⟩:=h.at_ w;obtain⟨G,y,⟨K,B⟩,_,i⟩:=h.tv z C a;refine cB rfl (aG (h.hd.rS rfl (h.lP z ?_)));by_cases hm:m<0
  ·have e1:Qo A x m=1:=by unfold Qo;rw[j,zC rfl,zC hm]
   have e2:Ys A x m=A:=by unfold Ys;rw[e1];rfl
   have g:X9 A x m=[]:=by unfold X9;rw[e1];rfl
   have:=hR ⟨none,0,0⟩ U (Ext.refl _ _) (by rw[g];exact bR.nil _ _ _ _) (by rw[e2];exact h.cut);rw[e1]at this;exact Ln B m hm this
  ·have e1:Qo A x m=0:=by unfold Qo;rw[j,zC rfl,zB hm]
   have D:Vi A x m=QS c m.toNat ss:=by unfold Vi;simp only[dE];rw[C,a]
   have e2:Ys A x m = {A with cD:=A.cD.set x (QS c m.toNat ss).2}:=by unfold Ys;rw[e1,zC rfl,D];rfl
   have g:X9 A x m=(QS c m.toNat ss).1:=by unfold X9;rw[e1,zC rfl,D]
   refine ND B m O λs σ' e d u=>?_;have:=hR s σ' (e.sub y) (by rw[g];exact d) (by rw[e2];exact i σ' _ _ (Cut G U) _ e (λb J=>.inl J.1) u (Ea y));rw[e1]at this;exact this
theorem II {k:Nat}{f:gD->gD}:∀j,j≠Lb.cM k->AC {A with cM:=A.cM.modify k f} Y (cK {A with cM:=A.cM.modify k f} Y) j=AC A Y (cK A Y) j:=by
 intro j hj;cases j<;>first|rfl|skip
 rename_i k';have a:k≠k':=λe=>hj (by rw[e]);simp only[AC,cK];simp[tz,a]
theorem eV.jT {k:Nat}{f:gD->gD}(h:eV A Y):eV {A with cM:=A.cM.modify k f} Y:=⟨h.c,h.t,h.cD,by simpa using h.cM,h.mW,h.pW,h.n1,h.n2,h.n3,h.st,h.room,h.ok⟩
theorem dG.sg (h:dG U F Y A (cK A Y)){k q:Nat}{c:bZ}{t:gD}(h1:Y.fU[k]?=some q)(h2:A.tb[k]?=some c)(h3:A.cM[k]?=some t) :
 ∃G:Rg,(∀b,G b->F b)/\jl U G q c.batch A.room t/\∀(σ':Hp) (f:gD->gD) (G' H:Rg),
  Ext G U σ'->(∀b,G' b->G b\/U.size<=b)->jl σ' G' q c.batch A.room (f t)->(∀b,(F b/\b<U.size/\¬G b\/G' b)->H b)->dG σ' H Y {A with cM:=A.cM.modify k f} (cK {A with cM:=A.cM.modify k f} Y):=by
 obtain⟨G,p,d,hd,a⟩:=h.step (.cM k);have g:jl U G q c.batch A.room t:=by
  simp only[AC,cK]at d;rw[h1,h2,h3]at d;exact d
 refine⟨G,p,g,λσ' f G' H e m i r=>?_⟩;refine a σ' _ _ _ G' H h.lay.jT (λj=>cK.loc j) II e m ?_ r;simp only[AC,cK];rw[h1,h2,List.getElem?_modify_eq,h3];exact i
theorem HZ (h:dG U F Y A (cK A Y))(k:Int){R:Sl->Int->Hp->Prop}(hR:∀s σ',Ext F U σ'->(∀b,kC s b->F b)->cU s 1 (Wo (Yn A k)) σ' (kC s)->s.len<=s.cap->dG σ' (λb=>F b/\¬kC s b) Y (Zu A k) (cK (Zu A k) Y)->R s (ZV A k) σ') :
 Wz.c (aW Y.p) k U R:=by
 refine Wz.o ?_;unfold Wz.v;refine V5 h k (λz=>?_) λx M E=>?_
 ·have e1:ZV A k=1:=by unfold ZV;rw[z];rfl
  have e2:Zu A k=A:=by unfold Zu;rw[e1];rfl
  have m:Yn A k=[]:=by unfold Yn;rw[e1];rfl
  have:=hR ⟨none,0,0⟩ U (Ext.refl _ _) (λb d=>by obtain⟨a,g,_⟩:=d;cases g) (by rw[m];exact cU.nil _ _ _ _) (zD _) (by rw[e2];exact h.mono λb _ d=>⟨d,λ⟨a,g,_⟩=>by cases g⟩);rw[e1]at this;exact cE rfl this
 ·subst M;have z:A.ck (x:Int)=true:=by unfold AR.ck;simp;omega
  obtain⟨c,S,q,t,r,P,K,Q,B,H,N⟩:=h.at_ E;obtain⟨G,C,J,w⟩:=h.sg H P B;refine cB rfl (aG (h.hd.rS rfl (h.rj H ?_)));by_cases d:t.bs=[]
  ·have e1:ZV A x=4:=by unfold ZV;rw[z,zC rfl];simp only[dE];rw[B];simp[d]
   have e2:Zu A x=A:=by unfold Zu;rw[e1];rfl
   have m:Yn A x=[]:=by unfold Yn;rw[e1];rfl
   have:=hR ⟨none,0,0⟩ U (Ext.refl _ _) (λb d=>by obtain⟨a,g,_⟩:=d;cases g) (by rw[m];exact cU.nil _ _ _ _) (zD _) (by rw[e2];exact h.mono λb _ d=>⟨d,λ⟨a,g,_⟩=>by cases g⟩);rw[e1]at this;exact N3 J d this
  ·have e1:ZV A x=0:=by unfold ZV;rw[z,zC rfl];simp only[dE];rw[B];simp[d]
   have e2:Zu A x = {A with cM:=A.cM.modify x gD.rem}:=by unfold Zu;rw[e1,zC rfl];rfl
   have m:Yn A x=t.bs.getLast?.getD []:=by unfold Yn;rw[e1,zC rfl];simp only[dE];rw[B]
   refine Lg J d λs σ' e i j y D=>?_;have u:∀b,(F b/\b<U.size/\¬G b\/G b/\¬kC s b)->F b/\¬kC s b:=λb d=>by
    rcases d with d|d
    ·exact⟨d.1,λL=>d.2.2 (i b L)⟩
    ·exact⟨C b d.1,d.2⟩
   have:=hR s σ' (e.sub C) (λb d=>C b (i b d)) (by rw[m];exact j) y (by rw[e2];exact w σ' _ (λb=>G b/\¬kC s b) _ e (λb d=>.inl d.1) D u);rw[e1]at this;exact this
theorem J8 (h:dG U F Y A (cK A Y))(k:Int){sl:Sl}{xs:List Int}{X:Rg}(hs:cU sl 1 (Wo xs) U X)(hi:∀x∈xs,iD x){R:Bool->Int->Hp->Prop}(hR:∀σ',Ext F U σ'->dG σ' (Grow F U) Y (QT A k xs) (cK (QT A k xs) Y)->R (KW A k xs) (UU A k xs) σ') :
 WE.c (aW Y.p) k sl U R:=by
 refine WE.o ?_;unfold WE.v;have u:sl.len=xs.length:=by have:=hs.1;simp[Wo]at this;omega
 have S:∀e:Int,e≠0->UU A k xs=e->R false e U:=λe he C=>by
  have e3:KW A k xs=false:=by unfold KW;rw[zM O];rfl
  have e2:QT A k xs=A:=by unfold QT;rw[e3];rfl
  have:=hR U (Ext.refl _ _) (by rw[e2];exact h.mono λb _ g=>.inl g);rw[C,e3]at this;exact this
 refine V5 h k (λV=>cE rfl (S 1 aB (by unfold UU;rw[V];rfl))) λx N Z=>?_;subst N;have V:A.ck (x:Int)=true:=by unfold AR.ck;simp;omega
 obtain⟨c,ss,q,t,r,P,E,hq,ht,hr,aa⟩:=h.at_ Z;obtain⟨G1,ps,hG1,ab⟩:=h.cD hq P E;obtain⟨G,hG,hC,K⟩:=h.sg hr P ht;have M:UU A x xs=if xs.length=c.batch then(if xs.all (λx=>dX c ss x==some true)then 0 else 8)else 1:=by unfold UU;rw[V,zC rfl];simp only[dE];rw[P,E]
 refine cB rfl (aG (h.hd.rS rfl (h.wA (d:=2) P O ?_)));simp only[zB (show ¬(2=0) by omega),zB (show ¬(2=1) by omega)];rw[pR];refine cO (λg=>?_) λg=>?_
 ·have:¬xs.length=c.batch:=by rw[←u];simpa using g
  exact S 1 aB (by rw[M,zB this])
 have J:xs.length=c.batch:=by rw[←u];simpa using g
 rw[zC J]at M;have h32:c.batch<=32:=aa.2.2.2.2.2.2.2;refine ZY (a:=bN) (λ(i:Int) v=>∃j:Nat,i=(j:Int)/\j<=xs.length/\v=U/\∀y∈xs.take j,dX c ss y=some true) (λi _=>xs.length-i.toNat) ⟨0,rfl,O,rfl,by simp⟩ ?_;rintro i v ⟨j,rfl,hj,rfl,s⟩;refine cQ (λhlt2=>?_) λhge=>?_
 ·have H:j<xs.length:=by omega
  have N:xs[j]?=some xs[j]:=cV H;have Q:xs.take (j+1)=xs.take j++[xs[j]]:=by rw[k7,N];rfl
  have w:=j4 H;generalize xs[j]=y at *;have L:dX c ss y≠some true->R false 8 v:=λhn=>S 8 aB (by
   rw[M,zB];intro ha;rw[j8]at ha;exact hn (by simpa using ha y w))
  refine hs.mY N (aG (h.hd.rS rfl (h.lP hq (CO ab _ (hi y w) (λb g=>?_) λg=>?_))))
  ·refine bW.intro (cB rfl ?_);cases b
   ·exact cE rfl (L (by rw[g];simp))
   ·refine cB rfl (cP (m:=j+1) O O ⟨⟨j+1,rfl,O,rfl,λz hz=>?_⟩,O⟩);rw[Q]at hz;rcases zK.1 hz with C|C
    ·exact s z C
    ·simp at C;rw[C];exact g
  ·exact bW.intro (cE rfl (cE rfl (L (by rw[g];simp))))
 ·have:j=xs.length:=by omega
  subst this;rw[mV]at s;have B:UU A x xs=0:=by
   rw[M,zC];rw[j8];intro y hy;simp[s y hy]
  have D:KW A x xs=decide (t.bs.length<A.room):=by unfold KW;rw[B];simp only[dE];rw[ht];simp
  refine aG (h.hd.rS rfl (h.rj hr (Ly hC hs O (λhn=>absurd J hn) (λ_ hf=>?_) λ_ hf σ' e W=>?_)))
  ·rw[zM O]at D;have e2:QT A x xs=A:=by unfold QT;rw[D];rfl
   have:=hR v (Ext.refl _ _) (by rw[e2];exact h.mono λb _ g=>.inl g);rw[B,D]at this;exact this
  ·rw[zJ O]at D;have e2:QT A x xs = {A with cM:=A.cM.modify x λt=>{t with bs:=t.bs++[xs]}}:=by unfold QT;rw[D,zC rfl];rfl
   have:=hR σ' (e.sub hG) (by rw[e2];exact K σ' (λt=>{t with bs:=t.bs++[xs]}) (Grow G v) _ e (λb g=>g) W (HB hG λb g=>g));rw[B,D]at this;exact this
theorem fA.Nv {q:Nat}{c:bZ}{ps:List (Nat×Nat)}{ss:List cG}{G:Rg}(h:fA U G q c ps ss):∀s∈ss,s.st<=1024:=by
 intro s hs;obtain⟨i,a⟩:=zQ hs;have b:=(cW.1 a).1;have d:i<ps.length:=by rw[h.len];exact b
 have:=(h.sp _ _ _ (cV d) a).fit;omega
theorem Md (h:dG U F Y A T)(k:Int){sl:Sl}{xs:List Int}(hi:∀x∈xs,iD x)(hl:xs.length<=1000000)(hcap:sl.len<=sl.cap)
 (hs:(∃X:Rg,cU sl 1 (Wo xs) U X/\∀b,b<U.size->X b->¬F b)\/∃j,∀H,T j U H->cU sl 1 (Wo xs) U H)
 {R:aN} (hR:∀σ',Ext F U σ'->dG σ' (Grow F U) Y (Zr A k xs) T->R (QH A k xs) σ') :
 WM.c (aW Y.p) k sl U R:=by
 refine WM.o ?_;unfold WM.v;have no:∀e:Int,e≠0->QH A k xs=e->R e U:=λe he J=>by
  have e2:Zr A k xs=A:=by unfold Zr;rw[zB O]
  have:=hR U (Ext.refl _ _) (by rw[e2];exact h.mono λb _ d=>.inl d);rw[J]at this;exact this
 refine V5 h k (λM=>cE rfl (no 1 aB (by unfold QH;rw[M];rfl))) λx hx V=>?_;subst hx;have M:A.ck (x:Int)=true:=by unfold AR.ck;simp;omega
 obtain⟨c,g,q,t,r,Z,u,hq,_,_,hok⟩:=h.at_ V;obtain⟨G,Q,⟨ps,W⟩,hd,C⟩:=h.tv hq Z u;have hX:∃X:Rg,cU sl 1 (Wo xs) U X/\∀b,X b->¬G b:=by
  rcases hs with⟨X,J,h2⟩|⟨j,hj⟩
  ·exact⟨Cut X U,aH.cut J,λb d hg=>h2 b d.2 d.1 (Q b hg)⟩
  ·obtain⟨H,_,D,hT⟩:=hd j;exact⟨H,hj H hT,D⟩
 obtain⟨X,S,N⟩:=hX;have L:QH A x xs=iB c g xs:=by unfold QH;rw[M,zC rfl];simp only[dE];rw[Z,u]
 refine cB rfl (aG (h.hd.rS rfl (h.lP hq (LK W S N hi hl hcap (λD=>?_) λh0 o σ1 e1 m E=>?_))))
 ·refine cE (by simpa using D) (no _ D L)
 ·refine cB rfl ?_;have eS:Zr A x xs=VU {A with cD:=A.cD.set x (cF (xs.foldl (fD c) g))} ((Qb (xs.foldl (fD c) g)).map λs=>(s,c.aF)):=by
   unfold Zr;rw[L,zC h0];simp only[dE];rw[Z,u]
  have K:=C σ1 _ _ (Cut G U) _ e1 (λb d=>.inl d.1) E (Ea Q);rw[Ps]at m;have B:((Qb (xs.foldl (fD c) g)).map λs=>(s,c.aF)).length<=1000000/\∀r∈((Qb (xs.foldl (fD c) g)).map λs=>(s,c.aF)),r.1<=1000000:=by
   have i:∀(ys:List Int) (ls:List cG),((ys.foldl (fD c) ls).map (·.st))=ls.map (·.st):=by
    intro ys
    induction ys with
    | nil=>intro ls;rfl
    | cons y ys ih=>
     intro ls;rw[pS,ih];unfold fD;split
     ·rename_i j hj;split
      ·rename_i s a;split
       ·simp only[vB];apply zo;intro z;rw[mJ];by_cases w:j=z
        ·subst w;rw[zC rfl];have:=(cW.1 a).1;rw[zC (by simpa using this)];simp[a,cG.put]
        ·rw[zB w]
       ·rfl
      ·rfl
     ·rfl
   have P:∀s∈Qb (xs.foldl (fD c) g),s∈g.map (·.st):=by
    intro s a;rw[←i xs g];unfold Qb at a;simp only[zE,zI]at a ⊢;obtain⟨z,w,rfl⟩:=a;exact⟨z,w.1,rfl⟩
   have ab:=W.pt;refine⟨?_,λr hr=>?_⟩
   ·have:(Qb (xs.foldl (fD c) g)).length<=(xs.foldl (fD c) g).length:=by
     unfold Qb;rw[zl];exact qT _ _
    have h2:(xs.foldl (fD c) g).length=g.length:=by have:=congrArg List.length (i xs g);simpa using this
    rw[zl];omega
   ·obtain⟨s,a,rfl⟩:=zE.1 hr;obtain⟨z,w,rfl⟩:=zE.1 (P s a);have:=W.Nv z w;simp only;omega
  refine DN K m.gZ (λb _ d hf=>by have:=hf.2;omega) B.1 B.2 λσ2 e2 aa=>?_;have:=hR σ2 ((e1.sub Q).trans (e2.sub λb d=>d.1)) ?_
  ·rw[L,h0]at this;exact this
  ·rw[eS];exact aa.mono λb _ d=>by
    rcases d with d|d
    ·exact .inl d.1
    ·exact .inr (zh e1.1 d)
theorem LH (l:List (Nat×Nat))(x:Int):bV (iF l) x=(l.find? λr=>(r.1:Int)==x).map λr=>(r.2:Int):=by
 induction l with
 | nil=>rfl
 | cons r l ih=>
  have:iF (r::l)=((r.1:Int),(r.2:Int))::iF l:=rfl;rw[this,Q0,uy,ih];by_cases h:(r.1:Int)=x
  ·simp[h]
  ·have:((r.1:Int)==x)=false:=by simpa using h
   rw[this,zB h]
theorem Mj (l:List (Nat×Nat))(x:Int):cT (iF l) x=iF (l.filter λq=>!((q.1:Int)==x)):=by
 unfold cT iF;rw[vd];rfl
theorem Ox (l:List (Nat×Nat))(x m:Nat):dB (iF l) (x:Int) (m:Int)=iF (cA.mset2 l x m):=by
 unfold dB cA.mset2 iF;have e:(l.map λr=>((r.1:Int),(r.2:Int))).any (λy=>y.1==(x:Int))=l.any λr=>r.1==x:=by
  rw[List.any_map]
  congr 1
  funext r
  exact ly r.1 x
 rw[e];split
 ·rw[k6,k6];apply j5;intro r _;simp only[Function.comp_def];rw[ly];split<;>rfl
 ·simp
theorem dG.qQ (h:dG U F Y A T):F Y.rn/\dH U Y.rn .i64 bN (iF A.runs)/\∀(σ':Hp) (rs:List (Nat×Nat)),Qm U σ' Y.rn->dH σ' Y.rn .i64 bN (iF rs)->dG σ' F Y {A with runs:=rs} T:=by
 obtain⟨G,g,⟨e,p⟩,_,a⟩:=h.step .runs;refine⟨g _ e,p,λσ' rs j m=>?_⟩;exact a σ' _ _ T G _ h.lay.pV h.tl Nb (j.ext.sub λb d=>by subst d;exact e) (λb d=>.inl d) ⟨e,m⟩ (yi g λb d=>d)
theorem I2 (h:dG U F Y A T)(x:Int)(hf:∀r∈A.runs,r.1<=1000000){R:aN}(hR:∀σ',Ext F U σ'->dG σ' (Grow F U) Y (Qp A x) T->R (KG A x) σ') :
 WK.c (aW Y.p) x U R:=by
 refine WK.o ?_;unfold WK.v;obtain⟨L,J,g⟩:=h.qQ;refine UQ h (cB rfl (aG (h.hd.rM rfl ⟨_,J,?_⟩)));rw[LH];cases hr:(A.runs.find? λr=>(r.1:Int)==x)with
 | none=>
  have e1:KG A x=8:=by unfold KG pB;rw[hr];rfl
  have e2:Qp A x=A:=by unfold Qp pB;rw[hr]
  have:=hR U (Ext.refl _ _) (by rw[e2];exact h.mono λb _ a=>.inl a);rw[e1]at this;exact cE rfl this
 | some r=>
  have e1:KG A x=0:=by unfold KG pB;rw[hr];rfl
  have e2:Qp A x=VG {A with runs:=A.runs.filter λq=>!((q.1:Int)==x)} r:=by unfold Qp pB;rw[hr]
  have z:=tj hr;have u:(r.1:Int)=x:=by simpa using sP hr
  refine cB rfl (aG (h.hd.rM rfl ⟨_,J,λm w _ E=>?_⟩));have o1:=w _ rfl;have d:dH m Y.rn .i64 bN (cT (iF A.runs) x):=E;rw[Mj]at d;have B:=g m _ o1 d;simp only[zX,py];refine nw (cs:=[.int .i64 x,.int .i64 (r.2:Int)]) λP K e y=>?_;have G:=B.cut.bO e;have C:cU ⟨some ⟨m.size,0,none⟩,1,1⟩ 2 (rV [r]) P (· = m.size):=by
   refine⟨rfl,.inr ⟨_,0,_,rfl,rfl,y.q,λj Q=>?_⟩⟩;have:rV [r]=[.int .i64 (r.1:Int),.int .i64 (r.2:Int)]:=rfl;rw[this,u,zH]
  refine DN G C (λb _ a N=>by have:=N.2;omega) aA (λq H=>by simp at H;subst H;exact hf _ z) λv3 M s=>?_;have D:Ext F U v3:=(o1.ext.sub λb a=>by subst a;exact L).trans ((bK.to e).trans (M.sub λb a=>a.1));have:=hR v3 D (by
   rw[e2];exact s.mono λb _ a=>by
    rcases a with a|a
    ·exact .inl a.1
    ·exact .inr (by have:=o1.1;omega))
  rw[e1]at this;exact this
theorem KY (rs:List (Nat×Nat)):∀A:AR,(VU A rs).tb=A.tb/\(VU A rs).room=A.room/\(VU A rs).cM=A.cM/\(VU A rs).cD=A.cD/\(VU A rs).runs=A.runs/\(VU A rs).n=A.n:=by
 induction rs with
 | nil=>intro A;exact⟨rfl,rfl,rfl,rfl,rfl,rfl⟩
 | cons r rs ih=>intro A;exact ih (VG A r)
theorem V0 (A:AR)(k:Int)(xs:List Int):(Zr A k xs).tb=A.tb/\(Zr A k xs).room=A.room/\(Zr A k xs).cM=A.cM/\(Zr A k xs).runs=A.runs/\(Zr A k xs).n=A.n:=by
 unfold Zr;split
 ·split
  ·exact⟨(KY _ _).1,(KY _ _).2.1,(KY _ _).2.2.1,(KY _ _).2.2.2.2.1,(KY _ _).2.2.2.2.2⟩
  ·exact⟨rfl,rfl,rfl,rfl,rfl⟩
 ·exact⟨rfl,rfl,rfl,rfl,rfl⟩
theorem gD.nS (t:gD):∀xs∈t.tick.bs,xs∈t.bs:=λxs h=>sv h
theorem KI {α:Type}{l:List α}{k:Nat}{t:α}{f:α->α}(h:l[k]?=some t):l.modify k f=l.set k (f t):=by
 apply zo;intro i;rw[mJ,tz];by_cases hi:k=i
 ·subst hi;have:=(cW.1 h).1;rw[zC rfl,zC this,h];simp
 ·simp[hi]
def Aj (A:AR)(Y:Lay)(k r:Nat)(c:bZ)(t:gD)(out:Sl)(sls:List Sl)(j:Nat):Hp->Rg->Prop:=
 if j=k then λU G=>jl U G r c.batch A.room t.tick/\cU out 1 (sls.map pw) U G/\qJ sls t.out U G else cK A Y j
theorem Aj.loc {k r:Nat}{c:bZ}{t:gD}{out:Sl}{sls:List Sl}(j:Nat):dL (Aj A Y k r c t out sls j):=by
 unfold Aj;split
 ·exact λU i F G ⟨d,g,e⟩ a b=>⟨jl.loc _ _ _ _ d a b,cU.loc _ _ _ _ _ _ _ g a b,qJ.loc _ _ _ _ _ _ e a b⟩
 ·exact cK.loc j
end Go.Ar
namespace Go.Bu
variable {n:Nat}{S:Nat->Bool}
theorem VC {m a k x:Nat}(h:Zx n S m a k=some x):∃j,j<k/\m<=2^j/\a<=2^j/\(Q9 n S j).head?=some x/\∀i,i<j->m<=2^i->a<=2^i->Q9 n S i=[]:=by
 have uW:∀k,Zx n S m a k=none->∀i,i<k->m<=2^i->a<=2^i->Q9 n S i=[]:=by
  intro k
  induction k with
  | zero=>intro _ i hi;omega
  | succ k ih=>
   intro hn i hi d b;rw[Zx]at hn;split at hn
   ·cases hn
   ·rename_i hn';by_cases e:i=k
    ·subst e;rw[zC ⟨d,b⟩]at hn;simpa using hn
    ·exact ih hn' i O d b
 induction k with
 | zero=>simp[Zx]at h
 | succ k ih=>
  rw[Zx]at h;split at h
  ·rename_i y hy;cases h;obtain⟨j,d,b⟩:=ih hy;exact⟨j,O,b⟩
  ·rename_i hn;split at h
   ·rename_i hc;exact⟨k,O,hc.1,hc.2,h,uW k hn⟩
   ·cases h
theorem UI {m a:Nat}:∀{k},Zx n S m a k=none->∀i,i<k->m<=2^i->a<=2^i->Q9 n S i=[]
 | 0,_,i,hi,_,_=>by omega
 | k+1,hn,i,hi,h1,h2=>by
  rw[Zx]at hn;split at hn
  ·cases hn
  ·rename_i hn';by_cases e:i=k
   ·subst e;rw[zC ⟨h1,h2⟩]at hn;simpa using hn
   ·exact UI hn' i O h1 h2
theorem kP (hb:Bounded S n){m a x:Nat}(h:Y7 n S m a=some x):x+m<=n/\∀y,x<=y->y<x+m->S y=true:=by
 obtain⟨j,_,p,_,e,_⟩:=VC h;have b:x∈Q9 n S j:=List.mem_of_head? e;obtain⟨q,rfl,d⟩:=(QG hb).1 b;have:=ZE hb (Zt.1 d).1;exact⟨O,λy g i=>VI d (Z0.2 O)⟩
end Go.Bu
namespace Go.Ar
open Go Go.Vc Go.Proofs
open Go.Bu (Za Qy Y7)
variable {U:Hp}{F H:Rg}{p hs:Nat}{A:AR}{sp:Sp}{Y:Lay}{T:Nat->Hp->Rg->Prop}
structure W2 (U:Hp) (F H:Rg) (Y:Lay) (A:AR) (T:Nat->Hp->Rg->Prop) (sp:Sp):Prop where
 a:dG U F Y A T
 s:dK U H Y.hs sp
 d:∀b,F b->¬H b
 g:Gl U
 o:iN F
 o2:iN H
def iO (F H:Rg):Rg:=λb=>F b\/H b
theorem W2.lr (h:W2 U F H Y A T sp){σ':Hp}{A':AR}(e:Ext F U σ')(ha:dG σ' F Y A' T):W2 σ' F H Y A' T sp:=
 ⟨ha,dL.bS dK.loc h.s e λb _ a i=>h.d b i a,h.d,h.g.bS e h.o,h.o,h.o2⟩
theorem W2.space (h:W2 U F H Y A T sp){σ':Hp}{sp':Sp}(e:Ext H U σ')(hs:dK σ' H Y.hs sp'):W2 σ' F H Y A T sp':=
 ⟨dL.bS dG.loc h.a e λb _ i j=>h.d b i j,hs,h.d,h.g.bS e h.o2,h.o,h.o2⟩
theorem W2.bO (h:W2 U F H Y A T sp){σ':Hp}(e:bK U σ'):W2 σ' F H Y A T sp:=⟨h.a.bO e,h.s.bO e,h.d,h.g.bO e,h.o,h.o2⟩
theorem W2.cut (h:W2 U F H Y A T sp):W2 U (Cut F U) (Cut H U) Y A T sp:=⟨h.a.cut,dL.cut dK.loc h.s,λb e i=>h.d b e.1 i.1,h.g,h.o.sub λb e=>e.1,h.o2.sub λb e=>e.1⟩
theorem W2.oy (h:W2 U F H Y A T sp){σ':Hp}{A':AR}(e:Ext F U σ')(ha:dG σ' (Grow F U) Y A' T):W2 σ' (Grow F U) (Cut H U) Y A' T sp:=
 ⟨ha,dL.bS dK.loc (dL.cut dK.loc h.s) e λb _ a j=>h.d b j a.1,λb a i=>by
  rcases a with a|a
  ·exact h.d b a i.1
  ·have:=i.2;omega,h.g.bS e h.o,h.o.grow h.g,h.o2.sub λb a=>a.1⟩
theorem W2.DZ (h:W2 U F H Y A T sp){K:Option Addr->Prop}(hK:K (some ⟨Y.hs,0,none⟩)):fT (Addr.add ⟨Y.p,0,none⟩ 1) U K:=h.a.hd.rP rfl hK
theorem FU (st:List Nat)(a m:Nat):Uv st a (m+1)=iT (Uv st a m) ((a+m:Nat):Int):=by
 unfold Uv;rw[pT,jY,wO];rfl
theorem IP {a m:Int}(h:eZ sp a m≠0):fS sp a m=sp:=by unfold fS;rw[zB h]
theorem JW {size:Nat}(h1:1<=size)(h:∀j,1<=j->j*size+size<=sp.st.length->eZ sp ((j*size:Nat):Int) (size:Int)≠0):cY sp size=none:=by
 unfold cY;rw[nR];intro x hx;obtain⟨j,b,rfl⟩:=zE.1 hx;rw[zg]at b;have d:(j+1)*size<=sp.st.length:=zh (lX size b) (yj _ _);rw[zm,Nat.one_mul]at d;by_cases h0:j=0
 ·subst h0;simp
 ·have:=h j O d;have a:(eZ sp ((j*size:Nat):Int) (size:Int)==0)=false:=by simpa only[mj]using this
  rw[a,su];simp
theorem Mh {size j:Nat}(h1:1<=size)(h0:1<=j)(hf:j*size+size<=sp.st.length)(hm:eZ sp ((j*size:Nat):Int) (size:Int)=0)(h:∀i,1<=i->i<j->eZ sp ((i*size:Nat):Int) (size:Int)≠0):cY sp size=some (j*size):=by
 unfold cY;have m:j<sp.st.length/size:=by
  rw[Nat.lt_iff_add_one_le,Nat.le_div_iff_mul_le h1,zm,Nat.one_mul];exact hf
 have a:List.range (sp.st.length/size)=List.range j++(j::(List.range (sp.st.length/size-j-1)).map (j+1 + ·)):=by
  apply zo;intro i;rw[List.getElem?_append,xU];by_cases d:i<j
  ·rw[zC d,m4 O,m4 d]
  ·rw[zB d];by_cases hij:i=j
   ·subst hij;rw[qt,xA,m4 m]
   ·rw[show i-j=(i-j-1)+1 by omega,BX,zd];by_cases hl:i<sp.st.length/size
    ·rw[m4 hl,m4 O];simp only[zX]
     congr 1;omega
    ·rw[zV (by rw[xU];omega),zV (by rw[xU];omega)];rfl
 rw[a,jY,List.find?_append];have b:((List.range j).map (· * size)).find? (λ(s:Nat)=>s != 0&&eZ sp s size==0)=none:=by
  rw[nR];intro x hx;obtain⟨i,d,rfl⟩:=zE.1 hx;rw[zg]at d;by_cases h0:i=0
  ·subst h0;simp
  ·have:=h i O d;have g:(eZ sp ((i*size:Nat):Int) (size:Int)==0)=false:=by simpa only[mj]using this
   rw[g,su];simp
 rw[b,zS,uy];have:(j*size != 0&&eZ sp ((j*size:Nat):Int) (size:Int)==0)=true:=by
  rw[hm];have p:0<j*size:=Nat.mul_pos O O;have e:j*size≠0:=by omega
  simp[e]
 rw[this];rfl
theorem Nc (h:W2 U F H Y A T sp){size:Nat}(h1:size=16\/size=32\/size=64){R:aO}(h0:Uu A sp size=none->∀σ',Ext (iO F H) U σ'->W2 σ' F H Y A T sp->R false σ')
 (hR:∀A' sp',Uu A sp size=some (A',sp')->∀σ',Ext (iO F H) U σ'->W2 σ' F H Y A' T sp'->R true σ'):YE.c (aW Y.p) (size:Int) U R:=by
 refine YE.o ?_;unfold YE.v;have hn2:sp.st.length<=1024:=by obtain⟨q,r,l,B,hh⟩:=h.s;exact hh.n2
 have es:∀{a b:Hp},Ext H a b->Ext (iO F H) a b:=λe=>e.sub λb P=>.inr P;have ea:∀{a b:Hp},Ext F a b->Ext (iO F H) a b:=λe=>e.sub λb P=>.inl P;have d:∀j,j*size+size=(j+1)*size:=λj=>by rw[zm,Nat.one_mul]
 refine ZY (a:=bN) (λ(t:Int) v=>∃j:Nat,t=((j*size:Nat):Int)/\1<=j/\j*size<=1024+64/\Ext (iO F H) U v/\W2 v F H Y A T sp/\∀i,1<=i->i<j->i*size+size<=sp.st.length->eZ sp ((i*size:Nat):Int) (size:Int)≠0) (λt _=>2000-t.toNat)
  ⟨1,O,zD _,O,Ext.refl _ _,h,λi h1 h2=>O⟩ ?_
 rintro t v ⟨j,rfl,hj,P,e,z,y⟩;refine cP (m:=j*size+size) O O (aG (z.DZ (E4 z.s (cQ (λhlt=>?_) λhge=>?_))))
 ·have hf:j*size+size<=sp.st.length:=by omega
  refine aG (z.DZ (PB z.s z.g z.o2 _ _ λv2 e2 D=>?_));refine cO (λX=>?_) λX=>?_
  ·have L:eZ sp ((j*size:Nat):Int) (size:Int)≠0:=by simpa using X
   rw[IP L]at D;refine cP (m:=(j+1)*size) (by rw[←d];omega) (by rw[←d];omega) ⟨⟨j+1,rfl,O,by rw[←d];omega,e.trans (es e2),z.space e2 D,λi x E K=>?_⟩,by rw[←d];omega⟩;by_cases hij:i=j
   ·subst hij;exact L
   ·exact y i x O K
  ·have W:eZ sp ((j*size:Nat):Int) (size:Int)=0:=by simpa using X
   have Q:=z.space e2 D;have M:∀i,i<j->i*size+size<=sp.st.length:=λi Z=>by
    have:(i+1)*size<=j*size:=lX _ Z;rw[d];omega
   have J:=Mh (sp:=sp) O hj hf W λi x E=>y i x E (M i E);have G:Uu A sp size=some ({A with st:=Uv A.st (j*size/16) (size/16),S:=Qy A.n A.S ((j*size:Nat):Int) size},fS sp ((j*size:Nat):Int) size):=by unfold Uu;rw[J]
   have hd16:(j*size)%16=0:=by
    rcases h1 with rfl|rfl|rfl
    ·omega
    ·omega
    ·omega
   refine nz aB (cP (m:=j*size/16) (by rw[Yq O];simp) O ?_);refine ZY (a:=bN) (λ(t:Int) w=>∃i:Nat,t=((j*size/16+i:Nat):Int)/\i<=size/16/\Ext (iO F H) U w/\W2 w F H Y {A with st:=Uv A.st (j*size/16) i} T (fS sp ((j*size:Nat):Int) size)) (λt _=>200-t.toNat)
    ⟨0,O,O,e.trans (es e2),Q⟩ ?_
   rintro t w ⟨i,rfl,Z,ew,u⟩;refine cP (m:=j*size+size) O O (nz aB (cP (m:=(j*size+size)/16) (by rw[Yq O];simp) O (cQ (λhlt2=>?_) λhge2=>?_)))
   ·refine aG (u.a.hd.rP rfl (u.a.A3 _ λw2 t2 N C=>?_));refine cP (m:=j*size/16+(i+1)) O O ⟨⟨i+1,rfl,O,ew.trans (ea N),?_⟩,O⟩;rw[FU];exact u.lr N C
   ·have V:i=size/16:=by omega
    subst V;refine aG (u.a.hd.rP rfl (u.a.u7 _ _ λw2 t2 N C=>?_));exact hR _ _ G w2 (ew.trans (ea N)) (u.lr N C)
 ·have J:=JW (sp:=sp) (size:=size) O λi x K=>by
   by_cases hij:i<j
   ·exact y i x hij K
   ·have:j*size<=i*size:=lX _ O;omega
  have G:Uu A sp size=none:=by unfold Uu;rw[J]
  exact h0 G v e z
theorem Pp {m a:Nat}(h1:1<=m)(h2:m<=64)(ha:a=1\/a=2\/a=4\/a=8\/a=16):Go.Bu.fH (m:Int) (a:Int)=true:=by
 have b:Go.Bu.eW (a:Int)=true:=by rcases ha with rfl|rfl|rfl|rfl|rfl<;>decide
 unfold Go.Bu.fH;rw[b];simp only[uh,zF,zU];omega
theorem W2.take (h:W2 U F H Y A T sp){m a:Nat}(hok:Go.Bu.fH (m:Int) (a:Int)=true){R:Int->Int->Hp->Prop}(h0:Y7 A.n A.S m a=none->∀σ',Ext F U σ'->W2 σ' F H Y A T sp->R 0 6 σ')
 (h1:∀x,Y7 A.n A.S m a=some x->x+m<=A.n->∀σ',Ext F U σ'->W2 σ' F H Y {A with S:=Go.Bu.take A.S x (x+m)} T sp->R (x:Int) 0 σ'):XB.c (aW Y.fr) (m:Int) (a:Int) U R:=by
 have b:Go.Bu.Bounded A.S A.n:=by obtain⟨r,p,j,_⟩:=h.a.free;exact j.jq
 refine h.a.wK _ _ λσ' e i=>?_;have d:=h.lr e i;cases ht:Y7 A.n A.S m a with
 | none=>
  have e1:Go.Bu.iX A.n A.S (m:Int) (a:Int)=6:=by unfold Go.Bu.iX;rw[hok,zC rfl];simp only[dE];rw[ht]
  have e2:Go.Bu.iL A.n A.S (m:Int) (a:Int)=0:=by unfold Go.Bu.iL;rw[hok,zC rfl];simp only[dE];rw[ht]
  have g:Go.Bu.iY A.n A.S (m:Int) (a:Int)=A.S:=by unfold Go.Bu.iY;rw[hok,zC rfl];simp only[dE];rw[ht]
  rw[e1,e2];rw[g]at d;exact h0 ht σ' e d
 | some x=>
  have e1:Go.Bu.iX A.n A.S (m:Int) (a:Int)=0:=by unfold Go.Bu.iX;rw[hok,zC rfl];simp only[dE];rw[ht]
  have e2:Go.Bu.iL A.n A.S (m:Int) (a:Int)=x:=by unfold Go.Bu.iL;rw[hok,zC rfl];simp only[dE];rw[ht]
  have g:Go.Bu.iY A.n A.S (m:Int) (a:Int)=Go.Bu.take A.S x (x+m):=by unfold Go.Bu.iY;rw[hok,zC rfl];simp only[dE];rw[ht]
  rw[e1,e2];rw[g]at d;exact h1 x ht (Go.Bu.kP b ht).1 σ' e d
theorem NL {size:Nat}{A':AR}{sp':Sp}(h:Uu A sp size=some (A',sp')):A'.n=A.n:=by
 unfold Uu at h;split at h
 ·cases h
 ·cases h;rfl
def Fits (U:Hp)(F H F' H':Rg):Prop:=(∀b,F' b->Grow F U b)/\∀b,H' b->H b
theorem DI (h:W2 U F H Y A T sp){m a no:Nat}(h1:1<=m)(h2:m<=64)(ha:a=1\/a=2\/a=4\/a=8\/a=16)(hn1:1<=no)(hn2:no<=1000){R:Int->Int->Hp->Prop}
 (h0:(cZ A sp m a no).1=none->∀σ',Ext (iO F H) U σ'->W2 σ' F H Y (cZ A sp m a no).2.1 T (cZ A sp m a no).2.2->R 0 6 σ')
 (hR:∀x,(cZ A sp m a no).1=some x->x+m<=A.n->∀σ' F' H',Fits U F H F' H'->Ext (iO F H) U σ'->W2 σ' F' H' Y (cZ A sp m a no).2.1 T (cZ A sp m a no).2.2->R (x:Int) 0 σ') :
 Yy.c (aW Y.p) (m:Int) (a:Int) (no:Int) U R:=by
 refine Yy.o ?_;unfold Yy.v;have E:=Pp h1 h2 ha;have es:∀{a b:Hp},Ext H a b->Ext (iO F H) a b:=λe=>e.sub λb j=>.inr j;have u:∀{a b:Hp},Ext F a b->Ext (iO F H) a b:=λe=>e.sub λb j=>.inl j;have fin:∀(v:Hp) (x:Nat) (A1:AR) (sp1:Sp),Ext (iO F H) U v->x+m<=A.n->W2 v F H Y {A1 with S:=Go.Bu.take A1.S x (x+m)} T sp1->cZ A sp m a no=(some x,dN A1 x m no,sp1) →
  bU (some ⟨Y.p,0,none⟩) λW=>fT (W.add 3) v λV=>Xu.c V (x:Int) (m:Int) v λt55 s=>bU (some ⟨Y.p,0,none⟩) λaa=>fT (aa.add 4) s λM=>X7.c M (x:Int) (m:Int) (no:Int) s λt63 v3=>R (x:Int) 0 v3:=by
  intro v x A1 sp1 e hxm z y;have P:x<=1000000:=by have:=h.a.lay.n2;omega
  refine aG (z.a.hd.rP rfl (z.a.NI _ _ λs t2 e2 N=>?_));have g:=z.lr e2 N;refine aG (g.a.hd.rP rfl (g.a.Set x m P hn1 hn2 λv3 t3 e3 K=>?_));have X:=g.oy e3 K;refine hR x (by rw[y]) hxm v3 (Grow F s) (Cut H s) ⟨λb j=>?_,λb j=>j.1⟩ ((e.trans (u e2)).trans (u e3)) (by rw[y];exact X);rcases j with j|j
  ·exact .inl j
  ·exact .inr (zh (e.trans (u e2)).1 j)
 refine aG (h.a.hd.rP rfl (h.take E (λG v e z=>?_) λx G D v e z=>?_))
 ·refine Jn.intro (cE rfl ?_);have Z:(if(a:Int)>(m:Int)then(a:Int)else(m:Int))=((max m a:Nat):Int):=by
   by_cases hgt:(a:Int)>(m:Int)
   ·rw[zC hgt];omega
   ·rw[zB hgt];omega
  rw[Z];refine ZY (a:=bN) (λ(t:Int) w=>w=v/\(t=16\/t=32/\16<max m a\/t=64/\32<max m a)) (λt _=>100-t.toNat) ⟨rfl,.inl rfl⟩ ?_;rintro(t:Int) w ⟨rfl,hcase⟩;have ab:a<=16:=by omega
  refine cQ (λhlt=>?_) λhge=>?_
  ·have:t=16\/t=32:=by omega
   rcases this with rfl|rfl
   ·exact ar O O ⟨⟨rfl,O⟩,by decide⟩
   ·exact ar O O ⟨⟨rfl,O⟩,by decide⟩
  ·have L:t=((QO (max m a):Nat):Int):=by
    unfold QO;by_cases c1:max m a<=16
    ·rw[zC c1];omega
    ·rw[zB c1];by_cases c2:max m a<=32
     ·rw[zC c2];omega
     ·rw[zB c2];omega
   subst L;have Q:QO (max m a)=16\/QO (max m a)=32\/QO (max m a)=64:=by omega
   refine Nc z Q (λy σ' J r=>?_) λA' C y σ' J r=>?_
   ·have d:cZ A sp m a no=(none,A,sp):=by unfold cZ;rw[G];simp only;rw[y]
    exact cE rfl (h0 (by rw[d]) σ' ((u e).trans J) (by rw[d];exact r))
   ·refine cB rfl (aG (r.a.hd.rP rfl (r.take E (λB s e2 g=>?_) λx B D s e2 g=>?_)))
    ·have d:cZ A sp m a no=(none,A',C):=by unfold cZ;rw[G];simp only;rw[y];simp only;rw[B]
     exact cE rfl (h0 (by rw[d]) s (((u e).trans J).trans (u e2)) (by rw[d];exact g))
    ·have d:cZ A sp m a no=(some x,dN A' x m no,C):=by unfold cZ;rw[G];simp only;rw[y];simp only;rw[B]
     exact cB rfl (fin s x A' C (((u e).trans J).trans (u e2)) (by rw[←NL y];exact D) g d)
 ·have d:cZ A sp m a no=(some x,dN A x m no,sp):=by unfold cZ;rw[G]
  refine Jn.intro (cB rfl (cB rfl (fin v x A sp (u e) D z d)))
theorem Fits.refl:Fits U F H F H:=⟨λb a=>.inl a,λb a=>a⟩
theorem W2.mono {F' H':Rg}(h:W2 U F H Y A T sp)(hF:iN F')(hF2:∀b,b<U.size->F b->F' b)(hH:∀b,H' b->H b)(hH2:∀b,b<U.size->H b->H' b)(hd:∀b,F' b->¬H' b):W2 U F' H' Y A T sp:=
 ⟨h.a.mono hF2,dL.mono dK.loc h.s hH2,hd,h.g,hF,h.o2.sub hH⟩
theorem NJ (h:W2 U F H Y A T sp)(k:Int){R:aN}(hR:∀σ' F' H',Fits U F H F' H'->Ext (iO F H) U σ'->W2 σ' F' H' Y (cL A sp k).1 T (cL A sp k).2->R (KA A sp k) σ') :
 XX.c (aW Y.p) k U R:=by
 refine XX.o ?_;unfold XX.v;refine V5 h.a k (λD=>?_) λx hx M=>?_
 ·have e1:KA A sp k=1:=by unfold KA;rw[D];rfl
  have e2:cL A sp k=(A,sp):=by unfold cL;rw[D];rfl
  have:=hR U F H Fits.refl (Ext.refl _ _) (by rw[e2];exact h);rw[e1]at this;exact cE rfl this
 ·subst hx;have D:A.ck (x:Int)=true:=by unfold AR.ck;simp;omega
  obtain⟨c,S,q,t,r,J,z,hq,_,_,N⟩:=h.a.at_ M;have ht2:=h.a.lay.pW;obtain⟨_,_,_,P,hp4,_⟩:=N;refine cB rfl (aG (h.a.hd.rS rfl (h.a.wA (d:=1) J O ?_)));simp only[zB (show ¬(1=0) by omega),zR];refine cP (m:=x+1) O O ?_;have X:KA A sp x=match (cZ A sp c.aF 1 (x+1)).1 with
   | some y=>HY c S y
   | none=>6:=by unfold KA;rw[D,zC rfl];simp only[dE];rw[J,z];rfl
  have Z:cL A sp x=match cZ A sp c.aF 1 (x+1)with
   | (some y,A',w)=>(if HY c S y=0 then{A' with cD:=A'.cD.set x (ig c S y)}else A',w)
   | (none,A',w)=>(A',w):=by unfold cL;rw[D,zC rfl];simp only[dE];rw[J,z];rfl
  refine DI (a:=1) h P O (.inl rfl) O O (λC σ' e u=>?_) λy C hyn σ' F' H' i e u=>?_
  ·have:=hR σ' F H Fits.refl e;rw[X,Z,C]at this;generalize cZ A sp c.aF 1 (x+1)=g at *;obtain⟨g1,g2,g3⟩:=g;simp only at C;subst C;exact cE rfl (this u)
  ·have B:(cZ A sp c.aF 1 (x+1)).2.1.tb=A.tb/\(cZ A sp c.aF 1 (x+1)).2.1.cD=A.cD:=by
    unfold cZ;split
    ·exact⟨rfl,rfl⟩
    ·split
     ·exact⟨rfl,rfl⟩
     ·rename_i A1 sp1 hga;have:A1.tb=A.tb/\A1.cD=A.cD:=by
       unfold Uu at hga;split at hga
       ·cases hga
       ·cases hga;exact⟨rfl,rfl⟩
      split
      ·exact this
      ·exact this
   have s:=λσ' F' H'=>hR σ' F' H';rw[X,Z]at s;generalize cZ A sp c.aF 1 (x+1)=g at *;obtain⟨g1,A',w⟩:=g;simp only at C u B s;subst C;simp only at s;have hWc:=u;obtain⟨G,K,⟨ps,hC⟩,_,E⟩:=u.a.tv hq (by rw[B.1];exact J) (by rw[B.2];exact z);have hn2:=h.a.lay.n2;refine cB rfl (aG (u.a.hd.rS rfl (u.a.lP hq (MM hC O (λW v e2=>?_) λh0 v ps' e2 L=>?_))))
   ·have:=s v F' H' i (e.jQ e2) (by rw[W];exact u.bO e2);rw[W]at this;exact this
   ·have V:=E v _ _ (Grow G σ') _ e2 (λb j=>j) L (HB K λb j=>j);have Q:=u.oy (e2.sub K) V;have:=s v (Grow F' σ') (Cut H' σ') ⟨λb j=>?_,λb j=>i.2 b j.1⟩ (e.dT (e2.sub K) λb j=>?_) (by rw[h0];exact Q)
    ·rw[h0]at this;exact this
    ·rcases j with j|j
     ·exact i.1 b j
     ·exact .inr (zh e.1 j)
    ·rcases i.1 b j with h1|h1
     ·exact .inl (.inl h1)
     ·exact .inr h1
theorem HE (A:AR)(sp:Sp)(m a no:Nat):(cZ A sp m a no).2.1.tb=A.tb/\(cZ A sp m a no).2.1.cD=A.cD/\(cZ A sp m a no).2.1.cM=A.cM/\(cZ A sp m a no).2.1.room=A.room/\(cZ A sp m a no).2.1.runs=A.runs/\(cZ A sp m a no).2.1.n=A.n:=by
 unfold cZ;split
 ·exact⟨rfl,rfl,rfl,rfl,rfl,rfl⟩
 ·split
  ·exact⟨rfl,rfl,rfl,rfl,rfl,rfl⟩
  ·rename_i A1 sp1 hga;have:A1.tb=A.tb/\A1.cD=A.cD/\A1.cM=A.cM/\A1.room=A.room/\A1.runs=A.runs/\A1.n=A.n:=by
    unfold Uu at hga;split at hga
    ·cases hga
    ·cases hga;exact⟨rfl,rfl,rfl,rfl,rfl,rfl⟩
   split
   ·exact this
   ·exact this
theorem I5:∀a:Nat,a<17->1<=a->((bits .and .i64 (a:Int) ((a:Int)-1) != 0) = !(a==1||(a==2||(a==4||(a==8||a==16))))):=by decide
theorem JA (h:W2 U F H Y A T sp)(m a:Int){R:Int->Int->Hp->Prop}(hR:∀σ' F' H',Fits U F H F' H'->Ext (iO F H) U σ'->W2 σ' F' H' Y (cA A sp m a).1 T (cA A sp m a).2->R ((ZT A sp m a:Nat):Int) (Qh A sp m a) σ') :
 WL.c (aW Y.p) m a U R:=by
 refine WL.o ?_;unfold WL.v;have L:Q4 m a=false->R 0 1 U:=λu=>by
  have e1:Qh A sp m a=1:=by unfold Qh;rw[u];rfl
  have e2:cA A sp m a=(A,sp):=by unfold cA;rw[u];rfl
  have e3:ZT A sp m a=0:=by unfold ZT;rw[u];rfl
  have:=hR U F H Fits.refl (Ext.refl _ _) (by rw[e2];exact h);rw[e1,e3]at this;exact this
 have d:¬(1<=m/\m<=64/\(a=1\/a=2\/a=4\/a=8\/a=16))->R 0 1 U:=λhn=>L (by
  rw[←qk];intro hp;unfold Q4 at hp;simp at hp;omega)
 refine UQ h.a (cB rfl (bW.intro (cQ (λV=>bW.intro (cE rfl (bW.intro (cE rfl (bW.intro (cE rfl (cE rfl (d O)))))))) λV=>?_)));refine bW.intro (cQ (λc2=>bW.intro (cE rfl (bW.intro (cE rfl (cE rfl (d O)))))) λc2=>?_);refine bW.intro (cQ (λc3=>bW.intro (cE rfl (cE rfl (d O)))) λc3=>?_);refine bW.intro (cQ (λc4=>cE rfl (d O)) λc4=>ar O O ?_);obtain⟨y,rfl⟩:=za (show 0<=m by omega);obtain⟨z,rfl⟩:=za (show 0<=a by omega);rw[I5 z O O];refine cO (λE=>?_) λE=>?_
 ·refine d (λhh=>?_);simp at E;omega
 ·have Z:z=1\/z=2\/z=4\/z=8\/z=16:=by
   simp at E;omega
  have u:Q4 (y:Int) (z:Int)=true:=by
   unfold Q4;simp;omega
  have N:Qh A sp y z=if(cZ A sp y z 41).1.isSome then 0 else 6:=by unfold Qh;rw[u,zC rfl];rfl
  have S:ZT A sp y z=(cZ A sp y z 41).1.getD 0:=by unfold ZT;rw[u,zC rfl];rfl
  have P:cA A sp y z=match cZ A sp y z 41 with
   | (some x,A',r)=>({A' with runs:=cA.mset2 A'.runs x y},r)
   | (none,A',r)=>(A',r):=by unfold cA;rw[u,zC rfl];rfl
  refine DI (no:=41) h O O Z O O (λB σ' e w=>?_) λx B W σ' F' H' s e w=>?_
  ·have:=hR σ' F H Fits.refl e;rw[N,P,S,B]at this;generalize cZ A sp y z 41=g at *;obtain⟨g1,g2,g3⟩:=g;simp only at B;subst B;exact cE rfl (this w)
  ·have j:=λσ' F' H'=>hR σ' F' H';rw[N,P,S]at j;generalize cZ A sp y z 41=g at *;obtain⟨g1,A',r⟩:=g;simp only at B w j;subst B;simp only at j;obtain⟨gr,X,D⟩:=w.a.qQ;refine cB rfl (aG (w.a.hd.rM rfl ⟨_,_,rfl,X,λv Q G=>?_⟩));have C:dH v Y.rn .i64 bN (dB (iF A'.runs) (x:Int) (y:Int)):=G;rw[Ox]at C;have M:=D v _ Q C;have e2:Ext F' σ' v:=Q.ext.sub λb K=>by subst K;exact gr
   have J:=w.lr e2 M;exact j v F' H' s (e.dT e2 λb K=>by
    rcases s.1 b K with h1|h1
    ·exact .inl (.inl h1)
    ·exact .inr h1) J
end Go.Ar
namespace Go.Proofs
open Go.Vc
set_option maxRecDepth 100000
end Go.Proofs
namespace Go.Ar
open Go Go.Vc Go.Proofs
variable {U:Hp}{Q:Rg}{key:Nat->Nat}
end Go.Ar
namespace Go.Ar
open Go Go.Vc Go.Proofs
variable {U:Hp}{F:Rg}{p q:Nat}{st:List Nat}
end Go.Ar
namespace Go.Ar
open Go Go.Vc Go.Proofs
open Go.Bu (Za Qy Y7)
variable {U:Hp}{F H:Rg}{p hs:Nat}{A:AR}{sp:Sp}{Y:Lay}{T:Nat->Hp->Rg->Prop}
theorem dG.cM (h:dG U F Y A (cK A Y)){k q:Nat}{c:bZ}{t:gD}(h1:Y.fU[k]?=some q)(h2:A.tb[k]?=some c)(h3:A.cM[k]?=some t):∃G:Rg,(∀b,G b->F b)/\jl U G q c.batch A.room t:=by
 obtain⟨G,d,a,_⟩:=h.sg h1 h2 h3;exact⟨G,d,a⟩
def part {α:Type}(f:bZ->α->Nat)(tb:List bZ)(l:List α)(i:Nat):Nat:=(((tb.zip l).take i).map λx=>f x.1 x.2).sum
end Go.Ar
namespace Go.Ar
open Go Go.Vc Go.Proofs
variable {U:Hp}
theorem Dw:∀(xs:List (Int×Int×Int)),tU xs=true↔∀(i:Nat) a b,xs[i]?=some a->xs[i+1]?=some b->a.1<b.1
 | []=>by simp[tU]
 | [x]=>by simp[tU]
 | x::y::l=>by
  have ih:=Dw (y::l);show(decide (x.1<y.1)&&tU (y::l))=true↔_;rw[zF,ih,zU];constructor
  ·rintro⟨h1,h2⟩ i a b e d;cases i with
   | zero=>simp at e d;subst e;subst d;exact h1
   | succ i=>exact h2 i a b (by simpa using e) (by simpa using d)
  ·intro h;exact⟨h 0 x y rfl rfl,λi a b e d=>h (i+1) a b (by simpa using e) (by simpa using d)⟩
theorem Z7 (xs:List (Int×Int×Int)):Qc xs=true↔1<=xs.length/\xs.length<=40/\(∀(i:Nat) t,xs[i]?=some t->Ua t.1 t.2.1 t.2.2=true)/\∀(i:Nat) a b,xs[i]?=some a->xs[i+1]?=some b->a.1<b.1:=by
 unfold Qc;simp only[zF,zU,Dw,j8];constructor
 ·rintro⟨h1,h2,h3,h4⟩;exact⟨h1,h2,λi t d=>h3 t (zG d),h4⟩
 ·rintro⟨h1,h2,h3,h4⟩;exact⟨h1,h2,λt d=>by obtain⟨i,e⟩:=zQ d;exact h3 i t e,h4⟩
theorem Ge {s:Sl}{xs:List (Int×Int×Int)}(ha:ie U s xs){R:aO}(hR:∀σ',bK U σ'->R (Qc xs) σ'):Zs.c s U R:=by
 refine Zs.o ?_;unfold Zs.v;have M:∀σ',bK U σ'->¬(1<=xs.length/\xs.length<=40/\(∀(i:Nat) t,xs[i]?=some t->Ua t.1 t.2.1 t.2.2=true)/\∀(i:Nat) a b,xs[i]?=some a->xs[i+1]?=some b->a.1<b.1)->R false σ':=λσ' e hn=>by
  have:=hR σ' e;have hf:Qc xs=false:=by rw[←qk,Z7];exact hn
  rw[hf]at this;exact this
 have aa:=ha.1;refine bW.intro (cQ (λc1=>cE rfl (M U (Ext.refl _ _) λh=>O)) λc1=>?_);refine cQ (λc2=>M U (Ext.refl _ _) λh=>O) λc2=>?_;refine ZY (a:=bN) (λ(t:Int) v=>∃i:Nat,t=(i:Int)/\i<=xs.length/\bK U v/\(∀(j:Nat) t,j<i->xs[j]?=some t->Ua t.1 t.2.1 t.2.2=true)/\∀(j:Nat) a b,j+1<i->xs[j]?=some a->xs[j+1]?=some b->a.1<b.1) (λt _=>xs.length-t.toNat)
  ⟨0,rfl,O,Ext.refl _ _,λj t h=>O,λj a b h=>O⟩ ?_
 rintro t v ⟨i,rfl,L,e,X,Z⟩;have V:=ZO ha e;refine cQ (λhlt=>?_) λhge=>?_
 ·have P:i<xs.length:=by omega
  have A:xs[i]?=some xs[i]:=cV P;generalize xs[i]=r at A;obtain⟨x,y,z⟩:=r;refine yz V A ?_;refine nw (cs:=[.int .i64 0,.int .i64 0,.int .i64 0]) λv2 hz2 e2 b2=>b2.s1 aA λv3 o3 b3=>b3.s1 aA λv4 o4 b4=>b4.s1 aA λv5 o5 J=>?_;have e5:bK v v5:=Ext.fresh (Ext.fresh (Ext.fresh e2 o3.ext λi L=>O) o4.ext λi L=>O) o5.ext λi L=>by omega
  refine Jn.intro ⟨(· = v5),rfl,⟨x,λm G=>by rw[G,add_lit,J.cell];rfl,⟨y,λm G=>by rw[G,add_lit,J.cell];rfl,⟨z,λm G=>by rw[G,add_lit,J.cell];rfl,?_⟩⟩⟩⟩;refine FP x y z λv7 W=>?_;have w:=(Ext.trans e e5).trans W;have F:(Ua x y z=false\/∃a,0<i/\xs[i-1]?=some a/\x<=a.1)->R false v7:=λS=>M v7 w λH=>by
   rcases S with S|⟨a,K,hb1,hb2⟩
   ·have:=H.2.2.1 i _ A;simp only at this;rw[S]at this;cases this
   ·have:=H.2.2.2 (i-1) a (x,y,z) hb1 (by rw[show i-1+1=i by omega];exact A);simp only at this;omega
  cases hc:Ua x y z
  ·exact cE rfl (cE rfl (F (.inl hc)))
  ·have next:(∀a,0<i->xs[i-1]?=some a->a.1<x)->Ar .i64 ((i:Int)+1) λg=>(∃i:Nat,g=(i:Int)/\i<=xs.length/\bK U v7/\(∀(j:Nat) t,j<i->xs[j]?=some t->Ua t.1 t.2.1 t.2.2=true)/\∀(j:Nat) a b,j+1<i->xs[j]?=some a->xs[j+1]?=some b->a.1<b.1)/\xs.length-g.toNat<xs.length-(i:Int).toNat:=by
    intro K;refine cP (m:=i+1) O O ⟨⟨i+1,rfl,O,w,λj t hj B=>?_,λj a b hj u d=>?_⟩,O⟩
    ·by_cases hji:j=i
     ·subst hji;rw[A]at B;cases B;exact hc
     ·exact X j t O B
    ·by_cases hji:j+1=i
     ·subst hji;rw[A]at d;cases d;exact K a O u
     ·exact Z j a b O u d
   refine cB rfl (cQ (λK=>?_) λK=>cB rfl (next λa kD=>O))
   have p:xs[i-1]?=some (xs[i-1]' O):=cV _;generalize xs[i-1]' O=r at p;obtain⟨N,y',z'⟩:=r;have E:=ZO ha w;obtain⟨b,o,g1,g2,g3,g4,g5⟩:=E.2 (i-1) N y' z' p;have Y:=W.bT J id;refine cP (m:=i-1) O O ?_;rw[g1];refine ix O O ?_;have D:cell v7 ⟨b,o+(((i-1:Nat):Int)).toNat*3+0,none⟩=some (.int .i64 N):=by simpa using g3
   have fin:If (decide (x<=N)) (R false v7) (Ar .i64 ((i:Int)+1) λg=>(∃i:Nat,g=(i:Int)/\i<=xs.length/\bK U v7/\(∀(j:Nat) t,j<i->xs[j]?=some t->Ua t.1 t.2.1 t.2.2=true)/\∀(j:Nat) a b,j+1<i->xs[j]?=some a->xs[j+1]?=some b->a.1<b.1)/\xs.length-g.toNat<xs.length-(i:Int).toNat):=by
    refine cQ (λQ=>F (.inr ⟨_,O,p,Q⟩)) λhgt=>next λa _ C=>?_
    rw[p]at C;cases C;simp only;omega
   rw[add_lit b o];exact⟨Y.rI rfl (il D fin),il D (Y.rI rfl fin)⟩
 ·have:i=xs.length:=by omega
  subst this;have H:Qc xs=true:=(Z7 xs).2 ⟨O,O,λi t B=>X i t (cW.1 B).1 B,λi a b u d=>Z i a b (cW.1 d).1 u d⟩;have:=hR v e;rw[H]at this;exact this
end Go.Ar
namespace Go.Ar
open Go Go.Vc Go.Proofs
open Go.Bu (Za Qy Y7)
variable {U:Hp}{F H:Rg}{p hs:Nat}{A:AR}{sp:Sp}{Y:Lay}{T:Nat->Hp->Rg->Prop}
open Classical in
theorem _root_.Go.Vc.Sep.put {L:Type}{C C':L->Hp->Rg->Prop}{U:Hp}{F G:Rg}(hC:∀i,dL (C i))(h:Sep C U F)(i:L)(hd:∀b,G b->¬F b)(hj:∀j,j≠i->C' j=C j)(hi:C' i U G)(hL:dL (C' i)):Sep C' U λb=>F b\/G b:=by
 obtain⟨ρ,h⟩:=h;refine⟨λb=>if G b then i else ρ b,λj=>?_⟩
 by_cases hji:j=i
 ·subst hji;exact hL.mono hi λb _ d=>⟨.inr d,zC d⟩
 ·rw[hj j hji];refine(hC j).mono (h j) λb _ a=>⟨.inl a.1,?_⟩;show(if G b then i else ρ b)=j
  rw[zB λe=>hd b e a.1];exact a.2
def fW (A:AR)(Y:Lay)(T:Nat->Hp->Rg->Prop)(cs:List Value):Lb->Hp->Rg->Prop
 | .hd=>iq Y.p cs
 | i=>AC A Y T i
theorem fW.loc {cs:List Value}(hT:∀k,dL (T k)):∀i,dL (fW A Y T cs i)
 | .hd=>iq.loc _ _
 | .dD=>AC.loc (A:=A) (Y:=Y) hT .dD
 | .free=>AC.loc (A:=A) (Y:=Y) hT .free
 | .nE=>AC.loc (A:=A) (Y:=Y) hT .nE
 | .own=>AC.loc (A:=A) (Y:=Y) hT .own
 | .dO=>AC.loc (A:=A) (Y:=Y) hT .dO
 | .cN=>AC.loc (A:=A) (Y:=Y) hT .cN
 | .runs=>AC.loc (A:=A) (Y:=Y) hT .runs
 | .cD k=>AC.loc (A:=A) (Y:=Y) hT (.cD k)
 | .cM k=>AC.loc (A:=A) (Y:=Y) hT (.cM k)
theorem Lx:fW A Y T (kB Y)=AC A Y T:=by
 funext i;cases i<;>rfl
theorem D9 {cs:List Value}(hT:∀k,dL (T k))(h:Sep (fW A Y T cs) U F)(hlen:A.cD.length<=Y.fF.length)(hl:Y.fF.length<=40){vb cp ty:Nat}(hb:bY U vb [.pointer (some ⟨cp,0,none⟩)])(hvb:¬F vb){K:Sl->Hp->Prop}
 (hK:∀s' σ',Ext F U σ'->Sep (fW A {Y with dO:=s',fF:=Y.fF++[cp]} T cs) σ' (Grow F U)->K s' σ'):App Y.dO 1 8 ty [.pointer none] ⟨some ⟨vb,0,none⟩,1,1⟩ U K:=by
 obtain⟨G,g,d,_,a⟩:=h.jW (fW.loc hT) .dO;have d:bR Y.dO 1 (fJ Y.fF) U G:=d;have p:Y.dO.len=Y.fF.length:=by have:=d.1;simp[fJ]at this;omega
 refine d.app (ys:=[.pointer (some ⟨cp,0,none⟩)]) rfl rfl ?_ (by simp[dQ]) aC aC mO λs' σ' m e r=>hK s' σ' (e.sub g) ?_
 ·intro j u hu;rw[add_lit,zH,hb.cell];exact hu
 refine(Sep.loc (fW.loc hT)).mono (a σ' (fW A {Y with dO:=s',fF:=Y.fF++[cp]} T cs) (Grow G U) (λj i=>?_) e (λb hb=>hb) ?_ (fW.loc hT _)) λb _ hb=>HB g (λb hb=>hb) b hb
 ·cases j<;>first|rfl|exact absurd rfl i|skip
  rename_i k;show jU (Y.fF++[cp])[k]? A.tb[k]? A.cD[k]?=jU Y.fF[k]? A.tb[k]? A.cD[k]?;rcases kr k Y.fF.length with h1|h1
  ·rw[ze h1]
  ·have:A.cD[k]?=none:=zV O;rw[this]
   funext U F
   unfold jU;cases(Y.fF++[cp])[k]?<;>cases Y.fF[k]?<;>cases A.tb[k]?<;>rfl
 ·show bR s' 1 (fJ (Y.fF++[cp])) σ' (Grow G U);have:fJ (Y.fF++[cp])=fJ Y.fF++[.pointer (some ⟨cp,0,none⟩)]:=by simp[fJ]
  rw[this];exact r
theorem LR (hlen:A.cM.length<=Y.fU.length)(tp:Nat)(s':Sl):cK A {Y with cN:=s',fU:=Y.fU++[tp]}=cK A Y:=by
 funext k
 unfold cK;simp only;rcases kr k Y.fU.length with h1|h1
 ·rw[ze h1]
 ·have:A.cM[k]?=none:=zV O;rw[this]
  funext U F
  unfold kH;cases(Y.fU++[tp])[k]?<;>cases Y.fU[k]?<;>cases A.tb[k]?<;>rfl
theorem Ew {cs:List Value}(h:Sep (fW A Y (cK A Y) cs) U F)(hlen:A.cM.length<=Y.fU.length)(hl:Y.fU.length<=40){vb tp ty:Nat}(hb:bY U vb [.pointer (some ⟨tp,0,none⟩)])(hvb:¬F vb){K:Sl->Hp->Prop}
 (hK:∀s' σ',Ext F U σ'->Sep (fW A {Y with cN:=s',fU:=Y.fU++[tp]} (cK A {Y with cN:=s',fU:=Y.fU++[tp]}) cs) σ' (Grow F U)->K s' σ'):App Y.cN 1 8 ty [.pointer none] ⟨some ⟨vb,0,none⟩,1,1⟩ U K:=by
 have g:∀k,dL (cK A Y k):=λk=>cK.loc k;obtain⟨G,i,d,_,a⟩:=h.jW (fW.loc g) .cN;have d:bR Y.cN 1 (fJ Y.fU) U G:=d;have s:Y.cN.len=Y.fU.length:=by have:=d.1;simp[fJ]at this;omega
 refine d.app (ys:=[.pointer (some ⟨tp,0,none⟩)]) rfl rfl ?_ (by simp[dQ]) aC aC mO λs' σ' m e p=>hK s' σ' (e.sub i) ?_
 ·intro j u hu;rw[add_lit,zH,hb.cell];exact hu
 rw[LR hlen];refine(Sep.loc (fW.loc g)).mono (a σ' (fW A {Y with cN:=s',fU:=Y.fU++[tp]} (cK A Y) cs) (Grow G U) (λj r=>?_) e (λb hb=>hb) ?_ (fW.loc g _)) λb _ hb=>HB i (λb hb=>hb) b hb
 ·cases j<;>first|rfl|exact absurd rfl r
 ·show bR s' 1 (fJ (Y.fU++[tp])) σ' (Grow G U);have:fJ (Y.fU++[tp])=fJ Y.fU++[.pointer (some ⟨tp,0,none⟩)]:=by simp[fJ]
  rw[this];exact p
theorem Cq {cs:List Value}(hT:∀k,dL (T k))(h:Sep (fW A Y T cs) U F){i:Nat}{v:Value}(hi:i<cs.length){K:aP}(hK:∀σ',Ext F U σ'->Sep (fW A Y T (cs.set i v)) σ' F->K σ'):dW (Addr.add ⟨Y.p,0,none⟩ i) v U K:=by
 obtain⟨G,g,d,_,e⟩:=h.jW (fW.loc hT) .hd;have d:iq Y.p cs U G:=d;refine d.2.s1 O λσ' o b=>hK σ' (o.ext.sub λb a=>by subst a;exact g _ d.1) ?_;rw[zH]at b;refine(Sep.loc (fW.loc hT)).mono (e σ' (fW A Y T (cs.set i v)) G (λj m=>?_) (o.ext.sub λb a=>by subst a;exact d.1) (λb a=>.inl a) ⟨d.1,b⟩ (fW.loc hT _)) λb _ a=>yi g (λb a=>a) b a;cases j<;>first|rfl|exact absurd rfl m
theorem mi {cs:List Value}(h:Sep (fW A Y T cs) U F):bY U Y.p cs/\F Y.p:=by
 obtain⟨G,d,b,a⟩:=h.get .hd;exact⟨a,d _ b⟩
theorem Rp {cs:List Value}{i cp tp:Nat}{c:bZ}{ss:List cG}{t:gD}{ps:List (Nat×Nat)}{Gc Gt:Rg}(h:Sep (fW A Y (cK A Y) cs) U F)(hlc:A.cD.length=i)(hlt:A.cM.length=i)(hcp:Y.fF[i]?=some cp)(htp:Y.fU[i]?=some tp)(hc:A.tb[i]?=some c)
 (hC:fA U Gc cp c ps ss) (hTf:jl U Gt tp c.batch A.room t) (d1:∀b,Gc b->¬F b) (d2:∀b,Gt b->¬F b) (d3:∀b,Gc b->¬Gt b) :
 Sep (fW {A with cD:=A.cD++[ss],cM:=A.cM++[t]} Y (cK {A with cD:=A.cD++[ss],cM:=A.cM++[t]} Y) cs) U λb=>(F b\/Gc b)\/Gt b:=by
 have m:∀k,dL (cK A Y k):=λk=>cK.loc k;have u:Sep (fW {A with cD:=A.cD++[ss]} Y (cK A Y) cs) U λb=>F b\/Gc b:=by
  refine h.put (fW.loc m) (.cD i) d1 (λj d=>?_) ?_ (fW.loc m _)
  ·cases j<;>first|rfl|skip
   rename_i k;have g:k≠i:=λe=>d (by rw[e]);show jU Y.fF[k]? A.tb[k]? (A.cD++[ss])[k]?=jU Y.fF[k]? A.tb[k]? A.cD[k]?;rcases kr k i with h2|h2
   ·rw[ze O]
   ·have p:(A.cD++[ss])[k]?=none:=zV (by rw[zO,BU];omega);have r:A.cD[k]?=none:=zV O;rw[p,r]
  ·show jU Y.fF[i]? A.tb[i]? (A.cD++[ss])[i]? U Gc;rw[hcp,hc,zp O,hlc,qt];exact⟨ps,hC⟩
 refine u.put (fW.loc m) (.cM i) (λb s a=>?_) (λj d=>?_) ?_ (fW.loc (λk=>cK.loc k) _)
 ·rcases a with a|a
  ·exact d2 b s a
  ·exact d3 b a s
 ·cases j<;>first|rfl|skip
  rename_i k;have g:k≠i:=λe=>d (by rw[e]);show kH Y.fU[k]? A.tb[k]? A.room (A.cM++[t])[k]?=kH Y.fU[k]? A.tb[k]? A.room A.cM[k]?;rcases kr k i with h2|h2
  ·rw[ze O]
  ·have p:(A.cM++[t])[k]?=none:=zV (by rw[zO,BU];omega);have r:A.cM[k]?=none:=zV O;rw[p,r]
 ·show kH Y.fU[i]? A.tb[i]? A.room (A.cM++[t])[i]? U Gt;rw[htp,hc,zp O,hlt,qt];exact hTf
open Classical in
noncomputable def jm {L:Type}(C:L->Hp->Rg->Prop)(S:L->Prop)(i:L):Hp->Rg->Prop:=if S i then C i else xQ
theorem jm.loc {L:Type}{C:L->Hp->Rg->Prop}{S:L->Prop}(hC:∀i,dL (C i))(i:L):dL (jm C S i):=by
 unfold jm;split
 ·exact hC i
 ·exact xQ.loc
theorem jm.put {L:Type}{C:L->Hp->Rg->Prop}{S:L->Prop}{F G:Rg}(hC:∀i,dL (C i))(h:Sep (jm C S) U F)(i:L)(hd:∀b,G b->¬F b)(hi:C i U G):Sep (jm C λj=>S j\/j=i) U λb=>F b\/G b:=by
 refine h.put (jm.loc hC) i hd (λj a=>?_) ?_ (jm.loc hC i)
 ·unfold jm;by_cases hS:S j
  ·rw[zC (.inl hS),zC hS]
  ·rw[zB (λh=>hS (h.resolve_right a)),zB hS]
 ·unfold jm;rw[zC (.inr rfl)];exact hi
theorem jm.all {L:Type}{C:L->Hp->Rg->Prop}{S:L->Prop}{F:Rg}(h:Sep (jm C S) U F)(hS:∀i,S i):Sep C U F:=by
 have:jm C S=C:=by
  funext i;unfold jm;rw[zC (hS i)]
 rw[this]at h;exact h
theorem jm.one {L:Type}{C:L->Hp->Rg->Prop}(S:L->Prop)(l:L)(h:∀i,S i->C i U λ_=>False):Sep (jm C S) U λ_=>False:=by
 refine⟨λ_=>l,λi=>?_⟩;have:(λ(b:Nat)=>False/\l=i)=λ_=>False:=by funext b;simp
 rw[this];unfold jm;by_cases hS:S i
 ·rw[zC hS];exact h i hS
 ·rw[zB hS];trivial
theorem O7 {tb:List bZ}:∀v∈fX tb,dQ v=true:=by
 intro v hv;simp only[fX,List.mem_flatMap]at hv;obtain⟨c,_,a⟩:=hv;simp at a;rcases a with rfl|rfl|rfl<;>rfl
theorem U4 {s:Sl}{xs:List (Int×Int×Int)}(ha:ie U s xs)(hv:Qc xs=true){i:Nat}{c:bZ}(hc:(xs.map ZZ)[i]?=some c):xs[i]?=some ((c.size:Int),(c.aF:Int),(c.batch:Int))/\c.ok:=by
 rw[zd,nV]at hc;obtain⟨⟨x,y,z⟩,g,rfl⟩:=hc;obtain⟨c,a,j,d,b,e⟩:=Gb (((Z7 xs).1 hv).2.2.1 i _ g);simp only at d b e;rw[j,g,d,b,e];exact⟨rfl,a⟩
theorem VN {s:Sl}{xs:List (Int×Int×Int)}(ha:ie U s xs)(hv:Qc xs=true){R:Sl->Hp->Prop}(hR:∀s' σ',bK U σ'->cU s' 3 (fX (xs.map ZZ)) σ' (λb=>U.size<=b)->R s' σ'):Wi.c s U R:=by
 refine Wi.o ?_;unfold Wi.v;have H:=(Z7 xs).1 hv;have z:=ha.1;have p:0<(xs.map ZZ).length:=by rw[zl];omega
 have J:(xs.map ZZ)[0]?=some (xs.map ZZ)[0]:=cV p;obtain⟨L,d,a,_⟩:=ha.2 0 _ _ _ (U4 ha hv J).1;refine cB (by rw[a];rfl) (nw (cs:=[]) λv B e1 E=>?_);have r:=ZO ha e1;refine(bR.nil v (λb=>U.size<=b) 3 (some ⟨U.size,0,none⟩)).app (ys:=fX (xs.map ZZ)) rfl (by rw[VA,zl];omega) ?_ O7 aC aC O λs' F A C e=>hR s' F (Ext.fresh e1 C λi m=>m) ?_
 ·rw[a];intro j u hu;have w:=(cW.1 hu).1;rw[VA,zl]at w;have m:j/3<(xs.map ZZ).length:=by rw[zl];omega
  have x:(xs.map ZZ)[j/3]?=some (xs.map ZZ)[j/3]:=cV m;generalize (xs.map ZZ)[j/3]=c at x;have g:=Gw x;obtain⟨b,o,y,_,D,G,K⟩:=r.2 (j/3) _ _ _ (U4 ha hv x).1;rw[a]at y;cases y;rw[add_lit];rcases(by omega:j=3*(j/3)\/j=3*(j/3)+1\/j=3*(j/3)+2)with hj|hj|hj
  ·rw[hj]at hu;rw[g.1]at hu;cases hu;rw[show d+j=d+j/3*3 by omega];exact D
  ·rw[hj]at hu;rw[g.2.1]at hu;cases hu;rw[show d+j=d+j/3*3+1 by omega];exact G
  ·rw[hj]at hu;rw[g.2.2]at hu;cases hu;rw[show d+j=d+j/3*3+2 by omega];exact K
 ·rw[sK]at e;refine aH.mono e.gZ λb _ g=>?_;rcases g with h|h
  ·exact h
  ·omega
def fo (n room:Nat)(tb:List bZ):AR:={n:=n,room:=room,tb:=tb,S:=Go.Bu.iu,st:=List.replicate n 0,ow:=λ_=>0,cD:=List.replicate tb.length [],cM:=List.replicate tb.length ⟨0,[]⟩,runs:=[]}
def jf (n room:Nat)(tb:List bZ)(i:Nat):AR:={fo n room tb with cD:=List.replicate i [],cM:=List.replicate i ⟨0,[]⟩}
def kN (xs:List (Int×Int×Int))(n:Nat)(room:Int):Int:=if Qc xs then(if 32<=n/\n%16=0/\0<=room/\room<=8 then 0 else 1)else 2
def S0:Lb->Prop
 | .dO | .cN | .cD _ | .cM _=>True
 | _=>False
theorem F0 {i cp tp:Nat}{c:bZ}{ss:List cG}{t:gD}{ps:List (Nat×Nat)}{Gc Gt:Rg}{dO cN:Sl}(hpos:Y.fF.length=i/\Y.fU.length=i)
 (h:Sep (fW A {Y with dO:=dO,cN:=cN,fF:=Y.fF++[cp],fU:=Y.fU++[tp]} (cK A {Y with dO:=dO,cN:=cN,fF:=Y.fF++[cp],fU:=Y.fU++[tp]}) (kB Y)) U F)
 (hlc:A.cD.length=i) (hlt:A.cM.length=i) (hc:A.tb[i]?=some c) (hC:fA U Gc cp c ps ss) (hTf:jl U Gt tp c.batch A.room t) (d1:∀b,Gc b->¬F b) (d2:∀b,Gt b->¬F b) (d3:∀b,Gc b->¬Gt b) {K:aP}
 (hK:∀σ' Y',Ext F U σ'->Y'.p=Y.p->Y'.hs=Y.hs->Y'.fF.length=i+1->Y'.fU.length=i+1->Sep (fW {A with cD:=A.cD++[ss],cM:=A.cM++[t]} Y' (cK {A with cD:=A.cD++[ss],cM:=A.cM++[t]} Y') (kB Y')) σ' (λb=>(F b\/Gc b)\/Gt b)->K σ') :
 bU (some ⟨Y.p,0,none⟩) λa93=>dW (a93.add 5) (.slice dO.a dO.len dO.cap) U λv25=>bU (some ⟨Y.p,0,none⟩) λa95=>dW (a95.add 6) (.slice cN.a cN.len cN.cap) v25 K:=by
 have m:∀k,dL (cK A {Y with dO:=dO,cN:=cN,fF:=Y.fF++[cp],fU:=Y.fU++[tp]} k):=λk=>cK.loc k;refine aG (Cq (Y:={Y with dO:=dO,cN:=cN,fF:=Y.fF++[cp],fU:=Y.fU++[tp]}) m h (i:=5) (by simp[kB]) λx e1 r=>aG (Cq (Y:={Y with dO:=dO,cN:=cN,fF:=Y.fF++[cp],fU:=Y.fU++[tp]}) m r (i:=6) (by simp[kB]) λu e2 w=>?_));have j:=(fA.loc (c:=c) (ps:=ps) (ss:=ss) (p:=cp)).bS ((fA.loc (c:=c) (ps:=ps) (ss:=ss) (p:=cp)).bS hC e1 λb _ e d=>d1 b e d) e2 λb _ e d=>d1 b e d;have g:=(jl.loc (p:=tp) (batch:=c.batch) (room:=A.room) (t:=t)).bS ((jl.loc (p:=tp) (batch:=c.batch) (room:=A.room) (t:=t)).bS hTf e1 λb _ e d=>d2 b e d) e2 λb _ e d=>d2 b e d;have s:=Rp (cp:=cp) (tp:=tp) w hlc hlt (by simp only;rw[zp O,hpos.1,qt];rfl) (by simp only;rw[zp O,hpos.2,qt];rfl) hc j g d1 d2 d3;exact hK u {Y with dO:=dO,cN:=cN,fF:=Y.fF++[cp],fU:=Y.fU++[tp]} (e1.trans e2) rfl rfl (by simp[hpos.1]) (by simp[hpos.2]) s
theorem qb {cs:List Value}{σ':Hp}(hT:∀k,dL (T k))(h:Sep (fW A Y T cs) U F)(e:bK U σ'):Sep (fW A Y T cs) σ' F:=(Sep.loc (fW.loc hT)).bO h e
theorem Fo {cs:List Value}(hT:∀k,dL (T k))(h:Sep (fW A Y T cs) U F):Sep (fW A Y T cs) U (Cut F U):=(Sep.loc (fW.loc hT)).cut h
theorem Rz (n room:Nat)(tb:List bZ)(i:Nat):({jf n room tb i with cD:=(jf n room tb i).cD++[[]],cM:=(jf n room tb i).cM++[⟨0,[]⟩]}:AR)=jf n room tb (i+1):=by
 unfold jf;simp only[←Aw]
theorem MG (n room:Nat)(tb:List bZ):jf n room tb tb.length=fo n room tb:=rfl
theorem OB {i cp tp:Nat}{c:bZ}{ss:List cG}{t:gD}{ps:List (Nat×Nat)}{Gc Gt:Rg}{z:Nat}(hF:∀b,F b->z<=b/\b<U.size)(hpos:Y.fF.length=i/\Y.fU.length=i)(hi:i<40)
 (h:Sep (fW A Y (cK A Y) (kB Y)) U F) (hlc:A.cD.length=i) (hlt:A.cM.length=i) (hc:A.tb[i]?=some c) (hC:fA U Gc cp c ps ss) (hTf:jl U Gt tp c.batch A.room t) (d1:∀b,Gc b->¬F b/\z<=b/\b<U.size) (d2:∀b,Gt b->¬F b/\z<=b/\b<U.size) (d3:∀b,Gc b->¬Gt b) {J4:aP}
 (hK:∀σ' Y',Ext F U σ'->Y'.p=Y.p->Y'.hs=Y.hs->Y'.fF.length=i+1->Y'.fU.length=i+1->Sep (fW {A with cD:=A.cD++[ss],cM:=A.cM++[t]} Y' (cK {A with cD:=A.cD++[ss],cM:=A.cM++[t]} Y') (kB Y')) σ' (λb=>z<=b)->J4 σ') :
 eL U λS=>bU (some ⟨Y.p,0,none⟩) λa80=>gC S .s (a80.add 5) λ(t82:Sl)=>bU (some ⟨Y.p,0,none⟩) λa87=>gC S .s (a87.add 6) λ(t89:Sl)=>
  (Nw (.cells #[.pointer (some ⟨cp,0,none⟩)] 182 (0,0)) U λn84 v21=>And (S v21) <|
   (App t82 1 8 182 [.pointer none] ⟨some n84,1,1⟩ v21 λt85 v22=>And (S v22)<|Nw (.cells #[.pointer (some ⟨tp,0,none⟩)] 184 (0,0)) v22 λn91 v23=>And (S v23)<|App t89 1 8 184 [.pointer none] ⟨some n91,1,1⟩ v23 λt92 v24=>And (S v24) <|
   bU (some ⟨Y.p,0,none⟩) λa93=>dW (a93.add 5) (.slice t85.a t85.len t85.cap) v24 λv25=>bU (some ⟨Y.p,0,none⟩) λa95=>dW (a95.add 6) (.slice t92.a t92.len t92.cap) v25 λv26=>J4 v26) ∧
   (Nw (.cells #[.pointer (some ⟨tp,0,none⟩)] 184 (0,0)) v21 λn911 v27=>And (S v27)<|App t82 1 8 182 [.pointer none] ⟨some n84,1,1⟩ v27 λt851 v28=>And (S v28)<|App t89 1 8 184 [.pointer none] ⟨some n911,1,1⟩ v28 λt921 v29=>And (S v29) <|
   bU (some ⟨Y.p,0,none⟩) λa931=>dW (a931.add 5) (.slice t851.a t851.len t851.cap) v29 λv30=>bU (some ⟨Y.p,0,none⟩) λa951=>dW (a951.add 6) (.slice t921.a t921.len t921.cap) v30 λv31=>J4 v31)) ∧
  (Nw (.cells #[.pointer (some ⟨tp,0,none⟩)] 184 (0,0)) U λn912 v32=>And (S v32)<|Nw (.cells #[.pointer (some ⟨cp,0,none⟩)] 182 (0,0)) v32 λn841 v33=>And (S v33) <|
  App t82 1 8 182 [.pointer none] ⟨some n841,1,1⟩ v33 λt852 v34=>And (S v34)<|App t89 1 8 184 [.pointer none] ⟨some n912,1,1⟩ v34 λt922 v35=>And (S v35) <|
  bU (some ⟨Y.p,0,none⟩) λa932=>dW (a932.add 5) (.slice t852.a t852.len t852.cap) v35 λv36=>bU (some ⟨Y.p,0,none⟩) λa952=>dW (a952.add 6) (.slice t922.a t922.len t922.cap) v36 λv37=>J4 v37):=by
 have H:∀k,dL (cK A Y k):=λk=>cK.loc k;have N:=fA.loc (c:=c) (ps:=ps) (ss:=ss) (p:=cp);have ab:=jl.loc (p:=tp) (batch:=c.batch) (room:=A.room) (t:=t);refine⟨λm=>bY m Y.p (kB Y),(mi h).1,aG ⟨Y.dO,λm hm=>by rw[add_lit,hm.cell];rfl,aG ⟨Y.cN,λm hm=>by rw[add_lit,hm.cell];rfl,?_⟩⟩⟩;have D:∀(w:Hp) (F1:Rg) (b1 b2:Nat),bK U w->(∀b,F1 b->F b)->Sep (fW A Y (cK A Y) (kB Y)) w F1->bY w b1 [.pointer (some ⟨cp,0,none⟩)]->bY w b2 [.pointer (some ⟨tp,0,none⟩)]->U.size<=b1->U.size<=b2 →
  App Y.dO 1 8 182 [.pointer none] ⟨some ⟨b1,0,none⟩,1,1⟩ w λt85 v28=>And (bY v28 Y.p (kB Y))<|App Y.cN 1 8 184 [.pointer none] ⟨some ⟨b2,0,none⟩,1,1⟩ v28 λt92 v29=>And (bY v29 Y.p (kB Y)) <|
   bU (some ⟨Y.p,0,none⟩) λa93=>dW (a93.add 5) (.slice t85.a t85.len t85.cap) v29 λv30=>bU (some ⟨Y.p,0,none⟩) λa95=>dW (a95.add 6) (.slice t92.a t92.len t92.cap) v30 λv31=>J4 v31:=by
  intro w F1 b1 b2 ew hF1 hw hb1 hb2 hz1 hz2;have x:∀b,F1 b->z<=b/\b<U.size:=λb d=>hF b (hF1 b d);have hsw:=ew.1;refine D9 H hw O O hb1 (λg=>by have:=x _ g;omega) λs1 v28 E K=>?_;have Z:=(mi K).1;have W:Sep (fW A {Y with dO:=s1,fF:=Y.fF++[cp]} (cK A {Y with dO:=s1,fF:=Y.fF++[cp]}) (kB Y)) v28 (Grow F1 w):=K;refine⟨Z,?_⟩;have c28:Sep (fW A {Y with dO:=s1,fF:=Y.fF++[cp]} (cK A {Y with dO:=s1,fF:=Y.fF++[cp]}) (kB Y)) v28 (λb=>F1 b\/w.size<=b):=W;have V:=E.bT hb2 λg=>by have:=x _ g;omega
  have hb2lt:=hb2.lt;refine Ew c28 aC aC V (λg=>by
   rcases g with g|g
   ·have:=x _ g;omega
   ·omega) λs2 v29 e29 ac=>?_
  refine⟨(mi ac).1,?_⟩;have G:∀b,(F1 b\/w.size<=b)->F b\/U.size<=b:=λb d=>by
   rcases d with d|d
   ·exact .inl (hF1 b d)
   ·exact .inr O
  have j:Ext F U v29:=((bK.to ew).trans (E.sub hF1)).dT e29 G;have X:=N.bS hC j λb _ d g=>(d1 b d).1 g;have R:=ab.bS hTf j λb _ d g=>(d2 b d).1 g;have hs28:=E.1;refine F0 (F:=Grow (λb=>F1 b\/w.size<=b) v28) hpos ac hlc hlt hc X R (λb d g=>?_) (λb d g=>?_) d3 λw2 Y' e2 p1 p2 p3 p4 h2=>?_
  ·have:=d1 b d;rcases g with(g|g)|g
   ·exact this.1 (hF1 b g)
   ·omega
   ·omega
  ·have:=d2 b d;rcases g with(g|g)|g
   ·exact this.1 (hF1 b g)
   ·omega
   ·omega
  ·refine hK w2 Y' (j.dT e2 λb d=>?_) p1 p2 p3 p4 ((Sep.loc (fW.loc (λk=>cK.loc k))).mono h2 λb _ d=>?_)
   ·rcases d with(d|d)|d
    ·exact .inl (hF1 b d)
    ·exact .inr O
    ·exact .inr O
   ·have hz0:z<=U.size:=by have:=(d1 _ hC.fp);omega
    rcases d with(((d|d)|d)|d)|d
    ·exact(x b d).1
    ·omega
    ·omega
    ·exact(d1 b d).2.1
    ·exact(d2 b d).2.1
 have S0:∀{w:Hp},bK U w->bY w Y.p (kB Y):=λe=>e.bT (mi h).1 id;refine⟨nw (cs:=[.pointer (some ⟨cp,0,none⟩)]) λv21 z21 u P=>⟨S0 u,?_,?_⟩,nw (cs:=[.pointer (some ⟨tp,0,none⟩)]) λv32 z32 B al=>⟨S0 B,nw (cs:=[.pointer (some ⟨cp,0,none⟩)]) λv33 z33 C ag=>⟨S0 (Ext.trans B C),?_⟩⟩⟩
 ·-- row,box,row
  have h21:=qb H h u;refine D9 H h21 O O P (λg=>by have:=hF _ g;omega) λs1 v22 Q af=>⟨(mi af).1,?_⟩;have L:Sep (fW A {Y with dO:=s1,fF:=Y.fF++[cp]} (cK A {Y with dO:=s1,fF:=Y.fF++[cp]}) (kB Y)) v22 (Grow F v21):=af;have ak:=Fo (λk=>cK.loc k) L;refine nw (cs:=[.pointer (some ⟨tp,0,none⟩)]) λv23 z23 J ai=>?_;have ae:=qb (λk=>cK.loc k) ak J;refine⟨(mi ae).1,Ew ae aC aC ai (λg=>by have:=g.2;omega) λs2 v24 ah ad=>⟨(mi ad).1,?_⟩⟩;have hs22:=Q.1;have hs23:=J.1;have r:∀b,Cut (Grow F v21) v22 b->F b\/U.size<=b:=λb d=>by
   rcases d.1 with h|h
   ·exact .inl h
   ·exact .inr O
  have j:Ext F U v24:=((((bK.to u).trans Q).jQ J)).dT ah r;have aa:=N.bS hC j λb _ d g=>(d1 b d).1 g;have M:=ab.bS hTf j λb _ d g=>(d2 b d).1 g;refine F0 (F:=Grow (Cut (Grow F v21) v22) v23) hpos ad hlc hlt hc aa M (λb d g=>?_) (λb d g=>?_) d3 λw2 Y' e2 p1 p2 p3 p4 h2=>?_
  ·have:=d1 b d;rcases g with g|g
   ·rcases g.1 with g|g
    ·exact this.1 g
    ·omega
   ·omega
  ·have:=d2 b d;rcases g with g|g
   ·rcases g.1 with g|g
    ·exact this.1 g
    ·omega
   ·omega
  ·refine hK w2 Y' (j.dT e2 λb d=>?_) p1 p2 p3 p4 ((Sep.loc (fW.loc (λk=>cK.loc k))).mono h2 λb _ d=>?_)
   ·rcases d with d|d
    ·exact r b d
    ·exact .inr O
   ·have hz0:z<=U.size:=by have:=(d1 _ hC.fp);omega
    rcases d with((d|d)|d)|d
    ·rcases r b d with h|h
     ·exact(hF b h).1
     ·omega
    ·omega
    ·exact(d1 b d).2.1
    ·exact(d2 b d).2.1
 ·-- box,row,row
  refine nw (cs:=[.pointer (some ⟨tp,0,none⟩)]) λv27 z27 y aj=>⟨S0 (Ext.trans u y),?_⟩;exact D v27 F U.size v21.size (Ext.trans u y) (λb d=>d) (qb H (qb H h u) y) (y.bT P id) aj (zD _) O
 ·exact D v33 F v32.size U.size (Ext.trans B C) (λb d=>d) (qb H (qb H h B) C) ag (C.bT al id) O (zD _)
theorem xH {P:Hp->Rg->Prop}(hl:dL P){a:Nat}(h:P U λb=>a<=b):P U λb=>a<=b/\b<U.size:=hl.mono h λb d e=>⟨e,d⟩
theorem Ny {n room:Nat}{tb:List bZ}(h1:32<=n)(h2:n<=1024)(h3:n%16=0)(h4:room<=8)(h5:1<=tb.length)(h6:tb.length<=40)(h7:∀c∈tb,c.ok)(hc:Y.fF.length=tb.length)(ht:Y.fU.length=tb.length):eV (fo n room tb) Y:=
 ⟨hc,ht,by simp[fo],by simp[fo],h5,h6,h1,h2,h3,by simp[fo],h4,h7⟩
theorem Oq {s:Sl}{xs:List (Int×Int×Int)}(ha:ie U s xs)(hS:dK U H hs sp)(room:Int){R:Option Addr->Int->Hp->Prop}
 (h0:kN xs sp.st.length room≠0->∀σ',bK U σ'->R none (kN xs sp.st.length room) σ')
 (h1:kN xs sp.st.length room=0->∀σ' Y,bK U σ'->Y.hs=hs->dG σ' (λb=>U.size<=b) Y (fo sp.st.length room.toNat (xs.map ZZ)) (cK (fo sp.st.length room.toNat (xs.map ZZ)) Y)->R (some ⟨Y.p,0,none⟩) 0 σ') :
 QK.c s (some ⟨hs,0,none⟩) room U R:=by
 refine QK.o ?_;unfold QK.v;have hn2:sp.st.length<=1024:=by obtain⟨q,r,l,B,h⟩:=hS;exact h.n2
 refine Ge ha λv e=>?_;cases hv:Qc xs
 ·have e1:kN xs sp.st.length room=2:=by unfold kN;rw[hv];rfl
  have:=h0 (by rw[e1];decide) v e;rw[e1]at this;exact cE rfl this
 have eE:kN xs sp.st.length room=if 32<=sp.st.length/\sp.st.length%16=0/\0<=room/\room<=8 then 0 else 1:=by unfold kN;rw[hv,zC rfl]
 refine cB rfl (E4 (hS.bO e) ?_);have D:¬(32<=sp.st.length/\sp.st.length%16=0/\0<=room/\room<=8)->R none 1 v:=λhn=>by
  rw[zB hn]at eE;have:=h0 (by rw[eE];decide) v e;rw[eE]at this;exact this
 have tm:(((sp.st.length:Nat):Int).tmod 16)=((sp.st.length%16:Nat):Int):=by rw[Qz O];simp
 refine bW.intro (cQ (λc1=>bW.intro (cE rfl (bW.intro (cE rfl (cE rfl (D O)))))) λc1=>nz aB ?_);rw[tm,I6];refine bW.intro (cO (λc2=>bW.intro (cE rfl (cE rfl (D (λh=>by have:=h.2.1;simp[this]at c2))))) λc2=>?_);have ac:sp.st.length%16=0:=by simpa using c2
 refine bW.intro (cQ (λc3=>cE rfl (D O)) λc3=>cQ (λc4=>D O) λc4=>?_);obtain⟨X,rfl⟩:=za (show 0<=room by omega);rw[zC O]at eE;have h1:=h1 eE;simp only[dE]at h1;have hva:=(Z7 xs).1 hv;have N:=ZO ha e;have hn1:32<=sp.st.length:=by omega
 generalize sp.st.length=n at *;have hlen:s.len=(xs.map ZZ).length:=by rw[zl];exact ha.1
 have ad:∀{σ':Hp} {i:Nat} {c:bZ},ie σ' s xs->(xs.map ZZ)[i]?=some c->xs[i]?=some ((c.size:Int),(c.aF:Int),(c.batch:Int))/\c.ok:=λh P=>U4 h hv P;have J:1<=(xs.map ZZ).length/\(xs.map ZZ).length<=40:=by rw[zl];omega
 refine VN N hv λdD v5 e5 htab=>Pw λW op e6 hop hP=>sJ λA z7 e7 hm=>?_;generalize htbd:xs.map ZZ=tb at *;refine nw (cs:=[.slice dD.a dD.len dD.cap,.pointer (some ⟨hs,0,none⟩),.pointer none,.pointer none,.pointer (some ⟨op,0,none⟩),.slice none 0 0,.slice none 0 0,.map (some W.size)]) λv8 z8 e8 b8=>?_;refine Go.Bu.sB _ (λg=>absurd ⟨O,O⟩ g) λn' hn' _ _ v9 sb ms e9 hB hfp=>?_;have hnn:n=n':=by omega
 subst hnn;have b9:=e9.bT b8 id;refine aG (b9.s1 aA λv10 gQ b10=>Sw O O ac λK tp tq M htp htq hTk=>aG ((M.bT b10 id).s1 aA λv12 Q b12=>?_));have s5:=e5.1;have s6:=e6.1;have s9:=e9.1;have s10:=gQ.1;have s11:=M.1;have s12:=Q.1;have hb8:=b8.lt;have x9:Ext (· = A.size) v9 v12:=(gQ.ext.trans (bK.to M)).trans Q.ext;have x5:Ext (· = A.size) v5 v12:=(bK.to (Ext.trans (Ext.trans (Ext.trans e6 e7) e8) e9)).trans x9;have x6:Ext (· = A.size) W v12:=(bK.to (Ext.trans (Ext.trans e7 e8) e9)).trans x9;have x7:Ext (· = A.size) A v12:=(bK.to (Ext.trans e8 e9)).trans x9;have x11:Ext (· = A.size) K v12:=Q.ext;have p1:=aH.bS (xH aH htab) x5 λb _ g d=>by omega
 have p2:=(jb.loc (p:=op) (ow:=λ_=>0)).bS (xH jb.loc hP) x6 λb _ g d=>by omega
 have p3:dH v12 W.size .i64 bN []:=x7.fO (hm _ _) O;have p5:sy v8.size n Go.Bu.iu v12 (λb=>v8.size<=b/\b<v9.size):=(sy.loc _ _ _).bS (xH (sy.loc _ _ _) ⟨sb,ms,hB,hfp⟩) x9 λb _ g d=>by omega
 have p6:l0 tp (List.replicate n 0) v12 (λb=>v10.size<=b/\b<K.size):=(l0.loc _ _).bS (xH (l0.loc _ _) ⟨tq,hTk,htp,htq⟩) x11 λb _ g d=>by omega
 let Y0:Lay:={p:=A.size,hs:=hs,fr:=v8.size,tr:=tp,op:=op,rn:=W.size,dD:=dD,dO:=⟨none,0,0⟩,cN:=⟨none,0,0⟩,fF:=[],fU:=[]}
 have b12':bY v12 A.size (kB Y0):=b12
 let Cf:=fW (jf n X tb 0) Y0 (cK (jf n X tb 0) Y0) (kB Y0)
 have u:∀i,dL (Cf i):=fW.loc λk=>cK.loc k;have q0:Sep (jm Cf S0) v12 λ_=>False:=jm.one S0 .hd λi V=>by
  cases i<;>first|exact V.elim|exact bR.nil _ _ _ _|exact trivial
 have q1:=jm.put u q0 .dD (G:=λb=>v.size<=b/\b<v5.size) (λb g d=>d) p1;have q2:=jm.put u q1 .own (G:=λb=>v5.size<=b/\b<W.size) (λb g d=>by
  rcases d with d|d
  ·exact d
  ·omega) p2
 have q3:=jm.put u q2 .runs (G:=λb=>b=W.size) (λb g d=>by
  rcases d with(d|d)|d
  ·exact d
  ·omega
  ·omega) ⟨rfl,p3⟩
 have q4:=jm.put u q3 .hd (G:=λb=>b=A.size) (λb g d=>by
  rcases d with((d|d)|d)|d
  ·exact d
  ·omega
  ·omega
  ·omega) ⟨rfl,b12'⟩
 have q5:=jm.put u q4 .free (G:=λb=>v8.size<=b/\b<v9.size) (λb g d=>by
  rcases d with(((d|d)|d)|d)|d
  ·exact d
  ·omega
  ·omega
  ·omega
  ·omega) p5
 have q6:=jm.put u q5 .nE (G:=λb=>v10.size<=b/\b<K.size) (λb g d=>by
  rcases d with((((d|d)|d)|d)|d)|d
  ·exact d
  ·omega
  ·omega
  ·omega
  ·omega
  ·omega) p6
 have q7:Sep Cf v12 λb=>v.size<=b:=by
  refine(Sep.loc u).mono (jm.all q6 λi=>?_) λb _ d=>?_
  ·cases i<;>simp[S0]
  ·rcases d with(((((d|d)|d)|d)|d)|d)|d
   ·exact d.elim
   ·omega
   ·omega
   ·omega
   ·omega
   ·omega
   ·omega
 have e12:bK v v12:=Ext.fresh e5 x5 λi V=>by omega
 have szv:=e.1;refine ZY (a:=bN) (λ(t:Int) w=>∃(i:Nat) (Y:Lay),t=(i:Int)/\i<=tb.length/\Y.p=A.size/\Y.hs=hs/\Y.fF.length=i/\Y.fU.length=i/\bK v w/\Sep (fW (jf n X tb i) Y (cK (jf n X tb i) Y) (kB Y)) w (λb=>v.size<=b)) (λt _=>tb.length-t.toNat)
  ⟨0,Y0,rfl,O,rfl,rfl,rfl,rfl,e12,q7⟩ ?_
 rintro t w ⟨i,Y,rfl,V,aa,ae,hYc,hYt,ew,y⟩;refine cQ (λhlt=>?_) λhge=>?_
 ·have hi':i<tb.length:=by omega
  have P:tb[i]?=some tb[i]:=cV hi';generalize tb[i]=c at P;have Z:=ZO N ew;obtain⟨hxi,hok⟩:=ad Z P;refine yz Z hxi ?_;refine nw (cs:=[.int .i64 0,.int .i64 0,.int .i64 0]) λv14 hz14 e14 b14=>b14.s1 aA λv15 o15 b15=>b15.s1 aA λv16 o16 b16=>b16.s1 aA λv17 o17 b17=>?_;have L:bK w v17:=Ext.fresh (Ext.fresh (Ext.fresh e14 o15.ext λi V=>O) o16.ext λi V=>O) o17.ext λi V=>by omega
  have x:bY v17 w.size [.int .i64 (c.size:Int),.int .i64 (c.aF:Int),.int .i64 (c.batch:Int)]:=b17;refine x.rI rfl (x.rI rfl (x.rI rfl (F7 hok λv18 cp E hcp1 hcp2 hCe=>?_)));have b18:=E.bT x id;obtain⟨_,_,_,_,_,_,hbt1,ab⟩:=id hok;refine b18.rI rfl (Lq hbt1 ab O λv19 tp2 C htp1 htp2 hTf=>Jn.intro ?_);have s14:=L.1;have s18:=E.1;have s19:=C.1;have sw:=ew.1;have hT:∀k,dL (cK (jf n X tb i) Y k):=λk=>cK.loc k;have h19:=qb hT (qb hT (qb hT (Fo hT y) L) E) C;have S:=hCe.bO C;rw[←aa];refine OB (F:=Cut (λb=>v.size<=b) w) (z:=v.size) (ss:=[]) (t:=⟨0,[]⟩) (λb g=>⟨g.1,by have:=g.2;omega⟩) ⟨hYc,hYt⟩ O h19 (by simp[jf]) (by simp[jf]) P S hTf (λb g=>?_) (λb g=>?_) (λb g hb2=>O) λw2 Y' e2 y1 y2 y3 y4 h2=>?_
  ·subst g;exact⟨λd=>by have:=d.2;omega,O,O⟩
  ·subst g;exact⟨λd=>by have:=d.2;omega,O,O⟩
  ·rw[Rz]at h2;exact cP (m:=i+1) O O ⟨⟨i+1,Y',rfl,O,y1,y2.trans ae,y3,y4,Ext.fresh (Ext.trans (Ext.trans (Ext.trans ew L) E) C) e2 λb g=>g.1,h2⟩,O⟩
 ·have:i=tb.length:=by omega
  subst this;rw[MG,Lx]at y;have hl:eV (fo n X tb) Y:=Ny hn1 hn2 ac O J.1 J.2 (λc P=>by
   obtain⟨j,hj⟩:=zQ P;exact(ad N hj).2) hYc hYt
  have:=h1 w Y (Ext.trans e ew) ae ⟨hl,λk=>cK.loc k,(Sep.loc (AC.loc λk=>cK.loc k)).mono y λb _ g=>zh szv g⟩;rw[aa]at this;exact this
end Go.Ar
namespace Go.Vc
open Go
variable {U:Hp}{F:Rg}{s:Sl}{sz:Nat}{xs:List Value}
def dI (s:Sl)(sz:Nat)(xs:List Value):Hp->Rg->Prop:=λh F=>xs.length=s.len*sz/\(s.len=0/\s.cap=0\/∃b o cs,F b/\s.a=some ⟨b,o,none⟩/\bY h b cs/\s.len<=s.cap/\cs.length=o+s.cap*sz/\(cs.drop o).take xs.length=xs)
theorem dI.loc (s:Sl)(sz:Nat)(xs:List Value):dL (dI s sz xs):=λU d F G h g a=>by
 refine⟨h.1,h.2.imp id ?_⟩;rintro⟨b,o,cs,hq,ha,⟨e,he⟩,r⟩;have:=a b (bY.lt ⟨e,he⟩) hq;exact⟨b,o,cs,this.1,ha,⟨e,this.2.trans he⟩,r⟩
theorem dI.nil (h:Hp)(F:Rg)(sz:Nat)(a:Option Addr):dI ⟨a,0,0⟩ sz [] h F:=⟨by simp,.inl ⟨rfl,rfl⟩⟩
theorem bR.o (h:bR s sz xs U F):dI s sz xs U F:=⟨h.1,h.2.imp id λ⟨b,m,j,d,i,a,g,e⟩=>⟨b,0,m,j,d,i,a,O,by simpa using e⟩⟩
theorem dI.gZ (h:dI s sz xs U F):cU s sz xs U F:=by
 refine⟨h.1,?_⟩;rcases h.2 with⟨hl,_⟩|⟨b,o,cs,hq,ha,hb,_,_,ht⟩
 ·left;have:=h.1;rw[hl]at this;simpa using this
 ·refine .inr ⟨b,o,cs,hq,ha,hb.q,λj a=>?_⟩;rw[←ht,zj,kO,zC a]
theorem dI.cap (h:dI s sz xs U F):s.len<=s.cap:=by
 rcases h.2 with⟨q1,q2⟩|⟨_,_,_,_,_,_,q,_⟩
 ·omega
 ·exact q
theorem dI.app {x:Sl}{bytes e:Nat}{zs ys:List Value}{K:Sl->Hp->Prop}(ho:dI s sz xs U F)(hz:zs.length=sz)
 (hy:ys.length=x.len*sz) (hr:Rd U x.a ys) (h1:∀v∈ys,dQ v=true) (hb:(s.len+x.len)*bytes<=2^46) (hc:s.len+x.len<=2^62)
 (hx:0<x.len) (hK:∀s' h',s'.len=s.len+x.len->Ext F U h'->dI s' sz (xs++ys) h' (Grow F U)->K s' h'):App s sz bytes e zs x U K:=by
 refine⟨xs,ys,ho.1,hy,ho.gZ.rd,hr,h1,hb,hc,λg=>?_,λr c m=>?_⟩
 ·rcases ho.2 with⟨hl,hcap⟩|⟨b,o,cs,hQ,ha,hk,hle,hcl,ht⟩
  ·omega
  ·rw[ha];simp only;rw[add_lit];have u:(s.len+x.len)*sz<=s.cap*sz:=lX _ g;rw[zm]at u;have d:=ho.1;refine VS hk O λh' p i=>hK _ h' rfl (Ext.eI p hQ) ⟨?_,.inr ⟨b,o,_,.inl hQ,rfl,i,g,?_,?_⟩⟩
   ·simp[d,hy,zm]
   ·simp;omega
   ·rw[zO,d,j0];have e1:(cs.take (o+s.len*sz)++ys++cs.drop (o+s.len*sz+ys.length)).drop o=(cs.drop o).take (s.len*sz)++(ys++cs.drop (o+s.len*sz+ys.length)):=by
     rw[j3,List.drop_append_of_le_length (by rw[zZ];omega),List.drop_take]
     congr 2;omega
    have j:(cs.drop o).take (s.len*sz)=xs:=by rw[←d];exact ht
    rw[e1,j,←j3,oD aE,mT aE]
 ·refine hK _ _ rfl (Ext.push _ _ _) ⟨by simp[ho.1,hy,zm],.inr ⟨U.size,0,xs++ys++(List.replicate (c-(s.len+x.len)) zs).flatten,.inr (zD _),rfl,⟨e,by simp⟩,m,?_,?_⟩⟩
  ·simp only[zO,wh,uv,uY,ho.1,hy,hz,←zm];rw[zH];congr 1;omega
  ·rw[List.drop_zero,oD aA,mT aA]
theorem dI.sH {x:Sl}{bytes e:Nat}{zs:List Value}{K:Sl->Hp->Prop}(ho:dI s sz xs U F)(hx:x.len=0)(hb:s.len*bytes<=2^46)(hc:s.len<=2^62)(hK:dI ⟨s.a,s.len,s.cap⟩ sz xs U F->K ⟨s.a,s.len,s.cap⟩ U):App s sz bytes e zs x U K:=by
 have d:=ho.cap;refine⟨xs,[],ho.1,by simp[hx],ho.gZ.rd,by cases x.a<;>simp[Rd],by simp,by rw[hx];exact hb,O,λg=>?_,λb=>absurd O b⟩
 rw[hx];have:=hK ho;cases ha:s.a<;>(rw[ha]at this;exact this)
theorem dI.from (h:dI s sz xs U F){lo:Nat}(h1:lo<=s.len):dI ⟨if s.cap=lo then s.a else s.a.map (·.add (lo*sz)),s.len-lo,s.cap-lo⟩ sz (xs.drop (lo*sz)) U F:=by
 have d:=h.1;refine⟨by rw[j2,d,Nat.sub_mul],?_⟩;rcases h.2 with⟨q1,q2⟩|⟨b,o,cs,hq,ha,hb,hle,hcl,ht⟩
 ·left;simp only;omega
 ·by_cases hm:s.cap=lo
  ·left;simp only;omega
  ·refine .inr ⟨b,o+lo*sz,cs,hq,by simp only[zB hm,ha,zX,add_lit],hb,by simp only;omega,?_,?_⟩
   ·have:lo*sz<=s.cap*sz:=lX _ O;rw[hcl,Nat.sub_mul];omega
   ·rw[j2]
    conv=>rhs;rw[←ht]
    rw[List.drop_take,List.drop_drop]
end Go.Vc
namespace Go.Ar
open Go Go.Vc Go.Proofs
variable {U:Hp}{F G:Rg}{Y:gO}{tb:List bZ}{bud:Nat}{ls:List Li}{b k:Nat}{l:Li}{c:bZ}
theorem IX {s:Sl}{xs:List (Int×Int×Int)}(ha:ie U s xs)(dA:Int){R:Option Addr->Int->Hp->Prop}(h0:Qc xs=false->∀σ',bK U σ'->R none 2 σ')
 (h1:Qc xs=true->¬(0<=dA/\dA<=65536)->∀σ',bK U σ'->R none 1 σ')
 (h2:Qc xs=true->0<=dA->dA<=65536->∀σ' Y,bK U σ'->eA σ' (λq=>U.size<=q) Y (xs.map ZZ) dA.toNat (List.replicate (xs.map ZZ).length ib)->R (some ⟨Y.p,0,none⟩) 0 σ') :
 QL.c s dA U R:=by
 refine QL.o ?_;unfold QL.v;refine Ge ha λv e=>?_;cases hv:Qc xs
 ·exact cE rfl (h0 hv v e)
 refine cB rfl (bW.intro (cQ (λx=>cE rfl (h1 hv O v e)) λx=>cQ (λw=>h1 hv O v e) λw=>?_));have g:=ZO ha e;have C:=(Z7 xs).1 hv;refine VN g hv λdD b e1 d=>sJ λj F e2 D=>nw (cs:=[.slice dD.a dD.len dD.cap,.int .i64 dA,.map (some b.size)]) λv3 E m A=>?_;have s1:=e1.1;have s0:=e.1;refine h2 hv O O v3 ⟨j.size,b.size,dD,[]⟩ (((e.trans e1).trans e2).trans m) ⟨by rw[zl];omega,λc z=>?_,by simp,by simp,?_⟩
 ·obtain⟨i,u⟩:=zQ z;exact(U4 g hv u).2
 ·refine⟨λq=>if q=j.size then .hd else if q=b.size then .mp else .dD,λi=>?_⟩
  cases i with
  | hd=>
   refine⟨⟨by show U.size<=j.size;omega,by simp⟩,?_⟩;have:((dA.toNat:Nat):Int)=dA:=by omega
   simp only[yI,this];exact A
  | mp=>
   refine⟨⟨by show U.size<=b.size;omega,?_⟩,m.fO (D .i64 .p) id⟩;show(if b.size=j.size then tC.hd else if b.size=b.size then tC.mp else tC.dD)=.mp
   rw[zB O,zC rfl]
  | dD=>
   have B:=aH.bO (aH.bO (aH.mono d (G:=λq=>v.size<=q/\q<b.size) λq r y=>⟨y,r⟩) e2) m;refine aH.mono B λq _ r=>⟨O,?_⟩;show(if q=j.size then tC.hd else if q=b.size then tC.mp else tC.dD)=.dD
   rw[zB O,zB O]
  | li k=>
   simp only[CC,nX,iQ,List.find?_nil,Option.map_none];cases hk:(List.replicate (xs.map ZZ).length ib)[k]? with
   | none=>trivial
   | some l=>simp only[mc]at hk;split at hk<;>simp_all
def kh (f:Nat->Nat)(l:List (Int×Option Addr)):Nat:=(l.map λx=>f x.1.toNat).sum
theorem Ep (f:Nat->Nat):∀{l:List (Int×Option Addr)} {n:Int} {x:Option Addr},(l.map (·.1)).Nodup->(n,x)∈l->kh f l=f n.toNat+kh f (l.filter λy=>!(y.1==n))
 | [],_,_,_,h=>by simp at h
 | y::l,n,x,hn,h=>by
  simp only[zS,zr]at hn;rcases zW.1 h with h1|h1
  ·subst h1;have:l.filter (λy=>!(y.1==n))=l:=by
    rw[pf];intro z hz;have:z.1≠n:=λe=>hn.1 (zE.2 ⟨z,hz,e⟩);simpa using this
   rw[ux aA,this];simp[kh]
  ·have a:y.1≠n:=λe=>hn.1 (zE.2 ⟨_,h1,e.symm⟩);rw[uJ (by simpa using a)];have:=Ep f hn.2 h1;simp only[kh,zS,nG]at *;omega
theorem M9 (n a v:Nat):((List.range n).map λj=>if j=a then v else 0).sum=if a<n then v else 0:=by
 induction n with
 | zero=>simp
 | succ n ih=>
  rw[pT,jY,List.sum_append,ih];by_cases h:a=n
  ·subst h;simp
  ·by_cases h2:a<n
   ·rw[zC h2,zC O];simp[Ne.symm h]
   ·rw[zB h2,zB O];simp[Ne.symm h]
theorem Rl (l:List Nat)(f g:Nat->Nat):(l.map λj=>f j+g j).sum=(l.map f).sum+(l.map g).sum:=by
 induction l with
 | nil=>rfl
 | cons x l ih=>simp only[zS,nG,ih];omega
theorem Dk (f:Nat->Nat)(n:Nat):∀(ps:List (Nat×Nat)),(ps.map (·.1)).Nodup->(∀x∈ps,x.1<n)->(ps.map λx=>f x.1).sum=((List.range n).map λj=>if j∈ps.map (·.1)then f j else 0).sum
 | [],_,_=>by
  have:((List.range n).map λj=>if j∈([]:List (Nat×Nat)).map (·.1)then f j else 0)=(List.range n).map λ_=>0:=by simp
  rw[this]
  induction n with
  | zero=>rfl
  | succ n a=>rw[pT,jY,List.sum_append];simp at *;exact a
 | x::ps,hn,hl=>by
  simp only[zS,zr]at hn;have a:=Dk f n ps hn.2 λy b=>hl y (by simp[b]);rw[zS,nG,a];have e:((List.range n).map λj=>if j∈(x::ps).map (·.1)then f j else 0)=(List.range n).map λj=>(if j=x.1 then f x.1 else 0)+(if j∈ps.map (·.1)then f j else 0):=by
   apply j5;intro j _;by_cases hj:j=x.1
   ·subst hj;rw[zC aA,zC rfl,zB hn.1];rfl
   ·rw[zB hj,zH];by_cases hm:j∈ps.map (·.1)
    ·rw[zC hm,zC (by simp only[zS,zW];exact .inr hm)]
    ·rw[zB hm,zB (by simp only[zS,zW,not_or];exact⟨hj,hm⟩)]
  rw[e,Rl,M9,zC (hl x aA)]
def pj (tb:List bZ)(ls:List Li)(k:Nat):Nat:=match tb[k]?,ls[k]? with
 | some c,some l=>c.size*l.os.length
 | _,_=>0
theorem GY:∀(tb:List bZ) (ls:List Li),ls.length=tb.length->QN tb ls=((List.range tb.length).map (pj tb ls)).sum
 | [],[],_=>rfl
 | c::tb,l::ls,h=>by
  have ih:=GY tb ls (by simpa using h);simp only[QN]at ih;simp only[QN,List.zip_cons_cons,zS,nG,zY,ih,List.range_succ_eq_map,k6];rfl
 | [],_::_,h=>by simp at h
 | _::_,[],h=>by simp at h
theorem eA.nil (h:eA U F Y tb bud ls)(hf:iQ Y.ps k=none)(hl:ls[k]?=some l):l=ib:=by
 obtain⟨G,_,a⟩:=h.sep.get (.li k);simp only[CC,nX,hf,hl]at a;exact a
theorem eA.vF (h:eA U F Y tb bud ls):(Y.ps.map (·.1)).Nodup:=by
 have:=h.map.nodup;have e:(jV Y.ps).map (·.1)=(Y.ps.map (·.1)).map λ(n:Nat)=>(n:Int):=by simp[jV]
 rw[e]at this;exact List.Pairwise.of_map (λ(n:Nat)=>(n:Int)) (λa b d e=>d (by rw[e])) this
theorem eA.bytes (h:eA U F Y tb bud ls):kh (pj tb ls) (jV Y.ps)=QN tb ls:=by
 have e1:kh (pj tb ls) (jV Y.ps)=(Y.ps.map λx=>pj tb ls x.1).sum:=by simp[kh,jV,Function.comp_def]
 rw[e1,Dk _ tb.length _ h.vF h.keys,GY _ _ h.len]
 congr 1
 apply j5;intro j hj;have a:=zg.1 hj;by_cases hm:j∈Y.ps.map (·.1)
 ·rw[zC hm]
 ·rw[zB hm];have g:iQ Y.ps j=none:=by
   unfold iQ;simp only[qO,nR,zT];exact λx d e=>hm (zE.2 ⟨x,d,e⟩)
  have b:ls[j]?=some (ls[j]'(by rw[h.len];exact a)):=cV _;have:=h.nil g b;unfold pj;rw[cV a,b,this];rfl
theorem D5:∀(tb:List bZ) (ls:List Li),(∀c∈tb,c.ok)->(∀l∈ls,fI l)->QN tb ls<=tb.length*131072
 | [],_,_,_=>by simp[QN]
 | _::_,[],_,_=>by simp[QN]
 | c::tb,l::ls,h1,h2=>by
  have ih:=D5 tb ls (λc a=>h1 c (by simp[a])) (λl b=>h2 l (by simp[b]));simp only[QN]at ih;simp only[QN,List.zip_cons_cons,zS,nG,zY];have a:=h1 c aA;unfold bZ.ok at a;have d:=(h2 l aA).many;have e:c.size*l.os.length<=512*256:=lW O d;omega
theorem PM (h:eA U F Y tb bud ls)(hok:∀l∈ls,fI l):QN tb ls<=5242880:=by
 have b:=D5 tb ls h.ok hok;have a:=h.mW;omega
theorem eA.Py (h:eA U F Y tb bud ls):∀l∈ls,fI l:=by
 intro l hl;obtain⟨k,a⟩:=zQ hl;cases hf:iQ Y.ps k with
 | none=>rw[h.nil hf a];exact fI.nil
 | some b=>
  obtain⟨G,_,d,_⟩:=h.wa hf a;exact d.2.1
theorem FN (h:eA U F Y tb bud ls){R:aN}(hR:∀σ',bK U σ'->R ((QN tb ls:Nat):Int) σ'):XE.c (aW Y.p) U R:=by
 refine XE.o ?_;unfold XE.v;have hle:=PM h h.Py;have hT:=h.bytes;refine UR h (cB rfl (aG (h.hd.rM rfl ?_)));refine sj (a:=bN) h.map (λg (z:Int) v=>∃n:Nat,z=(n:Int)/\n+kh (pj tb ls) g=QN tb ls/\(∀e∈g,e∈jV Y.ps)/\(g.map (·.1)).Nodup/\bK U v) ?_ ?_ ?_
 ·intro v hz e;exact⟨0,rfl,by rw[hT];omega,λe he=>he,h.map.nodup,e⟩
 ·rintro z v ⟨n,rfl,E,_,_,e⟩;simp only[kh,qs,List.sum_nil,j0]at E;rw[E];exact hR v e
 ·rintro g n x z v v' J ⟨m,rfl,E,r,w,e⟩ X ho hlt hJ;have V:bK U v':=e.only ho (.inr (zD _));have P:=h.bO V;have u:=r _ X;simp only[jV,zE,Prod.mk.injEq]at u;obtain⟨⟨k,b⟩,D,B,A⟩:=u;simp only at B A;subst B;subst A;have H:=h.keys _ D;simp only at H;have Q:tb[k]?=some tb[k]:=cV H;have N:ls[k]?=some (ls[k]'(by rw[h.len];exact H)):=cV _;generalize tb[k]=c at Q;generalize (ls[k]'(by rw[h.len];exact H))=l at N;have M:iQ Y.ps k=some b:=Es h.map.nodup D;obtain⟨G,hG,hL,_⟩:=P.wa M N;obtain⟨_,hok,s,S,K,Z⟩:=hL;have L:s.len=l.os.length:=by have:=K.1;simp[Wo]at this;omega
  have hb:pj tb ls k=c.size*l.os.length:=by unfold pj;rw[Q,N]
  have j:=Ep (pj tb ls) w X;simp only[dE]at j;refine aG (P.hd.rS rfl (sN P.jz Q (d:=0) O ?_));simp only[zR];refine aG (S.rS rfl ?_);have C:m+c.size*l.os.length+kh (pj tb ls) (List.filter (λy=>!(y.1==(k:Int))) g)=QN tb ls:=by
   have W:=j;rw[hb]at W;rw[←E,W,wI]
  refine cP (m:=c.size*l.os.length) (by simp only[L];simp) O (cP (m:=m+c.size*l.os.length) O O (hJ _ v' rfl rfl ⟨_,rfl,C,λy hy=>r y (zI.1 hy).1,w.sublist (List.filter_sublist.map _),V⟩))
theorem JD (h:eA U F Y tb bud ls){R:aO}(hR:∀σ',bK U σ'->R (decide (bud<QN tb ls)) σ'):XZ.c (aW Y.p) U R:=by
 refine XZ.o ?_;unfold XZ.v;have e:decide (((QN tb ls:Nat):Int)>(bud:Int))=decide (bud<QN tb ls):=by rw[decide_eq_decide];omega
 refine Jn.intro (UR h (cE rfl (aG ⟨FN h λσ' a=>(a.bT h.hd id).rI rfl ?_,h.hd.rI rfl (FN h λσ' a=>?_)⟩)))
 ·rw[e];exact hR σ' a
 ·rw[e];exact hR σ' a
def BG (f:bZ->Li->List Int×Li)(fn:Nat):Prop:=∀{U:Hp} {G:Rg} {b:Nat} {l:Li} {c:bZ},iK b l U G->c.ok->∀{R:Sl->Hp->Prop},
 (∀s z σ',Ext (· = b) U σ'->U.size<=z->bR s 1 (Wo (f c l).1) σ' (λq=>U.size<=q/\q<z)->iK b (f c l).2 σ' (λq=>q=b\/z<=q)->R s σ') →
 VF Tryz.prog ⟨fn,#[],#[]⟩ [.pointer (some ⟨b,0,none⟩),.int .i64 (c.batch:Int)] [.one .s] U R
theorem Sh:BG ZD 218:=by
 intro U G b l c h hc R hR;refine pE (all := #[.pointer (some ⟨b,0,none⟩),.int .i64 (c.batch:Int)]) (by kernel_rfl) aA ?_;refine Yl.o ?_;unfold Yl.v;have j:=h;obtain⟨_,i,s,d,a,g⟩:=h;have e:s.len=l.os.length:=by have:=a.1;simp[Wo]at this;omega
 refine aG (d.rS rfl ?_);simp only[e];exact Hx j (zD _) hR
theorem JM:BG KC 216:=by
 intro U G b l c h hc R hR;refine pE (all := #[.pointer (some ⟨b,0,none⟩),.int .i64 (c.batch:Int)]) (by kernel_rfl) aA ?_;refine Xo.o ?_;unfold Xo.v;have V:=h;obtain⟨_,g,s,A,M,L⟩:=h;have o1:=g.low;have o2:=g.many;have o3:=g.lim;have u:=B7 hc g;unfold bZ.ok at hc;refine aG (A.rI rfl (cP (m:=l.low+1) O O (nz aB (cP (m:=(l.low+1)/2) (by rw[Yq O];omega) O ?_))));refine Hx V O λout z v e P Q w=>?_;have K:=w;obtain⟨_,N,s1,d,r,D⟩:=w;have x:s1.len=(fZ ((l.low+1)/2) l).2.os.length:=by have:=r.1;simp[Wo]at this;omega
 refine Jn.intro ?_;have i:∀(p:Hp) (lim:Nat),Ext (· = b) v p->lim=(if l.lim>c.batch then max (l.lim-c.batch) c.batch else l.lim)->bY p b (mH s1 {(fZ ((l.low+1)/2) l).2 with lim:=lim}) →
  bU (some ⟨b,0,none⟩) λF=>jr (F.add 0) p λC=>bU (some ⟨b,0,none⟩) λE=>dW (E.add 2) (.int .i64 ((C.len:Nat):Int)) p λv2=>R out v2:=by
  intro p lim e1 hlim a;refine aG (a.rS rfl (aG (a.s1 (by simp[mH]) λv2 o2 y=>?_)));have e2:=e1.trans o2.ext;have S:=d.lt;refine hR out z v2 (e.trans e2) P (aI.bS Q e2 λq _ H J=>?_) ?_
  ·have:=A.lt;omega
  ·refine⟨.inl rfl,u,s1,?_,aH.bS r e2 λq _ H J=>H.2 J,D⟩;simp only[x]at y;subst hlim;exact y
 refine aG (d.rI rfl ?_);refine cQ (λB=>?_) λB=>?_
 ·have j:l.lim>c.batch:=by simp only[fZ]at B;omega
  refine aG (d.rI rfl (cP (m:=l.lim-c.batch) (by simp only[fZ];omega) O (aG (d.s1 (by simp[mH]) λp o1 a=>i p (max (l.lim-c.batch) c.batch) o1.ext (by rw[zC j]) ?_))));have:(if(c.batch:Int)>((l.lim-c.batch:Nat):Int)then(c.batch:Int)else((l.lim-c.batch:Nat):Int))=((max (l.lim-c.batch) c.batch:Nat):Int):=by split<;>omega
  rw[this]at a;exact a
 ·have j:¬l.lim>c.batch:=by simp only[fZ]at B;omega
  exact i v l.lim (Ext.refl _ _) (by rw[zB j]) d
def nB (x:Nat×Sl):List Value:=[.int .i64 (x.1:Int),.slice x.2.a x.2.len x.2.cap]
def fE (l:List (Nat×Sl)):List Value:=l.flatMap nB
theorem Kq (l:List (Nat×Sl)):(fE l).length=l.length*2:=by
 induction l with
 | nil=>rfl
 | cons x l ih=>
  have e:fE (x::l)=nB x++fE l:=rfl;have e2:(nB x).length=2:=rfl;rw[e,zO,ih,e2,zY];omega
theorem UA (a b:List (Nat×Sl)):fE (a++b)=fE a++fE b:=by simp[fE]
theorem UP {l:List (Nat×Sl)}:∀v∈fE l,dQ v=true:=by
 intro v hv;obtain⟨p,_,a⟩:=List.mem_flatMap.1 hv;simp only[nB,zW,List.not_mem_nil,or_false]at a;rcases a with rfl|rfl<;>rfl
theorem NH {l:List (Nat×Sl)}{i:Nat}{p:Nat×Sl}(h:l[i]?=some p){d:Nat}(hd:d<2):(fE l)[2*i+d]?=(nB p)[d]? := by
 induction l generalizing i with
 | nil=>simp at h
 | cons x l ih=>
  have e:fE (x::l)=nB x++fE l:=rfl;have e2:(nB x).length=2:=rfl;rw[e];cases i with
  | zero=>
   simp at h;subst h;rw[ze O];congr 1;omega
  | succ i=>
   rw[zp O,e2,show 2*(i+1)+d-2=2*i+d by omega];exact ih (by simpa using h)
def ko (ps:List (Nat×Sl))(bs:List Bt)(U:Hp)(D:Rg):Prop:=ps.length=bs.length/\∀(i:Nat) p x,ps[i]?=some p->bs[i]?=some x->p.1=x.1/\cU p.2 1 (Wo x.2) U D/\p.2.len<=p.2.cap
theorem ko.loc (ps:List (Nat×Sl))(bs:List Bt):dL (ko ps bs):=λU g F G h d e=>⟨h.1,λi p x a b=>⟨(h.2 i p x a b).1,cU.loc _ _ _ _ _ _ _ (h.2 i p x a b).2.1 d e,(h.2 i p x a b).2.2⟩⟩
def ue (ps:List (Nat×Sl)):Prop:=ps.Pairwise λp q=>∀a a',p.2.a=some a->q.2.a=some a'->a.block≠a'.block
theorem ue.snoc {ps:List (Nat×Sl)}{bs:List Bt}{U v:Hp}{D X:Rg}{s:Sl}{xs:List Int}(h:ue ps)(hB:ko ps bs U D)(hne:∀x∈bs,x.2≠[])(hs:cU s 1 (Wo xs) v X)(hx:xs≠[])(hd:∀b,b<U.size->D b->¬X b)(k:Nat):ue (ps++[(k,s)]):=by
 refine pA.2 ⟨h,List.pairwise_singleton _ _,λp z q r=>?_⟩;rw[zN]at r;subst r;intro a a' h1 h2 e;obtain⟨i,u⟩:=zQ z;have d:=(cW.1 u).1;have g:bs[i]?=some (bs[i]'(by rw[←hB.1];exact d)):=cV _;generalize (bs[i]'(by rw[←hB.1];exact d))=y at g;obtain⟨_,j,_⟩:=hB.2 i p y u g;have m:=j.bT (by simpa[Wo]using hne y (zG g)) ⟨a,h1,rfl⟩;have w:=hs.bT (by simpa[Wo]using hx) ⟨a',h2,rfl⟩;rw[e]at m;exact hd _ m.2 m.1 w.1
def ir (s:Sl)(bs:List Bt):Hp->Rg->Prop:=λU F=>∃(ps:List (Nat×Sl)) (D:Rg),dI s 2 (fE ps) U (λq=>F q/\¬D q)/\ko ps bs U D/\(∀q,D q->F q)/\ue ps/\∀x∈bs,x.2≠[]
theorem ir.loc (s:Sl)(bs:List Bt):dL (ir s bs):=λU r F G ⟨i,D,j,p,g,m⟩ e b=>
 ⟨i,λq=>D q/\q<U.size,dI.loc _ _ _ _ _ _ _ j e λq a d=>⟨⟨(b q a d.1).1,λhd=>d.2 hd.1⟩,(b q a d.1).2⟩,ko.loc _ _ _ _ _ _ p e λq a hd=>⟨⟨hd,a⟩,(b q a (g q hd)).2⟩,λq a=>(b q a.2 (g q a.1)).1,m⟩
theorem ir.nil (U:Hp)(F:Rg)(a:Option Addr):ir ⟨a,0,0⟩ [] U F:=⟨[],λ_=>False,dI.nil _ _ _ _,⟨rfl,λi p x h=>by simp at h⟩,λq h=>h.elim,List.Pairwise.nil,by simp⟩
theorem ir.len {s:Sl}{bs:List Bt}(h:ir s bs U F):s.len=bs.length:=by
 obtain⟨d,D,a,b,_⟩:=h;have:=a.1;rw[Kq]at this;have:=b.1;omega
theorem ir.cap {s:Sl}{bs:List Bt}(h:ir s bs U F):s.len<=s.cap:=by
 obtain⟨b,D,a,_⟩:=h;exact a.cap
def H4:Prop:=∀{U:Hp} {F:Rg} {s:Sl} {xs:List (Nat×Sl)},bR s 2 (fE xs) U F->(∀x∈xs,x.1<64)->xs.length<=1000->∀{R:aP},
 (∀xs' σ',xs'.Perm xs->xs'.Pairwise (λa b=>a.1<=b.1)->Ext F U σ'->bR s 2 (fE xs') σ' F->R σ')->ZP.c s ⟨264,#[],#[]⟩ U R
theorem El:∀{a b:List Nat},a.Pairwise (· < ·)->b.Pairwise (· < ·)->(∀x,x∈a↔x∈b)->a=b
 | [],[],_,_,_=>rfl
 | [],y::b,_,_,h=>by have:=(h y).2 aA;simp at this
 | x::a,[],_,_,h=>by have:=(h x).1 aA;simp at this
 | x::a,y::b,ha,hb,h=>by
  rw[qR]at ha hb;have e:x=y:=by
   rcases zW.1 ((h x).1 aA)with h1|h1
   ·exact h1
   ·rcases zW.1 ((h y).2 aA)with h2|h2
    ·exact h2.symm
    ·have:=ha.1 y h2;have:=hb.1 x h1;omega
  subst e
  congr 1
  refine El ha.2 hb.2 λz=>?_;have d:=h z;simp only[zW]at d;constructor
  ·intro hza;have:=ha.1 z hza;rcases d.1 (.inr hza)with h1|h1
   ·omega
   ·exact h1
  ·intro hzb;have:=hb.1 z hzb;rcases d.2 (.inr hzb)with h1|h1
   ·omega
   ·exact h1
theorem U3 {f:bZ->Li->List Int×Li}{x:Bt}:x∈QW f tb ls↔∃c l,tb[x.1]?=some c/\ls[x.1]?=some l/\x.2=(f c l).1/\x.2≠[]:=by
 unfold QW;rw[wN];constructor
 ·rintro⟨k,hk,h⟩;split at h
  ·rename_i c l hc hl;split at h
   ·cases h
   ·rename_i hne;cases h;exact⟨c,l,hc,hl,rfl,hne⟩
  ·cases h
 ·rintro⟨c,l,hc,hl,e,hne⟩;refine⟨x.1,zg.2 (cW.1 hc).1,?_⟩;rw[hc,hl];simp only;rw[zB (by rw[←e];exact hne),←e]
theorem PQ {f:bZ->Li->List Int×Li}:((QW f tb ls).map (·.1)).Pairwise (· < ·):=by
 unfold QW;have key:∀(n:Nat),(((List.range n).filterMap λk=>match tb[k]?,ls[k]? with
  | some c,some l=>if(f c l).1=[]then none else some ((k,(f c l).1):Bt)
  | _,_=>none).map (·.1)).Pairwise (· < ·)/\∀x∈((List.range n).filterMap λk=>match tb[k]?,ls[k]? with
  | some c,some l=>if(f c l).1=[]then none else some ((k,(f c l).1):Bt)
  | _,_=>none),x.1<n:=by
  intro n
  induction n with
  | zero=>simp
  | succ n ih=>
   rw[pT,vA,jY];refine⟨pA.2 ⟨ih.1,?_,?_⟩,?_⟩
   ·simp only[AG,List.filterMap_nil];split<;>simp
   ·intro a ha b hb;obtain⟨x,g,rfl⟩:=zE.1 ha;obtain⟨y,e,rfl⟩:=zE.1 hb;have j:=ih.2 x g;obtain⟨m,i,d⟩:=wN.1 e;clear e hb ha;simp only[zN]at i;subst i;split at d
    ·split at d
     ·cases d
     ·cases d;exact j
    ·cases d
   ·intro x g;rcases zK.1 g with g|g
    ·have:=ih.2 x g;omega
    ·obtain⟨m,i,e⟩:=wN.1 g;simp only[zN]at i;subst i;split at e
     ·split at e
      ·cases e
      ·cases e;omega
     ·cases e
 exact(key tb.length).1
def mI (todo:List (Int×Option Addr))(k:Nat):Prop:=((k:Nat):Int)∈todo.map (·.1)
instance (todo:List (Int×Option Addr)) (k:Nat):Decidable (mI todo k):=by unfold mI;infer_instance
theorem Hu {todo:List (Int×Option Addr)}{m k:Nat}:mI (todo.filter λy=>!(y.1==(m:Int))) k↔mI todo k/\k≠m:=by
 unfold mI;simp only[zE,zI,l6,mj];constructor
 ·rintro⟨y,⟨h1,h2⟩,h3⟩;exact⟨⟨y,h1,h3⟩,λe=>h2 O⟩
 ·rintro⟨⟨y,h1,h3⟩,h2⟩;exact⟨y,⟨h1,λe=>h2 O⟩,h3⟩
structure xq (f:bZ->Li->List Int×Li) (tb:List bZ) (ls:List Li) (todo:List (Int×Option Addr)) (ls':List Li) (outs:List Bt):Prop where
 l:∀k c l,tb[k]?=some c->ls[k]?=some l->ls'[k]?=some (if mI todo k then l else(f c l).2)
 n:(outs.map (·.1)).Nodup
 o:∀x:Bt,x∈outs↔∃c l,tb[x.1]?=some c/\ls[x.1]?=some l/\¬mI todo x.1/\x.2=(f c l).1/\x.2≠[]
theorem xq.step {f:bZ->Li->List Int×Li}{todo:List (Int×Option Addr)}{ls':List Li}{outs:List Bt}(h:xq f tb ls todo ls' outs)(hc:tb[k]?=some c)(hl:ls[k]?=some l)(hk:mI todo k) :
 xq f tb ls (todo.filter λy=>!(y.1==(k:Int))) (ls'.set k (f c l).2) (if(f c l).1=[]then outs else outs++[(k,(f c l).1)]):=by
 have z:=h.l k c l hc hl;have u:=(cW.1 z).1;have A:∀x∈outs,x.1≠k:=λx g e=>by
  obtain⟨_,_,_,_,C,_⟩:=(h.o x).1 g;rw[e]at C;exact C hk
 refine⟨λj d m hd p=>?_,?_,λx=>?_⟩
 ·by_cases hj:j=k
  ·subst hj;rw[hc]at hd;cases hd;rw[hl]at p;cases p;rw[zL u,zB (by rw[Hu];exact λg=>g.2 rfl)]
  ·rw[zk (Ne.symm hj),h.l j d m hd p]
   congr 1
   by_cases r:mI todo j
   ·rw[zC r,zC (Hu.2 ⟨r,hj⟩)]
   ·rw[zB r,zB λg=>r (Hu.1 g).1]
 ·split
  ·exact h.n
  ·rw[jY,nK];refine⟨h.n,by simp,λa D b B e=>?_⟩;simp only[zS,qs,zN]at B;subst B;obtain⟨x,g,e2⟩:=zE.1 D;exact A x g (e2.trans e)
 ·have s:(∃d m,tb[x.1]?=some d/\ls[x.1]?=some m/\¬mI (todo.filter λy=>!(y.1==(k:Int))) x.1/\x.2=(f d m).1/\x.2≠[])↔x∈outs\/(x=(k,(f c l).1)/\(f c l).1≠[]):=by
   constructor
   ·rintro⟨d,m,hd,p,r,e,i⟩;by_cases hj:x.1=k
    ·right;rw[hj]at hd p;rw[hc]at hd;cases hd;rw[hl]at p;cases p;exact⟨Prod.ext hj e,by rw[←e];exact i⟩
    ·left;exact(h.o x).2 ⟨d,m,hd,p,λg=>r (Hu.2 ⟨g,hj⟩),e,i⟩
   ·rintro(g|⟨rfl,i⟩)
    ·obtain⟨d,m,hd,p,r,e,i⟩:=(h.o x).1 g;exact⟨d,m,hd,p,λw=>r (Hu.1 w).1,e,i⟩
    ·exact⟨c,l,hc,hl,λw=>(Hu.1 w).2 rfl,rfl,i⟩
  rw[s];split
  ·rename_i he;constructor
   ·exact .inl
   ·rintro(g|⟨_,i⟩)
    ·exact g
    ·exact absurd he i
  ·rename_i he;rw[zK,zN];constructor
   ·rintro(g|g)
    ·exact .inl g
    ·exact .inr ⟨g,he⟩
   ·rintro(g|g)
    ·exact .inl g
    ·exact .inr g.1
set_option maxRecDepth 4000 in
theorem DA (hso:H4){f:bZ->Li->List Int×Li}{fn:Nat}(hf:BG f fn)(hnil:∀c,c.ok->f c ib=([],ib))(h:eA U F Y tb bud ls){R:Sl->Hp->Prop}
 (hR:∀σ' s (Q:Rg),Ext F U σ'->(∀q,Q q->U.size<=q)->eA σ' (λq=>Grow F U q/\¬Q q) Y tb bud (QR f tb ls)->ir s (QW f tb ls) σ' Q->R s σ') :
 W9.c (aW Y.p) ⟨fn,#[],#[]⟩ U R:=by
 refine W9.o ?_;unfold W9.v;refine UR h (cB rfl (aG (h.hd.rM rfl ?_)));have htb:=h.mW;refine sj (a:=.s) h.map (λC (out:Sl) v=>∃(ls':List Li) (w:List Bt) (Q D:Rg) (ps:List (Nat×Sl)),Ext F U v/\(∀q,Q q->U.size<q)/\eA v (λq=>(Cut F U q\/U.size<q)/\¬Q q) Y tb bud ls' ∧
  bR out 2 (fE ps) v (λq=>Q q/\¬D q)/\ko ps w v D/\(∀q,D q->Q q)/\xq f tb ls C ls' w/\(∀e∈C,e∈jV Y.ps)/\(C.map (·.1)).Nodup/\ue ps) ?_ ?_ ?_
 ·intro v hz e;refine⟨ls,[],λ_=>False,λ_=>False,[],bK.to e,λq g=>g.elim,((eA.loc.bO h.cut e).mono λq _ g=>⟨.inl g,id⟩),bR.nil _ _ _ _,⟨rfl,λi p x K=>by simp at K⟩,λq g=>g.elim,⟨λk c l E N=>?_,by simp,λx=>?_⟩,λe P=>P,h.map.nodup,List.Pairwise.nil⟩
  ·by_cases hi:mI (jV Y.ps) k
   ·rw[zC hi,N]
   ·rw[zB hi];have hf0:iQ Y.ps k=none:=by
     unfold iQ;simp only[qO,nR,zT];exact λx r e=>hi (zE.2 ⟨((x.1:Int),some ⟨x.2,0,none⟩),zE.2 ⟨x,r,rfl⟩,by rw[e]⟩)
    have:=h.nil hf0 N;rw[N,this,hnil c (h.ok c (zG E))]
  ·simp only[List.not_mem_nil,false_iff];rintro⟨c,l,E,N,hi,e,hne⟩;have hf0:iQ Y.ps x.1=none:=by
    unfold iQ;simp only[qO,nR,zT];exact λy Z e=>hi (zE.2 ⟨((y.1:Int),some ⟨y.2,0,none⟩),zE.2 ⟨y,Z,rfl⟩,by rw[e]⟩)
   have:=h.nil hf0 N;rw[this,hnil c (h.ok c (zG E))]at e;exact hne e
 ·rintro out v ⟨ls',w,Q,D,ps,e,hQ,hC,W,hB,hD,hI,_,_,V⟩;have hno:∀k,¬mI [] k:=λk hk=>by simp[mI]at hk
  have hls:ls'=QR f tb ls:=by
   apply zo;intro k;by_cases hk:k<tb.length
   ·have E:tb[k]?=some tb[k]:=cV hk;have N:ls[k]?=some (ls[k]'(by rw[h.len];exact hk)):=cV _;rw[hI.l k _ _ E N,zB (hno k)];simp[QR,yJ,E,N]
   ·rw[zV (by rw[hC.len];omega),zV (by simp[QR,h.len];omega)]
  subst hls;have hk1:∀(i:Nat) p,ps[i]?=some p->∃x,w[i]?=some x/\p.1=x.1/\cU p.2 1 (Wo x.2) v D/\p.2.len<=p.2.cap:=λi p K=>by
   have hi:=(cW.1 K).1;have r:w[i]?=some (w[i]'(by rw[←hB.1];exact hi)):=cV _;exact⟨_,r,hB.2 i p _ K r⟩
  have B:ps.map (·.1)=w.map (·.1):=by
   apply zo;intro i;simp only[zd];cases K:ps[i]? with
   | none=>
    have:w[i]?=none:=by
     rw[List.getElem?_eq_none_iff]at K ⊢;rw[←hB.1];exact K
    rw[this];rfl
   | some p=>
    obtain⟨x,r,e1,_⟩:=hk1 i p K;rw[r];simp[e1]
  have X:∀x∈w,x.1<40:=λx r=>by
   obtain⟨c,l,E,_⟩:=(hI.o x).1 r;have:=(cW.1 E).1;omega
  have hlen:ps.length<=40:=by
   have hn:=hI.n;rw[←B]at hn;have:=hn.length_le_of_subset (l₂:=List.range 40) λj V=>by
    rw[B]at V;obtain⟨x,r,rfl⟩:=zE.1 V;exact zg.2 (X x r)
   simpa using this
  refine hso W (λp K=>?_) O λps' v' L hsort e' hrow'=>?_
  ·have:p.1∈w.map (·.1):=by rw[←B];exact zE.2 ⟨p,K,rfl⟩
   obtain⟨x,r,e1⟩:=zE.1 this;have:=X x r;omega
  ·have hnd:(ps'.map (·.1)).Nodup:=(L.map _).nodup_iff.2 (by rw[B];exact hI.n);have hinc:(ps'.map (·.1)).Pairwise (· < ·):=by
    refine List.Pairwise.map (R:=λa b:Nat×Sl=>a.1<b.1) _ (λa b hab=>hab) ?_;have A:ps'.Pairwise λa b=>a.1≠b.1:=sR.1 hnd;exact(hsort.and A).imp λ{a b} hab=>by have:=hab.1;have:=hab.2;omega
   have hkk:ps'.map (·.1)=(QW f tb ls).map (·.1):=by
    refine El hinc PQ λj=>?_;rw[(L.map _).mem_iff,B];constructor
    ·intro V;obtain⟨x,r,rfl⟩:=zE.1 V;obtain⟨c,l,E,N,_,e1,e2⟩:=(hI.o x).1 r;exact zE.2 ⟨x,U3.2 ⟨c,l,E,N,e1,e2⟩,rfl⟩
    ·intro V;obtain⟨x,r,rfl⟩:=zE.1 V;obtain⟨c,l,E,N,e1,e2⟩:=U3.1 r;exact zE.2 ⟨x,(hI.o x).2 ⟨c,l,E,N,hno _,e1,e2⟩,rfl⟩
   have eQ:Ext F U v':=e.dT e' λq g=>.inr (rq (hQ q g.1));refine hR v' out Q eQ (λq g=>rq (hQ q g)) ?_ ⟨ps',D,hrow'.o,⟨?_,λi p x K r=>?_⟩,hD,(L.pairwise_iff λ{a b} hab x y A h2 e=>hab y x h2 A e.symm).2 V,λx r=>by
    obtain⟨_,_,_,_,_,h2⟩:=U3.1 r;exact h2⟩
   ·refine(eA.loc.bS hC e' λq _ g hq2=>g.2 hq2.1).mono λq _ g=>⟨?_,g.2⟩;rcases g.1 with r|r
    ·exact .inl r.1
    ·exact .inr (rq r)
   ·have:=congrArg List.length hkk;simpa using this
   ·have e1:p.1=x.1:=by
     have:=congrArg (λl=>l[i]?) hkk;simp only[zd,K,r,zX,Option.some.injEq]at this;exact this
    obtain⟨j,V⟩:=zQ (L.mem_iff.1 (zG K));obtain⟨y,Z,e2,hs,hcap⟩:=hk1 j p V;have e3:x.2=y.2:=by
     obtain⟨c,l,E,N,_,A,_⟩:=(hI.o y).1 (zG Z);obtain⟨c',l',hc',hl',h2,_⟩:=U3.1 (zG r);rw[←e1,e2,E]at hc';cases hc';rw[←e1,e2,N]at hl';cases hl';rw[A,h2]
    rw[e3];exact⟨e1,aH.bS hs e' λq _ g hq2=>hq2.2 g,hcap⟩
 ·rintro C n x out v v' J ⟨ls',w,Q,D,ps,e,hQ,hC,W,hB,hD,hI,hsub,hnd,V⟩ r ho hlt hJ;have e1:Ext F U v':=e.only ho (.inr (zD _));have S:eA v' (λq=>(Cut F U q\/U.size<q)/\¬Q q) Y tb bud ls':=eA.loc.bS hC ho.ext λq _ g P=>by
   rcases g.1 with A|A
   ·have:=A.2;omega
   ·omega
  have hrow1:bR out 2 (fE ps) v' (λq=>(Q q/\¬D q)/\q<v'.size):=aI.cut (aI.bS W ho.ext λq _ g P=>by have:=hQ q g.1;omega);have hB1:ko ps w v' (λq=>D q/\q<v'.size):=(ko.loc _ _).cut ((ko.loc _ _).bS hB ho.ext λq _ g P=>by have:=hQ q (hD q g);omega);have hmem:=hsub _ r;simp only[jV,zE,Prod.mk.injEq]at hmem;obtain⟨⟨k,b⟩,hkb,hk1,hx1⟩:=hmem;simp only at hk1 hx1;subst hk1;subst hx1;have hk:=h.keys _ hkb;simp only at hk;have E:tb[k]?=some tb[k]:=cV hk;have N:ls[k]?=some (ls[k]'(by rw[h.len];exact hk)):=cV _;generalize tb[k]=c at E;generalize (ls[k]'(by rw[h.len];exact hk))=l at N;have hcok:=h.ok c (zG E);have hlk:iQ Y.ps k=some b:=Es h.map.nodup hkb;have hin:mI C k:=zE.2 ⟨_,r,rfl⟩;have hl':ls'[k]?=some l:=by rw[hI.l k c l E N,zC hin]
  have M:=hI.step E N hin;have hmF:(λq=>(Cut F U q\/U.size<q)/\¬Q q) Y.m:=by
   obtain⟨H,hH,hm⟩:=S.sep.get .mp;exact hH _ hm.1
  obtain⟨G,hG,hL,hGm,hput⟩:=S.wa hlk hl';have hbF:=hG b hL.1;have hbm:b≠Y.m:=λe=>hGm (e▸hL.1);have hbs:b≠U.size:=λe=>by
   subst e;rcases hbF.1 with A|A
   ·have:=A.2;omega
   ·omega
  have hblt:b<v'.size:=by obtain⟨_,_,s,hbk,_⟩:=hL;exact hbk.lt
  have hsz1:=ho.1;refine aG (S.hd.rS rfl (sN S.jz E (d:=2) O ?_));simp only[zB (show ¬(2=0) by omega),zB (show ¬(2=1) by omega)];refine hf hL hcok λs z v5 e5 hz hr hL5=>?_;have hs5:=e5.1;obtain⟨eF,h5⟩:=hput v5 _ (λq=>q=b\/z<=q) (e5.sub λq g=>by rw[g];exact hL.1) (λq g=>g.imp (λ(r:q=b)=>by rw[r];exact hL.1) λ(r:z<=q)=>O) hL5;have h5:=h5.cut;have eF5:Ext F U v5:=e1.dT eF λq g=>by
   rcases g.1 with A|A
   ·exact .inl A.1
   ·exact .inr (rq A)
  have hnb:∀q,Q q->q≠b:=λq g hqb=>hbF.2 (hqb▸g);have hrow5:=aI.bS hrow1 e5 λq _ g P=>hnb q g.1.1 P;have hB5:=(ko.loc _ _).bS hB1 e5 λq _ g P=>hnb q (hD q g.1) P;have hsl:s.len=(f c l).1.length:=by have:=hr.1;simp[Wo]at this;omega
  have hsub':∀y∈C.filter (λy=>!(y.1==(k:Int))),y∈jV Y.ps:=λy Z=>hsub y (zI.1 Z).1;have hnd':((C.filter λy=>!(y.1==(k:Int))).map (·.1)).Nodup:=hnd.sublist (List.filter_sublist.map _);by_cases hemp:(f c l).1=[]
  ·rw[zC hemp]at M;refine fR (by rw[hsl,hemp];simp) (hJ out v5 (e5.2 _ O λP=>hbs P.symm) (e5.2 _ S.map.lt λP=>hbm P.symm) ?_);refine⟨_,w,λq=>Q q/\q<v'.size,λq=>D q/\q<v'.size,ps,eF5,λq g=>hQ q g.1,h5.mono λq _ g=>?_,aI.mono hrow5 λq _ g=>⟨⟨g.1.1,g.2⟩,λhd=>g.1.2 hd.1⟩,hB5,λq g=>⟨hD q g.1,g.2⟩,M,hsub',hnd',V⟩;rcases g.1 with A|A|A
   ·exact⟨A.1.1,λr=>A.1.2 r.1⟩
   ·subst A;exact⟨hbF.1,λr=>hbF.2 r.1⟩
   ·exact⟨.inr O,λr=>O⟩
  ·rw[zB hemp]at M;have hpos:=pI.2 hemp;refine lA (by rw[hsl];omega) (nw (cs:=nB (k,s)) λv6 hz6 e6 hb6=>?_);have hrow6:=aI.bO hrow5 e6;have hB6:=(ko.loc _ _).bO hB5 e6;have hr6:=aI.bO (aI.cut hr) e6;have hpl:out.len=ps.length:=by have:=W.1;rw[Kq]at this;omega
   have hol:ps.length<=40:=by
    have B:w.map (·.1)⊆List.range 40:=λj V=>by
     obtain⟨x,r,rfl⟩:=zE.1 V;obtain⟨c,l,E,_⟩:=(hI.o x).1 r;have:=(cW.1 E).1;exact zg.2 O
    have:=hI.n.length_le_of_subset B;rw[hB.1];simpa using this
   refine hrow6.app (ys:=nB (k,s)) rfl rfl ?_ (λv hv=>UP (l:=[(k,s)]) v (by simpa[fE]using hv)) ?_ ?_ mO λs' v7 hl7 e7 hr7=>?_
   ·intro j u hu;rw[add_lit,zH,hb6.cell];exact hu
   ·simp only;have:(out.len+1)*32<=41*32:=lW O O;omega
   ·simp only;omega
   have hs7:=e7.1;have e57:Ext (λq=>(Q q/\¬D q)/\q<v'.size) v5 v7:=(bK.to e6).trans e7;refine hJ s' v7 ?_ ?_ ?_
   ·rw[e57.2 _ O λr=>by have:=hQ _ r.1.1;omega];exact e5.2 _ O λP=>hbs P.symm
   ·rw[e57.2 _ (by have:=S.map.lt;omega) λr=>hmF.2 r.1.1];exact e5.2 _ S.map.lt λP=>hbm P.symm
   refine⟨_,_,λq=>Q q/\q<v'.size\/(v'.size<=q/\q<z)\/v5.size<=q,λq=>D q/\q<v'.size\/(v'.size<=q/\q<z)/\q<v5.size,ps++[(k,s)],eF5.dT e57 λq g=>.inr (rq (hQ q g.1.1)),λq g=>?_,(eA.loc.bS h5 e57 λq hq5 g r=>?_).mono λq _ g=>?_,?_,⟨?_,λi p y K Z=>?_⟩,λq g=>?_,M,hsub',hnd',V.snoc hB1 (λx r=>by
    obtain⟨_,_,_,_,_,_,h2⟩:=(hI.o x).1 r;exact h2) hr.gZ hemp (λb hb r Z=>by have:=r.2;have:=Z.1;omega) k⟩
   ·rcases g with g|g|g
    ·exact hQ q g.1
    ·omega
    ·omega
   ·rcases g.1 with A|A|A
    ·exact A.1.2 r.1.1
    ·exact hnb q r.1.1 A
    ·have:=r.2;omega
   ·have hq5:=g.2;rcases g.1 with A|A|A
    ·exact⟨A.1.1,λr=>by
      rcases r with r|r|r
      ·exact A.1.2 r.1
      ·have:=A.2.1;omega
      ·omega⟩
    ·subst A;exact⟨hbF.1,λr=>by
      rcases r with r|r|r
      ·exact hbF.2 r.1
      ·omega
      ·omega⟩
    ·exact⟨.inr O,λr=>by
      rcases r with r|r|r<;>omega⟩
   ·rw[UA];have:fE [(k,s)]=nB (k,s):=by simp[fE]
    rw[this];refine aI.mono hr7 λq _ g=>?_;rcases g with g|g
    ·exact⟨.inl ⟨g.1.1,g.2⟩,λhd=>by
      rcases hd with hd|hd
      ·exact g.1.2 hd.1
      ·omega⟩
    ·exact⟨.inr (.inr O),λhd=>by
      rcases hd with hd|hd<;>omega⟩
   ·rw[zO,zO,hB.1];rfl
   ·rcases kr i ps.length with hi|hi
    ·rw[ze hi]at K;rw[ze (by rw[←hB.1];exact hi)]at Z;obtain⟨a1,a2,a3⟩:=hB6.2 i p y K Z;exact⟨a1,aH.mono (aH.bS a2 e7 λq _ g r=>r.1.2 g.1) λq _ g=>.inl g,a3⟩
    ·rw[zp hi]at K;rw[zp (by rw[←hB.1];exact hi)]at Z;have hi0:i-ps.length=0:=by
      have:=(cW.1 K).1;simp at this;omega
     rw[hi0]at K;rw[show i-w.length=0 by rw[←hB.1];exact hi0]at Z;simp at K Z;subst K;subst Z;exact⟨rfl,aH.mono (aH.bS hr6.gZ e7 λq _ g r=>by have:=r.2;have:=g.1;omega) λq _ g=>.inr g,bR.qy hr⟩
   ·rcases g with g|g
    ·exact .inl ⟨hD q g.1,g.2⟩
    ·exact .inr (.inl g.1)
theorem MR (hso:H4)(h:eA U F Y tb bud ls){R:Sl->Hp->Prop}
 (hR:∀σ' s (Q:Rg),Ext F U σ'->(∀q,Q q->U.size<=q)->eA σ' (λq=>Grow F U q/\¬Q q) Y tb bud (QR ZD tb ls)->ir s (QW ZD tb ls) σ' Q->R s σ'):XC.c (aW Y.p) U R:=by
 refine XC.o ?_;unfold XC.v;exact DA hso Sh (λc _=>Le c) h hR
theorem Lc (hso:H4)(h:eA U F Y tb bud ls){R:Sl->Hp->Prop}
 (hR:∀σ' s (Q:Rg),Ext F U σ'->(∀q,Q q->U.size<=q)->eA σ' (λq=>Grow F U q/\¬Q q) Y tb bud (QR KC tb ls)->ir s (QW KC tb ls) σ' Q->R s σ'):WW.c (aW Y.p) U R:=by
 refine WW.o ?_;unfold WW.v;exact DA hso JM LB h hR
end Go.Ar