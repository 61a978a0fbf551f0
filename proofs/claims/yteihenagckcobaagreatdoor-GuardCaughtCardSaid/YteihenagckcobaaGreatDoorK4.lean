/- Texts joined. -/
import Derived.Test.YteihenagckcobaaGreatDoorK3
set_option linter.unusedVariables false
set_option linter.unusedSimpArgs false
namespace Go.Vc
open Go
def vP (h:Hp)(it r:Nat):Nat:=
 match h[it]?,h[r]? with
 | some (.mapIter _ _ seen _),some (.map es _)=>(es.toList.filter λe=>!seen.contains e.born).length
 | _,_=>0
variable {U:Hp}{k:IntKind}{c:CK}{l todo:List (Int×c.T)}{cur:Option (Int×c.T)}{r it:Nat}
theorem It.num {h:Hp}(hi:It h it k c (some r) l todo cur):vP h it r=todo.length:=by
 obtain⟨j,b,a,g,d,i,s,u,p,e,m⟩:=hi;unfold vP;rw[g,d];have:=congrArg List.length e;simpa using this
theorem It.bS {h h':Hp}(hi:It h it k c (some r) l todo cur)(h1:h'[it]?=h[it]?)(h2:h'[r]?=h[r]?):It h' it k c (some r) l todo cur:=by
 obtain⟨g,d,b,i,e,a⟩:=hi;exact⟨g,d,b,h1.trans i,h2.trans e,a⟩
theorem Bm {A:aP}{body:Int->c.T->Hp->(Hp->Prop)->Prop}(hm:dH U r k c l)(I:List (Int×c.T)->Hp->Prop)
 (h0:∀v,v.size=U.size+1->aG U v->I l v)
 (hend:∀v,I [] v->A v)
 (hstep:∀todo n x v v' (J:aP),I todo v->(n,x)∈todo->QB v v' U.size->U.size<v.size->(∀w,w[U.size]?=v'[U.size]?->w[r]?=v'[r]?->I (todo.filter λy=>!(y.1==n)) w->J w)->body n x v' J) :
 nY k c (some r) U λit v3=>XW [] (λI=>I v3) λJ1 v4=>nZ k c it v4 (A v4) λ_ _ v5=>nX k c it v5 λkey1 val1=>body key1 val1 v5 J1:=by
 refine⟨l,hm,λv F M H=>?_⟩;have N:aG U v:=⟨O,λb m _=>M b m⟩;refine Eg (λw=>∃todo a,It w U.size k c (some r) l todo a/\I todo w/\U.size<w.size) (λw=>vP w U.size r) ⟨l,none,H,h0 v F N,O⟩ ?_;rintro w ⟨todo,a,e,B,i⟩;refine⟨rfl,some r,l,todo,a,e,λK=>?_,λn x C D G g=>?_⟩
 ·subst K;exact hend w B
 ·refine⟨rfl,some r,l,_,n,x,g,hstep todo n x w D _ B C G i λu s p j=>?_⟩;have d:=g.bS s p;refine⟨⟨_,_,d,j,?_⟩,?_⟩
  ·obtain⟨P,E,z,L,_⟩:=d;exact(zz.1 L).1
  ·rw[d.num,e.num];exact Bg.2 ⟨(n,x),C,by simp⟩
theorem tT {a:CK}{x0:a.T}{A:a.T->Hp->Prop}{body:Int->c.T->a.T->Hp->(a.T->Hp->Prop)->Prop}(hm:dH U r k c l)(I:List (Int×c.T)->a.T->Hp->Prop)
 (h0:∀v,v.size=U.size+1->aG U v->I l x0 v)
 (hend:∀z v,I [] z v->A z v)
 (hstep:∀todo n x z v v' (J:a.T->Hp->Prop),I todo z v->(n,x)∈todo->QB v v' U.size->U.size<v.size->(∀z' w,w[U.size]?=v'[U.size]?->w[r]?=v'[r]?->I (todo.filter λy=>!(y.1==n)) z' w->J z' w)->body n x z v' J) :
 nY k c (some r) U λit v3=>XW [a] (λI=>I x0 v3) λJ1 z v4=>nZ k c it v4 (A z v4) λ_ _ v5=>nX k c it v5 λkey1 val1=>body key1 val1 z v5 J1:=by
 refine⟨l,hm,λv H P L=>?_⟩;have Q:aG U v:=⟨O,λb p _=>P b p⟩;refine Qc (a:=a) (λz w=>∃todo d,It w U.size k c (some r) l todo d/\I todo z w/\U.size<w.size) (λ_ w=>vP w U.size r) ⟨l,none,L,h0 v H Q,O⟩ ?_;rintro z w ⟨todo,d,g,D,j⟩;refine⟨rfl,some r,l,todo,d,g,λM=>?_,λn x E F K i=>?_⟩
 ·subst M;exact hend z w D
 ·refine⟨rfl,some r,l,_,n,x,i,hstep todo n x z w F _ D E K j λz' u B s m=>?_⟩;have e:=i.bS B s;refine⟨⟨_,_,e,m,?_⟩,?_⟩
  ·obtain⟨R,G,C,N,_⟩:=e;exact(zz.1 N).1
  ·rw[e.num,g.num];exact Bg.2 ⟨(n,x),E,by simp⟩
end Go.Vc
namespace Go.Ar
open Go Go.Vc Go.Proofs
open Go.Bu (Zj)
variable {U:Hp}{F:Rg}{p q r:Nat}{sp:Sp}{l:List (Int×Sl)}{B:Nat->Nat}
theorem ZF {α:Type}{l:List (Int×α)}(hn:(l.map (·.1)).Nodup){n:Int}{x:α}(h:(n,x)∈l):bU l n=some x:=by
 induction l with
 | nil=>simp at h
 | cons y l ih=>
  rw[Ki];simp only[zR,zo]at hn;rcases zV.1 h with h1|h1
  ·subst h1;rw[zC rfl]
  ·have:¬y.1=n:=λe=>hn.1 (zE.2 ⟨_,h1,e.symm⟩);rw[zB this];exact ih hn.2 h1
end Go.Ar
namespace Go.Bu
open Go Go.Vc Go.Proofs
variable {U:Hp}{p n sb:Nat}{S:Nat->Bool}{ms:List Nat}
def kH (ms:List Nat):List Value:=ms.map λm=>Value.map (some m)
structure Part (B:Nat) (h:Hp) (p n:Nat) (j:Nat) (s:Sl) (ms:List Nat):Prop where
 len:ms.length=j
 sl:s.len=j
 hd:bY h p [.int .i64 n,.slice s.a s.len s.cap]
 own:Go.Vc.Own (λb=>B<=b/\b≠p/\b∉ms) h s 1 (kH ms)
 new:∀m∈ms,B<=m/\m≠p/\m<h.size
 nd:ms.Nodup
theorem Part.done {B:Nat}{h:Hp}{j:Nat}{s:Sl}(hp:Part B h p n j s ms)(hB:B<=p)(hj:0<j)(n1:1<=n)(n2:n<=1024)(lo:2^j<=2*n)(hi:n<2^j)(jr:Bounded S n)
 (maps:∀k m,ms[k]?=some m->∃B:List (Int×Bool),dH h m .i64 .b B/\Keys S k B):∃sb,BH h p n S sb ms/\∀b,fp p sb ms b->B<=b:=by
 rcases hp.own.2 with⟨_,hl,_⟩|⟨sb,cs,⟨hq,hqp,hqm⟩,ha,hb,hle,hcl,ht⟩
 ·have:=hp.sl;omega
 ·refine⟨sb,⟨?_,?_,maps,?_,n1,n2,?_,?_,jr⟩,?_⟩
  ·refine⟨s.cap,?_⟩;have:=hp.hd;rw[ha,hp.sl,←hp.len]at this;exact this
  ·refine⟨cs.drop (kH ms).length,?_⟩;have:kH ms++cs.drop (kH ms).length=cs:=by
    conv=>lhs;lhs;rw[←ht]
    exact oc _ _
   show bY h sb (kH ms++_);rw[this];exact hb
  ·simp only[zo,zV,not_or];exact⟨⟨λe=>hqp e.symm,λa=>(hp.new p a).2.1 rfl⟩,hqm,hp.nd⟩
  ·rw[hp.len];exact lo
  ·rw[hp.len];exact hi
  ·intro b hb;simp only[fp,zV]at hb;rcases hb with rfl|rfl|h
   ·exact hB
   ·exact hq
   ·exact(hp.new b h).1
theorem Part.SB {B:Nat}{h:Hp}{j:Nat}{s:Sl}(hp:Part B h p n j s ms):cell h ⟨p,1,none⟩=some (.slice s.a s.len s.cap):=by rw[hp.hd.cell];rfl
theorem Part.bO {B:Nat}{h h':Hp}{j:Nat}{s:Sl}(hp:Part B h p n j s ms)(e:aG h h'):Part B h' p n j s ms:=
 ⟨hp.len,hp.sl,e.bT hp.hd id,hp.own.bO e,λm a=>⟨(hp.new m a).1,(hp.new m a).2.1,uG (hp.new m a).2.2 e.1⟩,hp.nd⟩
theorem Part.step {B:Nat}{h:Hp}{j m e t bytes:Nat}{s:Sl}{zs:List Value}{K:Sl->Hp->Prop}(hp:Part B h p n j s ms)(hj:j<=1000)(hbt:bytes<=1000)(hz:zs.length=1)(hm:B<=m)(hmp:m≠p)(hml:m<h.size)(hmn:m∉ms)(hms:¬U9 s m)
 (hpB:p<h.size) (hBh:B<=h.size)
 (hgo:∀s' h',Ext (U9 s) h h'->s'.len=j+1->bY h' p [.int .i64 n,.slice s.a s.len s.cap] →
  (∀h2,QB h' h2 p->bY h2 p [.int .i64 n,.slice s'.a s'.len s'.cap]->Part B h2 p n (j+1) s' (ms++[m]))->K s' h') :
 App s 1 bytes e zs ⟨some ⟨h.size,0,none⟩,1,1⟩ (h.push (.cells #[.map (some m)] t (0,0))) K:=by
 have M:=hp.sl;have u:Go.Vc.Own (λb=>B<=b/\b≠p/\b∉ms++[m]) (h.push (.cells #[.map (some m)] t (0,0))) s 1 (kH ms):=by
  have d:=hp.own;have h2:Go.Vc.Own (λb=>B<=b/\b≠p/\b∉ms++[m]) h s 1 (kH ms):=by
   refine⟨d.1,d.2.imp id ?_⟩;rintro⟨b,cs,⟨q1,q2,q3⟩,ha,r⟩;refine⟨b,cs,⟨q1,q2,?_⟩,ha,r⟩;simp only[zK,zL,not_or];exact⟨q3,λe=>hms ⟨0,by rw[ha,e]⟩⟩
  exact h2.bO (Hc _ _)
 have z:(h.push (.cells #[.map (some m)] t (0,0))).size=h.size+1:=by simp
 refine u.app (ys:=[.map (some m)]) ?_ hz rfl SN (by simp[dO]) ?_ ?_ mU λs' h' D N H L=>?_
 ·intro b i;rw[z]at i;refine⟨O,O,?_⟩;simp only[zK,zL,not_or];exact⟨λw=>by have:=(hp.new b w).2.2;omega,O⟩
 ·simp only;have:(s.len+1)*bytes<=1001*1000:=l5 O hbt;omega
 ·simp only;omega
 ·simp only at D;have g:Ext (U9 s) h h':=(Hc h _).to.trans N;have A:¬U9 s p:=λi=>(hp.own.jj i).1.2.1 rfl;refine hgo s' h' g O (g.bT hp.hd A) λh2 y C=>⟨by simp[hp.len],O,C,?_,?_,?_⟩
  ·have:kH (ms++[m])=kH ms++[.map (some m)]:=by simp[kH]
   rw[this];exact H.bS (Ext.eM (F:=(· = p)) y rfl) (λb J _ E=>J.2.1 E)
  ·intro x hx;have G:h2.size=h'.size:=y.1;have:=g.1;rcases zK.1 hx with d|d
   ·have:=hp.new x d;exact⟨this.1,this.2.1,O⟩
   ·simp at d;subst d;exact⟨hm,hmp,O⟩
  ·rw[nC];refine⟨hp.nd,by simp,?_⟩;intro a ha b i;simp at i;subst i;rintro rfl;exact hmn ha
def iy:Nat->Bool:=λ_=>false
theorem PM (k:Nat):Keys iy k []:=by
 refine⟨by simp,λq a=>?_⟩;have:=Ub a (KO k q);simp[iy]at this
theorem sA (aF:Int){R:Option Addr->Int->Hp->Prop}(hbad:¬(1<=aF/\aF<=1024)->R none 1 U)
 (hR:∀(n:Nat),aF=(n:Int)->1<=n->n<=1024->∀σ' sb ms,aG U σ'->BH σ' U.size n iy sb ms->(∀b,fp U.size sb ms b->U.size<=b)->R (some ⟨U.size,0,none⟩) 0 σ'):QX.c aF U R:=by
 refine QX.o ?_;unfold QX.v;refine bW.intro (cP (λg=>cC rfl (hbad O)) λg=>?_);refine cP (λh2=>hbad O) λh2=>?_;obtain⟨n,rfl⟩:=zc (show 0<=aF by omega);have N:1<=n:=by omega
 have M:n<=1024:=by omega
 unfold Nw;have e0:=Hc U (.cells #[.int .i64 (n:Int),.slice none 0 0] 52 (0,0));refine Qc (a:=bN) (λt h=>∃(j:Nat) (s:Sl) (ms:List Nat),t=((2^j:Nat):Int)/\2^j<=2*n/\aG U h/\U.size<h.size/\Part U.size h U.size n j s ms/\∀m∈ms,dH h m .i64 .b []) (λt _=>2*n+1-t.toNat)
  ⟨0,⟨none,0,0⟩,[],rfl,by simp;omega,Ext.push _ _ _,by simp,⟨rfl,rfl,bY.push _ _ _,Own.nil _ _ _,by simp,by simp⟩,by simp⟩ ?_
 rintro t h ⟨j,s,ms,rfl,G,L,Y,d,w⟩;have hj:j<=11:=by
  apply Classical.byContradiction;intro hc;have:2^12<=2^j:=oF aB O;omega
 have P:=kJ j;refine cP (λhle=>?_) (λA=>?_)
 ·refine bK ?_;rw[add_lit,zH];refine og d.SB ?_;have e1:=Hc h (.map #[] 0);have X:(h.push (.map #[] 0)).size=h.size+1:=by simp
  have C:=d.bO e1;refine C.step (m:=h.size) O O rfl O O O (λy=>by have:=(d.new _ y).2.2;omega) (λr=>by have:=(d.own.jj r).2;omega) O O λW h' B hl r p=>?_;refine bK (r.N4 aA λh2 z H=>?_);have K:=p h2 z H;have E:aG U h2:=by
   refine Ext.fresh (Ext.fresh (L.trans e1) B λi D=>(d.own.jj D).1.1) (Ext.eM (F:=(· = U.size)) z rfl) λi D=>?_;rw[D];exact zD _
  refine cS (m:=2^(j+1)) (by rw[mj];omega) (by rw[mj];omega) ⟨⟨j+1,W,ms++[h.size],rfl,by rw[mj];omega,E,?_,K,?_⟩,by rw[mj];omega⟩
  ·have:=z.1;have:=B.1;omega
  ·intro m y;have oV:∀{m:Nat},dH (h.push (.map #[] 0)) m .i64 .b []->¬U9 s m->m≠U.size->dH h2 m .i64 .b []:=λhM V J=>Hs z (B.fS hM V) J;rcases zK.1 y with g|g
   ·exact oV (e1.fS (w m g) id) (λr=>(d.own.jj r).1.2.2 g) (d.new m g).2.1
   ·simp at g;subst g;exact oV (dH.push _ _ _) (λr=>by have:=(d.own.jj r).2;omega) O
 ·have u:0<j:=by
   rcases Au j with e|e
   ·subst e;simp at A;omega
   ·exact e
  obtain⟨sb,Z,Q⟩:=d.done (S:=iy) (zD _) u N M G O (λx hx=>by simp[iy]at hx) λk m y=>⟨[],w m (zG y),PM k⟩;exact hR n rfl N M h sb ms L Z Q
end Go.Bu
namespace Go.Proofs
open Go.Vc
set_option maxRecDepth 100000
def Xa.h:Hn:=.q .o1 (.q (.cQ (.seq [.op,.op,.op,.cW true 5 (RI.ops 5),.op])) .l)
def Xa.v (a:R2)(b:Hp)(c:aO):Prop:=bW (λd e=>c d e) λf=>If (!a.isNone) (bF a 1 b λh=>f (!h.isNone) b) (f false b)
theorem Xa.o {a b c}(d:Xa.v a b c):Xa.c a b c:=Wa Tryz.func111 (x:=Xa.h) (R0 d)
def QY.h:Hn:=.q .o2 (.q (.q .o3 .aJ) (.q .o3 (.q (.q (.cQ (.seq [.op,.op,.op,.cW false 3 (RI.ops 3),.op,.cW false 2 [.op,.op],.op,.cW false 2 [.op,.op]])) .aJ) (.q .o8 (.q .o9 (.q .o9 (.q (.q .o3 (.k (.loop [(61,.I)] (.q .o1 (.q (.c .l .l) (.q (.k (.q .o4 (.q .o7 (.q .o9 (.cQ (.gR true [18,21] [] (.tk [0,1,2,3,4,5,6,9,10,11,12,13] (.all [(7,.all [(8,.all [(14,.all [(15,.take 16 (.take 17 (.all [(18,.take 19 (.take 20 (.all [(21,.done)])))])))])]),(14,.all [(8,.all [(15,.take 16 (.take 17 (.all [(18,.take 19 (.take 20 (.all [(21,.done)])))])))])])]),(14,.all [(7,.all [(8,.all [(15,.take 16 (.take 17 (.all [(18,.take 19 (.take 20 (.all [(21,.done)])))])))])])])])))))))) .o2)))))) (.q .o3 .l))))))))
def QY.v (a:Sl)(b:R2)(c:Int)(d:Hp)(e:Option Addr->Int->Hp->Prop):Prop:=ZD.c a d λf g=>If (!f) (e none 2 g) (XB.c b g λh i=>bW (λj k=>bW (λl m=>bW (λn o=>If n (e none 1 o) (Wi.c a o λp q=>Qe.c q λr s=>Nw (.map #[] 0) s λt u=>aV #[.slice p.a p.len p.cap,.pointer b,.pointer none,.pointer none,.pointer r,.slice none 0 0,.slice none 0 0,.map (some t.block)] 179 u λv w=>QX.c h w λx y z=>bV (some v) λaa=>aR aa 2 (.pointer x) z λab=>KD.c h ab λac ad ae=>bV (some v) λaf=>aR af 3 (.pointer ac) ae λag=>XW [bN] (λah=>ah 0 ag) λai (aj:Int) ak=>If (aj<((a.len:Nat):Int)) (Ix a.a a.len aj 3 λal=>aQ al 0 ak λam=>aQ al 1 ak λan=>aQ al 2 ak λao=>aV #[.I 0,.I 0,.I 0] 137 ak λap aq=>aR ap 0 (.I am) aq λar=>aR ap 1 (.I an) ar λau=>aR ap 2 (.I ao) au λav=>aQ ap 0 av λaw=>aQ ap 1 av λax=>aQ ap 2 av λay=>Qf.c aw ax ay av λaz a0 a1=>aQ ap 2 a1 λa2=>ZX.c a2 c a1 λa3 a4 a5=>Jn [] (λa6=>bL (aj+1) λa7=>ai a7 a6) λa8=>dY a5 λa9=>bV (some v) λba=>aT a9 ba 5 λbb=>bV (some v) λbc=>aT a9 bc 6 λbd=>(aV #[.pointer az] 182 a5 λbe bf=>And (a9 bf) <| (App bb 1 8 182 [.pointer none] ⟨some be,1,1⟩ bf λbg bh=>And (a9 bh) <| aV #[.pointer a3] 184 bh λbi bj=>And (a9 bj) <| App bd 1 8 184 [.pointer none] ⟨some bi,1,1⟩ bj λbk bl=>And (a9 bl) <|
 bV (some v) λbm=>aR bm 5 (.slice bg.a bg.len bg.cap) bl λbn=>bV (some v) λbo=>aR bo 6 (.slice bk.a bk.len bk.cap) bn λbp=>a8 bp) ∧ (aV #[.pointer a3] 184 bf λbq br=>And (a9 br) <| App bb 1 8 182 [.pointer none] ⟨some be,1,1⟩ br λbs bt=>And (a9 bt) <| App bd 1 8 184 [.pointer none] ⟨some bq,1,1⟩ bt λbu bv=>And (a9 bv) <| bV (some v) λbw=>aR bw 5 (.slice bs.a bs.len bs.cap) bv λbx=>bV (some v) λbz=>aR bz 6 (.slice bu.a bu.len bu.cap) bx λb0=>a8 b0)) ∧ (aV #[.pointer a3] 184 a5 λb1 b2=>And (a9 b2) <| aV #[.pointer az] 182 b2 λb3 b4=>And (a9 b4) <| App bb 1 8 182 [.pointer none] ⟨some b3,1,1⟩ b4 λb5 b6=>And (a9 b6) <| App bd 1 8 184 [.pointer none] ⟨some b1,1,1⟩ b6 λb7 b8=>And (a9 b8) <| bV (some v) λb9=>aR b9 5 (.slice b5.a b5.len b5.cap) b8 λca=>bV (some v) λcb=>aR cb 6 (.slice b7.a b7.len b7.cap) ca λcc=>a8 cc)) (e (some v) 0 ak))) λcd=>If l (cd true m) (cd (decide (c>8)) m)) λce=>If j (ce true k) (ce (decide (c<0)) k)) λcf=>If (h<32) (cf true i) (Nz 16 <| cf ((h.tmod 16) != 0) i))
theorem QY.o {a b c d e}(f:QY.v a b c d e):QY.c a b c d e:=Wa Tryz.func143 (x:=QY.h) (R0 f)
def WB.h:Hn:=.q .o2 (.q (.q .o4 (.q .o2 (.c (.q .o3 .l) .l))) (.q (.o 12) .l))
def WB.v (a:R2)(b:Int)(c:Hp)(d:Sl->Int->Hp->Prop):Prop:=WR.c a b c λe f=>If (e != 0) (d ⟨none,0,0⟩ e f) (bE a 6 f λh=>Ix h.a h.len b 1 λi=>fW i f λj=>WC.c j f λk l m=>d k l m)
theorem WB.o {a b c d}(e:WB.v a b c d):WB.c a b c d:=Wa Tryz.func150 (x:=WB.h) (R0 e)
def WD.h:Hn:=.q .o2 (.q (.q .o4 (.q .o2 (.c (.q .o3 .l) .l))) (.q (.o 13) .l))
def WD.v (a:R2)(b c:Int)(d:Hp)(e:Sl->Int->Hp->Prop):Prop:=WR.c a b d λf g=>If (f != 0) (e ⟨none,0,0⟩ f g) (bE a 5 g λi=>Ix i.a i.len b 1 λj=>fW j g λk=>W6.c k c g λl m n=>e l m n)
theorem WD.o {a b c d e}(f:WD.v a b c d e):WD.c a b c d e:=Wa Tryz.func152 (x:=WD.h) (R0 f)
def XY.h:Hn:=.q .o1 (.q (.q .o4 (.q .o2 .aJ)) (.q (.o 17) (.q (.q .o2 .aJ) (.q .fP .l))))
def XY.v (a:R2)(b:Int)(c:Hp)(d:aN):Prop:=WR.c a b c λe f=>If (e != 0) (d e f) (bE a 0 f λh=>Ix h.a h.len b 3 λi=>aQ i 1 f λj=>bL (b+1) λk=>YC.c a j 1 k f λl m n=>If (m != 0) (d m n) (bE a 5 n λp=>Ix p.a p.len b 1 λq=>fW q n λr=>YT.c r l n λs t=>d s t))
theorem XY.o {a b c d}(e:XY.v a b c d):XY.c a b c d:=Wa Tryz.func153 (x:=XY.h) (R0 e)
def WP.h:Hn:=.q .o2 (.q (.k (.q .o4 (.c .aL (.q (.cQ (.seq [.op,.op,.op,.cW false 2 [.op,.op],.op,.cW false 2 [.op,.op],.op,.cW false 2 [.op,.op],.op,.cW false 5 (RI.ops 5),.op])) .aJ)))) (.q .o9 (.q (.q .o2 (.c (.q .o3 .l) .l)) (.q .o7 (.q .o3 .l)))))
def WP.v (a:R2)(b c:Int)(d:Hp)(e:Int->Int->Hp->Prop):Prop:=Xa.c a d λf g=>If (!f) (e 0 5 g) (bW (λh i=>bW (λj k=>bW (λl m=>bW (λn o=>If n (e 0 1 o) (YC.c a b c 41 o λp q r=>If (q != 0) (e 0 q r) (bI a 7 r λt=>kG .i64 bN t p b r λu=>e p 0 u))) λv=>If l (v true m) (bL (c-1) λw=>v ((bits .and .i64 c w) != 0) m)) λx=>If j (x true k) (x (decide (c>16)) k)) λy=>If h (y true i) (y (decide (c<1)) i)) λz=>If (b<1) (z true g) (z (decide (b>64)) g))
theorem WP.o {a b c d e}(f:WP.v a b c d e):WP.c a b c d e:=Wa Tryz.func155 (x:=WP.h) (R0 f)
def WO.h:Hn:=.q .o1 (.q (.q .o3 .aK) (.q (.o 11) (.q (.q .o2 .aK) (.q .o6 (.q .o6 .aM)))))
def WO.v (a:R2)(b:Int)(c:Hp)(d:aN):Prop:=Xa.c a c λe f=>If (!e) (d 5 f) (bI a 7 f λh=>Lk .i64 bN h b f λi=>If (!i.isSome) (d 8 f) (bI a 7 f λk=>lI .i64 bN k b f λl=>aV #[.I b,.I (i.getD 0)] 251 l λm n=>X6.c a ⟨some m,1,1⟩ n λo=>d 0 o))
theorem WO.o {a b c d}(e:WO.v a b c d):WO.c a b c d:=Wa Tryz.func163 (x:=WO.h) (R0 e)
def X6.h:Hn:=.q .o3 (.k (.loop [(8,.I)] (.q .o1 (.q (.c .l .l) (.q (.k (.q .o4 (.q (.cQ (.tail 8 (RI.ops 8) [.op])) (.q (.cQ (.tail 8 (RI.ops 8) [.op])) (.cQ (.tail 8 (RI.ops 8) [.op])))))) .o2)))))
def X6.v (a:R2)(b:Sl)(c:Hp)(d:aP):Prop:=XW [bN] (λe=>e 0 c) λf (g:Int) h=>If (g<((b.len:Nat):Int)) (Ix b.a b.len g 2 λi=>aQ i 0 h λj=>aQ i 1 h λk=>aV #[.I 0,.I 0] 251 h λl m=>aR l 0 (.I j) m λn=>aR l 1 (.I k) n λo=>bF a 4 o λq=>aQ l 0 o λr=>aQ l 1 o λs=>XD.c q r s o λt u=>bF a 3 u λw=>aQ l 0 u λx=>aQ l 1 u λy=>Xr.c w x y u λz aa=>bF a 2 aa λac=>aQ l 0 aa λad=>aQ l 1 aa λae=>XZ.c ac ad ae aa λaf ag=>bL (g+1) λah=>f ah ag) (d h)
theorem X6.o {a b c d}(e:X6.v a b c d):X6.c a b c d:=Wa Tryz.func165 (x:=X6.h) (R0 e)
def WQ.h:Hn:=.q .o1 (.q (.q .o4 (.q .o2 .aJ)) (.q (.o 14) (.q (.q .o2 .aJ) (.q .o3 .aM))))
def WQ.v (a:R2)(b:Int)(c:Sl)(d:Hp)(e:aN):Prop:=WR.c a b d λf g=>If (f != 0) (e f g) (bE a 5 g λi=>Ix i.a i.len b 1 λj=>fW j g λk=>YM.c k c g λl m n=>If (m != 0) (e m n) (X6.c a l n λo=>e 0 o))
theorem WQ.o {a b c d e}(f:WQ.v a b c d e):WQ.c a b c d e:=Wa Tryz.func175 (x:=WQ.h) (R0 f)
def WR.h:Hn:=.q .o1 (.q (.k (.q .o4 (.c .aM (.q (.cQ (.seq [.op,.op,.op,.cW false 7 (RI.ops 7),.op])) .aK)))) .aM)
def WR.v (a:R2)(b:Int)(c:Hp)(d:aN):Prop:=Xa.c a c λe f=>If (!e) (d 5 f) (bW (λg h=>If g (d 1 h) (d 0 h)) λi=>If (b<0) (i true f) (bE a 0 f λk=>i (decide (b≥((k.len:Nat):Int))) f))
theorem WR.o {a b c d}(e:WR.v a b c d):WR.c a b c d:=Wa Tryz.func206 (x:=WR.h) (R0 e)
def YC.h:Hn:=.q .o2 (.q (.o 12) (.kA [(10,.I),(11,.I)] (.q .o2 (.c (.q .o1 (.q (.k (.loop [(12,.I)] (.q (.q .o5 (.c .l .l)) (.k .o3)))) (.q (.q .o4 .aJ) (.o 12)))) .l)) (.q (.q .o2 (.c (.q .o3 .l) .l)) (.q .o7 (.q .o8 (.q .o3 .l))))))
def YC.v (a:R2)(b c d:Int)(e:Hp)(f:Int->Int->Hp->Prop):Prop:=bF a 2 e λh=>XG.c h b c e λi j k=>Jn [bN,bN] (λ(l:Int) (m:Int) n=>If (m != 0) (f 0 m n) (bF a 3 n λp=>XA.c p l b n λq r=>bF a 4 r λt=>X1.c t l b d r λu v=>f l 0 v)) λw=>If (j==6) (XW [bN] (λx=>x 16 k) λy (z:Int) aa=>If (z<(if c>b then c else b)) (bL (z*2) λab=>y ab aa) (YU.c a z aa λac ad=>If (!ac) (f 0 6 ad) (bF a 2 ad λaf=>XG.c af b c ad λag ah ai=>w ag ah ai))) (w i j k)
theorem YC.o {a b c d e f}(g:YC.v a b c d e f):YC.c a b c d e f:=Wa Tryz.func209 (x:=YC.h) (R0 g)
def YW.h:Hn:=.q .o3 (.q (.q .o3 (.c (.q .o3 .l) .l)) (.q (.q .o2 (.c (.q .o3 .l) .l)) (.q .o8 (.q (.q .o2 (.c (.q .o3 .l) .l)) (.kA [] (.q .o2 (.c (.q .o5 (.k (.loop [] (.q (.cQ (.seq [.it .i64 bN,.op])) (.q (.c .l .l) (.k (.q (.cQ (.seq [.it .i64 bN,.op,.op,.op,.op])) (.q .o3 (.q (.cQ (.seq [.op,.op,.op,.op,.cW true 5 (RI.ops 5)])) (.c (.q .o5 .l) .l)))))))))) .l)) (.q (.o 15) (.q (.q .o2 (.c (.q .o4 .l) .l)) (.q .o6 .l))))))))
def YW.v (a:R2)(b:Int)(c:Hp)(d:Int->Int->Int->Hp->Prop):Prop:=Xa.c a c λe f=>If (!e) (d 0 0 5 f) (If (b<0) (d 0 0 8 f) (bF a 4 f λh=>Nz 256<|bL (b.tdiv 256) λi=>Y7.c h i f λj k=>If (j==0) (d 0 0 8 k) (Jn [] (λl=>bE a 5 l λn=>bL (j-1) λo=>Ix n.a n.len o 1 λp=>fW p l λq=>Yr.c q b l λr s t=>If (s != 0) (d 0 0 s t) (bL (j-1) λu=>d u r 0 t)) λv=>If (j==41) (bI a 7 k λx=>nY .i64 bN x k λy z=>XW [] (λaa=>aa z) λab ac=>nZ .i64 bN y ac (v ac) (λad ae af=>nX .i64 bN y af λag ah=>Nz 256<|bL (b.tdiv 256) λai=>bW (λaj ak=>If aj (bL (ag*256) λal=>d (-1) al 0 ak) (ab ak)) λam=>If (ag<=ai) (bL (ag+ah) λan=>am (decide (ai<an)) af) (am false af))) (v k))))
theorem YW.o {a b c d}(e:YW.v a b c d):YW.c a b c d:=Wa Tryz.func213 (x:=YW.h) (R0 e)
def WH.h:Hn:=.q .o2 (.q (.q .o4 (.q .o2 (.c (.q .o3 .l) .l))) (.q (.q (.o 11) .aJ) (.q (.q .o3 (.k (.loop [(32,.I)] (.q .o1 (.q (.c .l .l) (.q (.k (.q .o3 (.q (.o 14) (.q (.cQ (.seq [.op,.op,.op,.cW false 2 [.op,.op]])) .aJ)))) .o2)))))) (.q (.o 13) .l))))
def WH.v (a:R2)(b:Int)(c:Sl)(d:Hp)(e:Bool->Int->Hp->Prop):Prop:=WR.c a b d λf g=>If (f != 0) (e false f g) (bE a 0 g λi=>Ix i.a i.len b 3 λj=>aQ j 2 g λk=>If (((c.len:Nat):Int) != k) (e false 1 g) (XW [bN] (λl=>l 0 g) λm (n:Int) o=>If (n<((c.len:Nat):Int)) (Ix c.a c.len n 1 λp=>bM p o λq=>bE a 5 o λs=>Ix s.a s.len b 1 λt=>fW t o λu=>W3.c u q o λv w x=>bW (λy z=>If y (e false 8 z) (bL (n+1) λaa=>m aa z)) λab=>If (w != 0) (ab true x) (ab (!v) x)) (bE a 6 o λad=>Ix ad.a ad.len b 1 λae=>fW ae o λaf=>W4.c af c o λag ah ai=>e ag ah ai)))
theorem WH.o {a b c d e}(f:WH.v a b c d e):WH.c a b c d e:=Wa Tryz.func217 (x:=WH.h) (R0 f)
def YY.h:Hn:=.q .o1 (.q (.cQ (.seq [.op,.op,.op,.cW true 7 (RI.ops 7),.op])) .l)
def YY.v (a:R2)(b:Int)(c:Hp)(d:aO):Prop:=Xa.c a c λe f=>bW (λg h=>d g h) λi=>If e (bF a 3 f λk=>XR.c k b f λl m=>i (decide (l>0)) m) (i false f)
theorem YY.o {a b c d}(e:YY.v a b c d):YY.c a b c d:=Wa Tryz.func251 (x:=YY.h) (R0 e)
def YU.h:Hn:=.q .o1 (.q (.q .o2 (.k (.loop [(5,.I)] (.q (.q .o9 (.c .l .l)) (.q (.k (.q (.q .o8 (.c .l .l)) (.q (.q .o3 (.k (.loop [(6,.I)] (.q (.q .o6 (.c .l .l)) (.q (.k .o6) .o3))))) (.q .o7 .aM)))) .o4))))) .aM)
def YU.v (a:R2)(b:Int)(c:Hp)(d:aO):Prop:=XW [bN] (λe=>e b c) λf (g:Int) h=>bL (g+b) λi=>bF a 1 h λk=>XB.c k h λl m=>If (i<=l) (bF a 1 m λo=>Y4.c o g b m λp q=>If (p != 0) (bL (g+b) λr=>f r q) (Nz 16<|bL (g.tdiv 16) λs=>XW [bN] (λt=>t s q) λu (v:Int) w=>bL (g+b) λx=>Nz 16<|bL (x.tdiv 16) λy=>If (v<y) (bF a 3 w λaa=>Yd.c aa v w λab ac=>bL (v+1) λad=>u ad ac) (bF a 2 w λaf=>XZ.c af g b w λag ah=>d true ah))) (d false m)
theorem YU.o {a b c d}(e:YU.v a b c d):YU.c a b c d:=Wa Tryz.func254 (x:=YU.h) (R0 e)
end Go.Proofs
namespace Go.Ar
open Go Go.Vc Go.Proofs
open Go.Bu (Zj QI Zh)
inductive Lb where
 | hd|dE|free|nV|own|dP|cN|runs
 | cE (k:Nat)
 | cM (k:Nat)
 deriving DecidableEq
structure Lay where
 p:Nat
 hs:Nat
 fr:Nat
 tr:Nat
 op:Nat
 rn:Nat
 dE:Sl
 dP:Sl
 cN:Sl
 fI:List Nat
 fY:List Nat
def kO (Y:Lay):List Value:=[.slice Y.dE.a Y.dE.len Y.dE.cap,.pointer (some ⟨Y.hs,0,none⟩),.pointer (some ⟨Y.fr,0,none⟩),.pointer (some ⟨Y.tr,0,none⟩),.pointer (some ⟨Y.op,0,none⟩),.slice Y.dP.a Y.dP.len Y.dP.cap,.slice Y.cN.a Y.cN.len Y.cN.cap,.map (some Y.rn)]
def gA (tb:List bZ):List Value:=tb.flatMap λc=>[.int .i64 (c.size:Int),.int .i64 (c.aF:Int),.int .i64 (c.batch:Int)]
def fK (l:List Nat):List Value:=l.map λb=>.pointer (some ⟨b,0,none⟩)
def iL (l:List (Nat×Nat)):List (Int×Int):=l.map λr=>((r.1:Int),(r.2:Int))
def ta (p n:Nat)(S:Nat->Bool):Hp->Rg->Prop:=λU F=>∃sb ms,Go.Bu.BH U p n S sb ms/\∀b,Go.Bu.fp p sb ms b->F b
def mo (p:Nat)(st:List Nat):Hp->Rg->Prop:=λU F=>∃q,ik U p q st/\F p/\F q
def jR (p:Option Nat)(c:Option bZ)(ss:Option (List cF)):Hp->Rg->Prop:=λU F=>match p,c,ss with
 | some p,some c,some ss=>∃ps,fC U F p c ps ss
 | _,_,_=>True
def k9 (p:Option Nat)(c:Option bZ)(room:Nat)(t:Option gI):Hp->Rg->Prop:=λU F=>match p,c,t with
 | some p,some c,some t=>jq U F p c.batch room t
 | _,_,_=>True
def AC (A:AR)(Y:Lay)(T:Nat->Hp->Rg->Prop):Lb->Hp->Rg->Prop
 | .hd=>iz Y.p (kO Y)
 | .dE=>cT Y.dE 3 (gA A.tb)
 | .free=>ta Y.fr A.n A.S
 | .nV=>mo Y.tr A.st
 | .own=>λU F=>jf U F Y.op A.ow
 | .dP=>bR Y.dP 1 (fK Y.fI)
 | .cN=>bR Y.cN 1 (fK Y.fY)
 | .runs=>jE Y.rn .i64 bN (iL A.runs)
 | .cE k=>jR Y.fI[k]? A.tb[k]? A.cE[k]?
 | .cM k=>T k
def cK (A:AR)(Y:Lay)(k:Nat):Hp->Rg->Prop:=k9 Y.fY[k]? A.tb[k]? A.room A.cM[k]?
theorem ta.loc (p n:Nat)(S:Nat->Bool):dM (ta p n S):=by
 rintro U σ' F G ⟨g,d,h,s⟩ x r;have m:∀b,Go.Bu.fp p g d b->b<U.size:=λb a=>by
  unfold Go.Bu.fp at a;rcases zV.1 a with h1|h1
  ·obtain⟨c,i⟩:=h.hd;rw[h1];exact i.lt
  rcases zV.1 h1 with h2|h2
  ·obtain⟨c,i⟩:=h.row;rw[h2];exact i.lt
  ·obtain⟨k,y⟩:=zQ h2;obtain⟨B,u,_⟩:=h.maps k b y;exact u.lt
 have e:Ext (λb=>¬Go.Bu.fp p g d b) U σ':=⟨x,λb a j=>(r b a (s b (Classical.not_not.1 j))).2⟩;exact⟨g,d,h.bS e λb a w=>w a,λb a=>(r b (m b a) (s b a)).1⟩
theorem mo.loc (p:Nat)(st:List Nat):dM (mo p st):=by
 rintro U σ' F G ⟨q,h,i,j⟩ r a;have e:Ext (λb=>b≠p/\b≠q) U σ':=⟨r,λb m s=>by
  by_cases h1:b=p
  ·subst h1;exact(a b m i).2
  ·have g:b=q:=Classical.byContradiction λg=>s ⟨h1,g⟩;subst g;exact(a b m j).2⟩
 exact⟨q,h.bS e (λd=>d.1 rfl) (λd=>d.2 rfl),(a p h.lt.1 i).1,(a q h.lt.2 j).1⟩
theorem jR.loc (p:Option Nat)(c:Option bZ)(ss:Option (List cF)):dM (jR p c ss):=by
 rintro U e F G h b a;unfold jR at *;split
 ·simp only at h;obtain⟨d,h⟩:=h;exact⟨d,fC.loc _ _ _ _ h b a⟩
 ·trivial
theorem k9.loc (p:Option Nat)(c:Option bZ)(room:Nat)(t:Option gI):dM (k9 p c room t):=by
 rintro U d F G h b a;unfold k9 at *;split
 ·exact jq.loc _ _ _ _ h b a
 ·trivial
theorem AC.loc {A:AR}{Y:Lay}{T:Nat->Hp->Rg->Prop}(hT:∀k,dM (T k)):∀i,dM (AC A Y T i)
 | .hd=>iz.loc _ _
 | .dE=>cT.loc _ _ _
 | .free=>ta.loc _ _ _
 | .nV=>mo.loc _ _
 | .own=>jf.loc
 | .dP=>bR.loc _ _ _
 | .cN=>bR.loc _ _ _
 | .runs=>jE.loc _ _ _ _
 | .cE k=>jR.loc _ _ _
 | .cM k=>hT k
theorem cK.loc {A:AR}{Y:Lay}(k:Nat):dM (cK A Y k):=k9.loc _ _ _ _
structure eU (A:AR) (Y:Lay):Prop where
 c:Y.fI.length=A.tb.length
 t:Y.fY.length=A.tb.length
 cE:A.cE.length=A.tb.length
 cM:A.cM.length=A.tb.length
 nr:1<=A.tb.length
 qM:A.tb.length<=40
 n1:32<=A.n
 n2:A.n<=1024
 n3:A.n%16=0
 st:A.st.length=A.n
 room:A.room<=8
 ok:∀c∈A.tb,c.ok
structure dG (U:Hp) (F:Rg) (Y:Lay) (A:AR) (T:Nat->Hp->Rg->Prop):Prop where
 lay:eU A Y
 tl:∀k,dM (T k)
 sep:Sep (AC A Y T) U F
def AH (U:Hp)(F:Rg)(p hs:Nat)(A:AR):Prop:=∃Y:Lay,Y.p=p/\Y.hs=hs/\dG U F Y A (cK A Y)
variable {U:Hp}{F:Rg}{p hs:Nat}{A:AR}{Y:Lay}{T:Nat->Hp->Rg->Prop}
theorem dG.loc:dM λU F=>dG U F Y A T:=λU d F G h b a=>⟨h.lay,h.tl,Sep.loc (AC.loc h.tl) _ _ _ _ h.sep b a⟩
theorem AH.loc:dM λU F=>AH U F p hs A:=λU e F G ⟨Y,d,a,h⟩ b hs=>⟨Y,d,a,dG.loc _ _ _ _ h b hs⟩
theorem dG.bO {σ':Hp}(h:dG U F Y A T)(e:aG U σ'):dG σ' F Y A T:=dM.bO dG.loc h e
theorem dG.hd (h:dG U F Y A T):bY U Y.p (kO Y):=by
 obtain⟨G,d,b,a⟩:=h.sep.get .hd;exact a
theorem Ua (tb:List bZ):(gA tb).length=tb.length*3:=by
 induction tb with
 | nil=>rfl
 | cons x l ih=>simp only[gA,nJ,zO,zX,lz]at *;omega
theorem GR {tb:List bZ}{i:Nat}{c:bZ}(h:tb[i]?=some c):(gA tb)[3*i]?=some (.int .i64 (c.size:Int))/\(gA tb)[3*i+1]?=some (.int .i64 (c.aF:Int))/\(gA tb)[3*i+2]?=some (.int .i64 (c.batch:Int)):=by
 induction tb generalizing i with
 | nil=>simp at h
 | cons x l ih=>
  have e:gA (x::l)=[.int .i64 (x.size:Int),.int .i64 (x.aF:Int),.int .i64 (x.batch:Int)]++gA l:=by simp[gA]
  rw[e];cases i with
  | zero=>simp at h;subst h;simp
  | succ i=>
   have:=ih (i:=i) (by simpa using h);rw[show 3*(i+1)=3*i+3 by omega];simpa using this
theorem dG.oK (h:dG U F Y A T):Y.dE.len=A.tb.length:=by
 obtain⟨G,b,a⟩:=h.sep.get .dE;have:=a.1;rw[Ua]at this;omega
theorem sW {s:Sl}{tb:List bZ}(h:cT s 3 (gA tb) U F){k d:Nat}{c:bZ}(hc:tb[k]?=some c)(hd:d<3){K:Int->Prop}(hK:K (if d=0 then c.size else if d=1 then c.aF else c.batch:Nat)) :
 Ix s.a s.len (k:Int) 3 λa=>gE .i64 (a.add d) U K:=by
 have g:=GR hc;have m:(gA tb)[3*k+d]?=some (.int .i64 ((if d=0 then c.size else if d=1 then c.aF else c.batch:Nat):Int)):=by
  match d,hd with
  | 0,_=>exact g.1
  | 1,_=>exact g.2.1
  | 2,_=>exact g.2.2
 have p:=(cX.1 hc).1;obtain⟨b,o,j,e⟩:=h.cell m;have i:=h.1;rw[Ua]at i;rw[j];refine ix O O ?_;rw[add_lit,add_lit];refine nR ?_ hK;rw[show o+(k:Int).toNat*3+d=o+(3*k+d) by omega];exact e
theorem dG.vX (h:dG U F Y A T){k d:Nat}{c:bZ}(hc:A.tb[k]?=some c)(hd:d<3){K:Int->Prop}(hK:K (if d=0 then c.size else if d=1 then c.aF else c.batch:Nat)) :
 Ix Y.dE.a Y.dE.len (k:Int) 3 λa=>gE .i64 (a.add d) U K:=by
 obtain⟨G,e,b⟩:=h.sep.get .dE;exact sW b hc hd hK
theorem A3 {s:Sl}{l:List Nat}(h:cT s 1 (fK l) U F){k q:Nat}(hq:l[k]?=some q){K:Option Addr->Prop}(hK:K (some ⟨q,0,none⟩)):Ix s.a s.len (k:Int) 1 λa=>fW a U K:=by
 have i:=(cX.1 hq).1;obtain⟨b,o,g,d⟩:=h.cell (j:=k) (v:=.pointer (some ⟨q,0,none⟩)) (by simp[fK,hq]);have e:=h.1;simp[fK]at e;rw[g];refine ix O O ?_;rw[add_lit];exact uR (by rw[show o+(k:Int).toNat*1=o+k by omega];exact d) hK
theorem dG.l3 (h:dG U F Y A T){k q:Nat}(hq:Y.fI[k]?=some q){K:Option Addr->Prop}(hK:K (some ⟨q,0,none⟩)):Ix Y.dP.a Y.dP.len (k:Int) 1 λa=>fW a U K:=by
 obtain⟨G,d,b⟩:=h.sep.get .dP;exact A3 (bR.fX b) hq hK
theorem dG.rE (h:dG U F Y A T){k q:Nat}(hq:Y.fY[k]?=some q){K:Option Addr->Prop}(hK:K (some ⟨q,0,none⟩)):Ix Y.cN.a Y.cN.len (k:Int) 1 λa=>fW a U K:=by
 obtain⟨G,d,b⟩:=h.sep.get .cN;exact A3 (bR.fX b) hq hK
theorem dG.at_ (h:dG U F Y A T){k:Nat}(hk:k<A.tb.length):∃c ss q t r,A.tb[k]?=some c/\A.cE[k]?=some ss/\Y.fI[k]?=some q/\A.cM[k]?=some t/\Y.fY[k]?=some r/\c.ok:=by
 have e:=h.lay.c;have a:=h.lay.t;have b:=h.lay.cE;have d:=h.lay.cM;exact⟨A.tb[k],A.cE[k],Y.fI[k],A.cM[k],Y.fY[k],by simp,by simp,by simp,by simp,by simp,h.lay.ok _ (zp hk)⟩
theorem Fo {k q:Nat}{c:bZ}{ss:List cF}{G:Rg}(h1:Y.fI[k]?=some q)(h2:A.tb[k]?=some c)(h3:A.cE[k]?=some ss)(h:AC A Y T (.cE k) U G):∃ps,fC U G q c ps ss:=by
 simp only[AC]at h;rw[h1,h2,h3]at h;exact h
theorem dG.cE (h:dG U F Y A T){k q:Nat}{c:bZ}{ss:List cF}(h1:Y.fI[k]?=some q)(h2:A.tb[k]?=some c)(h3:A.cE[k]?=some ss):∃G ps,(∀b,G b->F b)/\fC U G q c ps ss:=by
 obtain⟨G,d,a⟩:=h.sep.get (.cE k);obtain⟨ps,e⟩:=Fo h1 h2 h3 a;exact⟨G,ps,d,e⟩
theorem HB (h:dG U F Y A T){R:aO}(hR:R true U):Xa.c (aW Y.p) U R:=by
 refine Xa.o ?_;unfold Xa.v;exact bW.intro (cC rfl (bK (h.hd.rP rfl hR)))
theorem Uo (h:dG U F Y A T)(k:Int){R:aN}(h1:A.ck k=false->R 1 U)(h0:∀x:Nat,k=x->x<A.tb.length->R 0 U):WR.c (aW Y.p) k U R:=by
 refine WR.o ?_;unfold WR.v;have g:=h.oK;have a:¬(0<=k/\k<A.tb.length)->R 1 U:=λe=>h1 (by unfold AR.ck;rw[←ve];exact zN e);refine HB h (cB rfl (bW.intro (cP (λd=>cC rfl (a O)) λd=>bK (h.hd.rS rfl (cP (λb=>?_) λb=>?_)))))
 ·simp only at b;exact a O
 ·simp only at b;exact h0 k.toNat O O
theorem JA (h:dG U F Y A T)(x:Int){R:aO}(hR:R (G4 A x) U):YY.c (aW Y.p) x U R:=by
 refine YY.o ?_;unfold YY.v;obtain⟨G,b,q,a,_⟩:=h.sep.get .nV;refine HB h (bW.intro (cC rfl (bK (h.hd.rP rfl (TK a x ?_)))));have:decide (x8 A.st x>0)=G4 A x:=by
  unfold x8 G4;by_cases hx:0<=x
  ·by_cases hl:x<A.st.length
   ·rw[zC ⟨hx,hl⟩,zJ hx,qA,decide_eq_decide];omega
   ·rw[zB O,zJ hx,qA,zP,zW O];rfl
  ·rw[zB O,zN hx];rfl
 rw[this];exact hR
structure iI (A:AR):Prop where
 sB:∀r∈A.runs,∀s∈A.runs,∀x,r.1<=x->x<r.1+r.2->s.1<=x->x<s.1+s.2->r=s
 yp:∀x,x<1024->A.ow x=41->(rm A x).isSome=true
 cls:∀x,x<1024->A.ow x≠0->A.ow x≠41->A.ow x<=A.tb.length
 fit:∀r∈A.runs,r.1+r.2<=1024
theorem BD (h:iI A){x:Nat}{r:Nat×Nat}(hr:r∈A.runs)(h1:r.1<=x)(h2:x<r.1+r.2):rm A x=some r:=by
 cases hf:rm A x with
 | none=>
  unfold rm at hf;rw[nQ]at hf;have:=hf r hr;simp[h1,h2]at this
 | some s=>
  unfold rm at hf;have b:=uc hf;have a:=sL hf;simp at a;rw[h.sB r hr s b x h1 h2 a.1 a.2]
theorem PA (h:dG U F Y A T)(hr:iI A)(x:Int)(hx:iG x){R:Int->Int->Int->Hp->Prop}(h1:∀σ' k a,aG U σ'->U4 A x=some (k,a)->R k (a:Int) 0 σ')(h0:∀σ',aG U σ'->U4 A x=none->R 0 0 8 σ') :
 YW.c (aW Y.p) x U R:=by
 refine YW.o ?_;unfold YW.v;refine HB h (cB rfl (cP (λQ=>h0 U (Ext.refl _ _) (by unfold U4;rw[zC Q])) λQ=>bK (h.hd.rP rfl (nz aB ?_))));obtain⟨y,rfl⟩:=zc (show 0<=x by omega);have hy:y<=9223372036854775807:=by unfold iG at hx;omega
 have tp:((y:Int).tdiv 256)=((y/256:Nat):Int):=by rw[XX O];simp
 refine ar (by rw[tp];omega) (by rw[tp];omega) ?_;rw[tp];obtain⟨G,hG,hP⟩:=h.sep.get .own;refine LO hP _ ?_;have eo:qz A.ow ((y/256:Nat):Int)=if y/256<1024 then A.ow (y/256)else 0:=by
  unfold qz;by_cases hl:y/256<1024
  ·rw[zC O,zC hl];rfl
  ·rw[zB O,zB hl]
 have g:U4 A (y:Int)=(let no:=if y/256<1024 then A.ow (y/256)else 0
  if no=0 then none else if no=41 then(rm A (y/256)).map λr=>(-1,r.1*256)else
  match A.tb[no-1]?,A.cE[no-1]? with
  | some c,some ss=>(qX c ss (y:Int)).map λa=>(((no-1:Nat):Int),a)
  | _,_=>none):=by
  unfold U4;rw[zB Q];rfl
 rw[eo];generalize hno:(if y/256<1024 then A.ow (y/256)else 0)=no at *
 simp only at g;rw[tu];refine cO (λe0=>h0 U (Ext.refl _ _) (by rw[g,zC (by simpa using e0)])) λe0=>?_;have E:no≠0:=by simpa using e0
 rw[zB E]at g;have C:y/256<1024:=by
  rcases kE (y/256) 1024 with h|h
  ·exact h
  ·rw[zB O]at hno;exact absurd hno.symm E
 rw[zC C]at hno;refine Jn.intro ?_;have W:(((no:Nat):Int)==41)=(no==41):=lR no 41;rw[W];refine cO (λc2=>?_) λc2=>?_
 ·have j:no=41:=by simpa using c2
  subst j;rw[zC rfl]at g;obtain⟨r,M⟩:=qi.1 (hr.yp _ C hno);have w:=uc M;have D:=sL M;simp at D;obtain⟨G,hG,K⟩:=h.sep.get .runs;refine bK (h.hd.rM rfl ?_);refine Bm K.2 (λb v=>aG U v/\(∀z∈b,z∈iL A.runs)/\((r.1:Int),(r.2:Int))∈b) (λv hz e=>⟨e,λz hz=>hz,zE.2 ⟨r,w,rfl⟩⟩) (λv hv=>absurd hv.2.2 aA) ?_;rintro b n z v v' J ⟨e,d,B⟩ hm ho hlt2 hJ;have e':aG U v':=Ext.fresh e ho.ext λi hi=>by omega
  obtain⟨s,P,S⟩:=zE.1 (d _ hm);cases S;have hfit:=hr.fit s P;refine nz aB (ar O O ?_);refine bW.intro (cP (λc3=>ar O O (cP (λc4=>?_) λc4=>?_)) λc3=>cB rfl ?_)
  ·have hsr:=BD hr P (x:=y/256) O O;refine ar O O ?_;have:=h1 v' (-1) (s.1*256) e' (by rw[g,hsr];rfl);simpa using this
  ·refine hJ v' rfl rfl ⟨e',λu V=>d u (zI.1 V).1,zI.2 ⟨B,?_⟩⟩;have:¬(r.1:Int)=(s.1:Int):=λe=>by
    have:=BD hr w D.1 D.2;have e1:r.1=s.1:=by omega
    by_cases h2:r.2=0
    ·omega
    by_cases h3:s.2=0
    ·have:=K.2.nodup;have L:=ZF this (zE.2 ⟨r,w,rfl⟩);have N:=ZF this (zE.2 ⟨s,P,rfl⟩);rw[e1,N]at L;have:s.2=r.2:=by
      have:(s.2:Int)=(r.2:Int):=Option.some.inj L;omega
     omega
    ·have:=hr.sB r w s P r.1 O O O O;subst this;omega
   simpa using this
  ·refine hJ v' rfl rfl ⟨e',λu V=>d u (zI.1 V).1,zI.2 ⟨B,?_⟩⟩;have:¬(r.1:Int)=(s.1:Int):=λe=>by omega
   simpa using this
 ·have j:no≠41:=by simpa using c2
  rw[zB j]at g;have Z:=hr.cls _ C (by rw[hno];exact E) (by rw[hno];exact j);rw[hno]at Z;obtain⟨c,ss,q,t,r,hc,H,hq,_,_,hok⟩:=h.at_ (k:=no-1) O;obtain⟨G,ps,hG,hC⟩:=h.cE hq hc H;rw[hc,H]at g;simp only at g;refine bK (h.hd.rS rfl (cS (m:=no-1) O (by have:=h.lay.qM;omega) (h.l3 hq (LJ hC _ hx (λa X=>?_) λX=>?_))))
  ·refine cB rfl (cS (m:=no-1) O (by have:=h.lay.qM;omega) (h1 U _ a (Ext.refl _ _) ?_));rw[g,X];rfl
  ·refine cC rfl (h0 U (Ext.refl _ _) ?_);rw[g,X];rfl
end Go.Ar
namespace Go.Ar
open Go Go.Vc Go.Proofs
open Go.Bu (Zj QI Zh)
open Classical in
theorem _root_.Go.Vc.Sep.jX {L:Type}{C:L->Hp->Rg->Prop}{U:Hp}{F:Rg}(hC:∀i,dM (C i))(h:Sep C U F)(i:L):∃G:Rg,(∀b,G b->F b)/\C i U G/\(∀j,j≠i->∃H:Rg,(∀b,H b->F b)/\(∀b,H b->¬G b)/\C j U H)/\∀(σ':Hp) (C':L->Hp->Rg->Prop) (G':Rg),
 (∀j,j≠i->C' j=C j)->Ext G U σ'->(∀b,G' b->G b\/U.size<=b)->C' i σ' G'->dM (C' i)->Sep C' σ' λb=>F b/\b<U.size/\¬G b\/G' b:=by
 obtain⟨ρ,h⟩:=h;refine⟨_,λb a=>a.1,h i,λj p=>⟨_,λb a=>a.1,λb m y=>p (m.2.symm.trans y.2),h j⟩,λσ' C' G' p e w x u=>⟨λb=>if G' b then i else ρ b,λj=>?_⟩⟩
 by_cases hji:j=i
 ·subst hji;exact u.mono x λb _ a=>⟨.inr a,zC a⟩
 ·rw[p j hji];refine hC j _ _ _ _ (h j) e.1 λb a s=>?_;have d:¬(F b/\ρ b=i):=λr=>hji (s.2.symm.trans r.2);have g:¬G' b:=λr=>by
   rcases w b r with m|m
   ·exact d m
   ·omega
  exact⟨⟨.inl ⟨s.1,a,d⟩,(zB g).trans s.2⟩,e.2 b a d⟩
variable {U:Hp}{F:Rg}{p hs:Nat}{A:AR}{Y:Lay}{T:Nat->Hp->Rg->Prop}
theorem dG.step (h:dG U F Y A T)(i:Lb):∃G:Rg,(∀b,G b->F b)/\AC A Y T i U G/\(∀j,j≠i->∃H:Rg,(∀b,H b->F b)/\(∀b,H b->¬G b)/\AC A Y T j U H)/\∀(σ':Hp) (A':AR) (Y':Lay) (T':Nat->Hp->Rg->Prop) (G' H:Rg),
 eU A' Y'->(∀k,dM (T' k))->(∀j,j≠i->AC A' Y' T' j=AC A Y T j)->Ext G U σ'->(∀b,G' b->G b\/U.size<=b)->AC A' Y' T' i σ' G'->(∀b,(F b/\b<U.size/\¬G b\/G' b)->H b)->dG σ' H Y' A' T':=by
 obtain⟨G,m,u,hd,a⟩:=h.sep.jX (AC.loc h.tl) i;refine⟨G,m,u,hd,λσ' A' Y' T' G' H p d r e s g x=>⟨p,d,?_⟩⟩;exact(Sep.loc (AC.loc d)).mono (a σ' _ G' r e s g (AC.loc d i)) λb _ w=>x b w
theorem HG {U:Hp}{F G G':Rg}(hG:∀b,G b->F b)(hg:∀b,G' b->G b\/U.size<=b):∀b,(F b/\b<U.size/\¬G b\/G' b)->Grow F U b:=λb a=>by
 rcases a with a|a
 ·exact .inl a.1
 ·exact(hg b a).imp (hG b) id
theorem yH {U:Hp}{F G G':Rg}(hG:∀b,G b->F b)(hg:∀b,G' b->G b):∀b,(F b/\b<U.size/\¬G b\/G' b)->F b:=λb a=>by
 rcases a with a|a
 ·exact a.1
 ·exact hG b (hg b a)
theorem EI {U:Hp}{F G:Rg}(hG:∀b,G b->F b):∀b,(F b/\b<U.size/\¬G b\/Cut G U b)->Cut F U b:=λb a=>by
 rcases a with a|a
 ·exact⟨a.1,a.2.1⟩
 ·exact⟨hG b a.1,a.2⟩
theorem Di {ow:Nat->Nat}:∀j,j≠Lb.own->AC {A with ow:=ow} Y T j=AC A Y T j:=by
 intro j hj;cases j<;>first|rfl|exact absurd rfl hj
theorem Ts {st:List Nat}:∀j,j≠Lb.nV->AC {A with st:=st} Y T j=AC A Y T j:=by
 intro j hj;cases j<;>first|rfl|exact absurd rfl hj
theorem Bj {S:Nat->Bool}:∀j,j≠Lb.free->AC {A with S:=S} Y T j=AC A Y T j:=by
 intro j hj;cases j<;>first|rfl|exact absurd rfl hj
theorem ON {rs:List (Nat×Nat)}:∀j,j≠Lb.runs->AC {A with runs:=rs} Y T j=AC A Y T j:=by
 intro j hj;cases j<;>first|rfl|exact absurd rfl hj
theorem TB {k:Nat}{ss:List cF}:∀j,j≠Lb.cE k->AC {A with cE:=A.cE.set k ss} Y T j=AC A Y T j:=by
 intro j hj;cases j<;>first|rfl|skip
 rename_i k';have a:k≠k':=λe=>hj (by rw[e]);simp only[AC];rw[zj a]
theorem eU.ow {ow:Nat->Nat}(h:eU A Y):eU {A with ow:=ow} Y:=⟨h.c,h.t,h.cE,h.cM,h.nr,h.qM,h.n1,h.n2,h.n3,h.st,h.room,h.ok⟩
theorem eU.y9 {S:Nat->Bool}(h:eU A Y):eU {A with S:=S} Y:=⟨h.c,h.t,h.cE,h.cM,h.nr,h.qM,h.n1,h.n2,h.n3,h.st,h.room,h.ok⟩
theorem eU.qP {rs:List (Nat×Nat)}(h:eU A Y):eU {A with runs:=rs} Y:=⟨h.c,h.t,h.cE,h.cM,h.nr,h.qM,h.n1,h.n2,h.n3,h.st,h.room,h.ok⟩
theorem eU.wK {st:List Nat}(h:eU A Y)(hl:st.length=A.st.length):eU {A with st:=st} Y:=⟨h.c,h.t,h.cE,h.cM,h.nr,h.qM,h.n1,h.n2,h.n3,hl.trans h.st,h.room,h.ok⟩
theorem eU.kX {k:Nat}{ss:List cF}(h:eU A Y):eU {A with cE:=A.cE.set k ss} Y:=⟨h.c,h.t,by simpa using h.cE,h.cM,h.nr,h.qM,h.n1,h.n2,h.n3,h.st,h.room,h.ok⟩
theorem DS (st:List Nat)(a m:Int)(v:Nat)(fr:List Nat):(Uv st a m v fr).length=st.length:=by
 unfold Uv;split<;>simp[KJ]
theorem Mt (st:List Nat)(k:Int):(iO st k).length=st.length:=by
 unfold iO;split<;>simp[KJ]
theorem dG.Clear (h:dG U F Y A T)(a m:Nat)(ha:a<=1000000){R:aN}(hR:∀σ' t,Ext F U σ'->dG σ' (Grow F U) Y {A with ow:=jH A.ow a m 0} T->R t σ'):XD.c (aW Y.op) a m U R:=by
 obtain⟨G,i,j,_,d⟩:=h.step .own;refine Pk j a m ha λσ' e p=>hR σ' _ (e.sub i) ?_;exact d σ' _ _ T (Grow G U) _ h.lay.ow h.tl Di e (λb g=>g) p (HG i λb g=>g)
theorem dG.Set (h:dG U F Y A T)(a m:Nat)(ha:a<=1000000){no:Nat}(h1:1<=no)(h2:no<=1000){R:aN}(hR:∀σ' t,Ext F U σ'->dG σ' (Grow F U) Y {A with ow:=jH A.ow a m no} T->R t σ'):X1.c (aW Y.op) a m no U R:=by
 obtain⟨G,i,j,_,d⟩:=h.step .own;refine M4 j a m ha h1 h2 λσ' e p=>hR σ' _ (e.sub i) ?_;exact d σ' _ _ T (Grow G U) _ h.lay.ow h.tl Di e (λb g=>g) p (HG i λb g=>g)
theorem dG.nV (h:dG U F Y A T):∃G:Rg,(∀b,G b->F b)/\∃q,ik U Y.tr q A.st/\F q/\∀(σ':Hp) (st:List Nat),st.length=A.st.length->Ext (· = q) U σ'->ik σ' Y.tr q st->Ext F U σ'/\dG σ' F Y {A with st:=st} T:=by
 obtain⟨G,g,⟨q,j,r,i⟩,_,d⟩:=h.step .nV;refine⟨G,g,q,j,g _ i,λσ' st m e p=>⟨e.sub λb a=>by subst a;exact g _ i,?_⟩⟩;exact d σ' _ _ T G _ (h.lay.wK m) h.tl Ts (e.sub λb a=>by subst a;exact i) (λb a=>.inl a) ⟨q,p,r,i⟩ (yH g λb a=>a)
theorem dG.vN (h:dG U F Y A T)(a m:Int){R:aN}(hR:∀σ' t,Ext F U σ'->dG σ' F Y {A with st:=Uv A.st a m 2 [1]} T->R t σ'):Xr.c (aW Y.tr) a m U R:=by
 obtain⟨G,i,q,d,_,b⟩:=h.nV;refine Ni d a m λσ' e g=>?_;have:=b σ' _ (DS _ _ _ _ _) e g;exact hR σ' _ this.1 this.2
theorem dG.RT (h:dG U F Y A T)(a m:Int){R:aN}(hR:∀σ' t,Ext F U σ'->dG σ' F Y {A with st:=Uv A.st a m 1 [2,3]} T->R t σ'):XA.c (aW Y.tr) a m U R:=by
 obtain⟨G,i,q,d,_,b⟩:=h.nV;refine Oc d a m λσ' e g=>?_;have:=b σ' _ (DS _ _ _ _ _) e g;exact hR σ' _ this.1 this.2
theorem dG.AQ (h:dG U F Y A T)(k:Int){R:aN}(hR:∀σ' t,Ext F U σ'->dG σ' F Y {A with st:=iO A.st k} T->R t σ'):Yd.c (aW Y.tr) k U R:=by
 obtain⟨G,g,q,b,_,a⟩:=h.nV;refine ML b k λσ' e d=>?_;have:=a σ' _ (Mt _ _) e d;exact hR σ' _ this.1 this.2
theorem dG.free (h:dG U F Y A T):∃sb ms,Go.Bu.BH U Y.fr A.n A.S sb ms/\∀(σ':Hp) (S:Nat->Bool),Ext (· ∈ ms) U σ'->Go.Bu.BH σ' Y.fr A.n S sb ms->Ext F U σ'/\dG σ' F Y {A with S:=S} T:=by
 obtain⟨G,g,⟨sb,ms,m,i⟩,_,d⟩:=h.step .free;have j:∀b,b∈ms->G b:=λb a=>i b (by unfold Go.Bu.fp;simp[a]);refine⟨sb,ms,m,λσ' S e p=>⟨e.sub λb a=>g b (j b a),?_⟩⟩;exact d σ' _ _ T G _ h.lay.y9 h.tl Bj (e.sub j) (λb a=>.inl a) ⟨sb,ms,p,i⟩ (yH g λb a=>a)
theorem dG.wg (h:dG U F Y A T)(a m:Int){R:aN}(hR:∀σ' t,Ext F U σ'->dG σ' F Y {A with S:=QI A.n A.S a m} T->R t σ'):XZ.c (aW Y.fr) a m U R:=by
 obtain⟨j,i,g,b⟩:=h.free;refine Go.Bu.qj g a m λσ' e d=>?_;have:=b σ' _ e d;exact hR σ' _ this.1 this.2
theorem dG.vM (h:dG U F Y A T)(a m:Int){R:Int->Int->Hp->Prop}(hR:∀σ',Ext F U σ'->dG σ' F Y {A with S:=Go.Bu.iV A.n A.S a m} T->R ((Go.Bu.iX A.n A.S a m:Nat):Int) (Go.Bu.iP A.n A.S a m) σ'):XG.c (aW Y.fr) a m U R:=by
 obtain⟨j,i,g,b⟩:=h.free;refine Go.Bu.kU g a m λσ' e d=>?_;have:=b σ' _ e d;exact hR σ' this.1 this.2
def rV (rs:List (Nat×Nat)):List Value:=rs.flatMap λr=>[.int .i64 (r.1:Int),.int .i64 (r.2:Int)]
theorem IC (rs:List (Nat×Nat)):(rV rs).length=rs.length*2:=by
 induction rs with
 | nil=>rfl
 | cons x l ih=>simp only[rV,nJ,zO,zX,lz]at *;omega
theorem L6 {l:List (Nat×Nat)}{i:Nat}{r:Nat×Nat}(h:l[i]?=some r):(rV l)[2*i]?=some (.int .i64 (r.1:Int))/\(rV l)[2*i+1]?=some (.int .i64 (r.2:Int)):=by
 induction l generalizing i with
 | nil=>simp at h
 | cons x l ih=>
  have e:rV (x::l)=[.int .i64 (x.1:Int),.int .i64 (x.2:Int)]++rV l:=by simp[rV]
  rw[e];cases i with
  | zero=>simp at h;subst h;simp
  | succ i=>
   have:=ih (i:=i) (by simpa using h);rw[show 2*(i+1)=2*i+2 by omega];simpa using this
theorem M9 (c:bZ)(l:List Nat):iJ c l=rV (l.map λs=>(s,c.aF)):=by
 simp[iJ,rV,List.flatMap_map]
theorem Ta {s:Sl}{rs:List (Nat×Nat)}(h:cT s 2 (rV rs) U F){i:Nat}{r:Nat×Nat}(hr:rs[i]?=some r){K:Int->Int->Prop}(hK:K (r.1:Int) (r.2:Int)) :
 Ix s.a s.len (i:Int) 2 λa=>gE .i64 (a.add 0) U λu=>gE .i64 (a.add 1) U λw=>K u w:=by
 have g:=L6 hr;have x:=(cX.1 hr).1;obtain⟨b,o,j,p⟩:=h.cell g.1;obtain⟨y,o1,d,e⟩:=h.cell g.2;rw[j]at d;cases d;have m:=h.1;rw[IC]at m;rw[j];refine ix O O ?_;rw[add_lit];refine nR ?_ (nR ?_ hK)<;>rw[add_lit]
 ·rw[show o+(i:Int).toNat*2+0=o+2*i by omega];exact p
 ·rw[show o+(i:Int).toNat*2+1=o+(2*i+1) by omega];exact e
theorem dG.mono {G:Rg}(h:dG U F Y A T)(hs:∀b,b<U.size->F b->G b):dG U G Y A T:=dM.mono dG.loc h hs
theorem dG.cut (h:dG U F Y A T):dG U (Cut F U) Y A T:=dM.cut dG.loc h
theorem MP (A:AR)(rs:List (Nat×Nat))(r:Nat×Nat):Uf A (rs++[r])=VR (Uf A rs) r:=by simp[Uf]
theorem IK (h:dG U F Y A T){sl:Sl}{rs:List (Nat×Nat)}{X:Rg}(hs:cT sl 2 (rV rs) U X)(hX:∀b,b<U.size->X b->¬F b)(hl:rs.length<=1000000)(hb:∀r∈rs,r.1<=1000000){R:aP}
 (hR:∀σ',Ext F U σ'->dG σ' (Grow F U) Y (Uf A rs) T->R σ'):X6.c (aW Y.p) sl U R:=by
 refine X6.o ?_;unfold X6.v;have aa:sl.len=rs.length:=by have:=hs.1;rw[IC]at this;omega
 have E:cT sl 2 (rV rs) U (Cut X U):=aH.cut hs;refine Qc (a:=bN) (λ(t:Int) v=>∃i:Nat,t=(i:Int)/\i<=rs.length/\Ext F U v/\dG v (Grow F U) Y (Uf A (rs.take i)) T) (λt _=>rs.length-t.toNat) ⟨0,rfl,O,Ext.refl _ _,by simpa[Uf]using h.mono λb _ hb=>.inl hb⟩ ?_;rintro t v ⟨i,rfl,Z,e,M⟩;refine cP (λac=>?_) λhge=>?_
 ·have u:i<rs.length:=by omega
  have y:rs[i]?=some rs[i]:=cU u;have L:=hb _ (zp u);have K:=aH.bS E e λb C y j=>hX b C y.1 j;refine Ta K y ?_;have D:rs.take (i+1)=rs.take i++[rs[i]]:=by rw[kN,y];rfl
  generalize rs[i]=r at *;refine nw (cs:=[.int .i64 0,.int .i64 0]) λv4 ab e4 z=>z.s1 aA λv5 o5 b5=>b5.s1 aA λv6 o6 S=>?_;have s:aG v v6:=Ext.fresh (Ext.fresh e4 o5.ext λi Z=>O) o6.ext λi Z=>by omega
  have x:=M.cut.bO s;have V:¬Cut (Grow F U) v v.size:=λj=>by have:=j.2;omega
  have g:bY v6 v.size [.int .i64 (r.1:Int),.int .i64 (r.2:Int)]:=S;have z6:v.size<v6.size:=S.lt;refine bK (x.hd.rP rfl (g.rI rfl (g.rI rfl (x.Clear r.1 r.2 L λv7 t7 Q H=>?_))));have N:=Q.bT g V;have d:=H.mono (G:=λb=>Cut (Grow F U) v b\/v.size<b) λb _ hb=>by
   rcases hb with hb|hb
   ·exact .inl hb
   ·exact .inr O
  have J:¬(Cut (Grow F U) v v.size\/v.size<v.size):=λj=>by
   rcases j with h|h
   ·exact V h
   ·omega
  refine bK (d.hd.rP rfl (N.rI rfl (N.rI rfl (d.vN _ _ λv8 t8 P w=>?_))));have W:=P.bT N J;refine bK (w.hd.rP rfl (W.rI rfl (W.rI rfl (w.wg _ _ λv9 t9 e9 B=>?_))));have sub:∀b,(Cut (Grow F U) v b\/v.size<b)->Grow F U b:=λb hb=>by
   rcases hb with hb|hb
   ·exact hb.1
   ·exact .inr (by have:=e.1;omega)
  have ee:Ext F U v9:=((((e.trans (aG.to s)).jt (Q.sub λb hb=>hb.1))).jt (P.sub sub)).jt (e9.sub sub);refine cS (m:=i+1) O O ⟨⟨i+1,rfl,O,ee,?_⟩,O⟩;rw[D,MP];exact B.mono λb _ hb=>sub b hb
 ·have:i=rs.length:=by omega
  subst this;rw[l0]at M;exact hR v e M
end Go.Ar
namespace Go.Proofs
open Go.Vc
set_option maxRecDepth 100000
def XJ.h:Hn:=.q .o1 (.q (.q .o3 .aK) (.q .o1 (.q (.q .o5 (.k (.loop [(3,.I)] (.q (.cQ (.seq [.it .i64 .p,.op])) (.q (.c .l .l) (.k (.q (.cQ (.seq [.it .i64 .p,.op,.op,.op,.op])) (.oq 17)))))))) .aL)))
def XJ.v (a:R2)(b:Hp)(c:aN):Prop:=Xc.c a b λd e=>If (!d) (c 0 e) (bI a 2 e λg=>nY .i64 .p g e λh i=>XW [bN] (λj=>j 0 i) λk (l:Int) m=>nZ .i64 .p h m (c l m) (λn o p=>nX .i64 .p h p λq r=>bE a 0 p λt=>Ix t.a t.len q 3 λu=>aQ u 0 p λv=>bE r 0 p λx=>bL (v*((x.len:Nat):Int)) λy=>bL (l+y) λz=>k z p))
theorem XJ.o {a b c}(d:XJ.v a b c):XJ.c a b c:=Wa Tryz.func79 (x:=XJ.h) (R0 d)
def Xc.h:Hn:=.q .o1 (.q (.cQ (.seq [.op,.op,.op,.cW true 5 (RI.ops 5),.op])) .l)
def Xc.v (a:R2)(b:Hp)(c:aO):Prop:=bW (λd e=>c d e) λf=>If (!a.isNone) (bI a 2 b λh=>f (!h.isNone) b) (f false b)
theorem Xc.o {a b c}(d:Xc.v a b c):Xc.c a b c:=Wa Tryz.func110 (x:=Xc.h) (R0 d)
def Q0.h:Hn:=.q .o2 (.q (.k (.q .o4 (.c .aL (.q (.cQ (.seq [.op,.op,.op,.cW false 2 [.op,.op],.op])) .aJ)))) (.q .o8 .l))
def Q0.v (a:Sl)(b:Int)(c:Hp)(d:Option Addr->Int->Hp->Prop):Prop:=ZD.c a c λe f=>If (!e) (d none 2 f) (bW (λg h=>If g (d none 1 h) (Wi.c a h λi j=>Nw (.map #[] 0) j λk l=>aV #[.slice i.a i.len i.cap,.I b,.map (some k.block)] 168 l λm n=>d (some m) 0 n)) λo=>If (b<0) (o true f) (o (decide (b>65536)) f))
theorem Q0.o {a b c d}(e:Q0.v a b c d):Q0.c a b c d:=Wa Tryz.func144 (x:=Q0.h) (R0 e)
def X3.h:Hn:=.q .o2 (.q .o8 (.q (.q .o2 (.c (.q .o3 .l) .l)) (.q (.q .o6 (.c (.q (.q .o9 (.q .o6 (.c .o8 (.o 11)))) .aL) .l)) (.q .o7 (.q .o8 (.q .fP (.q .fP (.q .o3 .l))))))))
def X3.v (a:R2)(b:Int)(c:Hp)(d:Int->Int->Hp->Prop):Prop:=Xl.c a b c λe f g=>If (f != 0) (d 0 f g) (bE e 0 g λi=>If (((i.len:Nat):Int)==0) (bE a 0 g λk=>Ix k.a k.len b 3 λl=>aQ l 2 g λm=>bD e 1 g λo=>If (o<m) (bD e 1 g λq=>bL (q+1) λr=>bV e λs=>aR s 1 (.I r) g λt=>d 0 4 t) (bD e 1 g λv=>bL (v+m) λw=>bV e λx=>aR x 1 (.I (if 128<w then 128 else w)) g λy=>d 0 4 y)) (bE e 0 g λaa=>bL (((aa.len:Nat):Int)-1) λab=>bE e 0 g λad=>Ix ad.a ad.len ab 1 λae=>bM ae g λaf=>bE e 0 g λah=>eX ah 1 0 ab (ah.cap:Nat) λai=>bV e λaj=>aR aj 0 (.slice ai.a ai.len ai.cap) g λak=>bD e 2 ak λam=>bV e λan=>aR an 2 (.I (if ab<am then ab else am)) ak λao=>d af 0 ao))
theorem X3.o {a b c d}(e:X3.v a b c d):X3.c a b c d:=Wa Tryz.func147 (x:=X3.h) (R0 e)
def Yi.h:Hn:=.q .o2 (.q .o8 (.q (.q .o2 (.c (.q .o3 .l) .l)) (.q (.oq 15) .l)))
def Yi.v (a:R2)(b:Int)(c:Hp)(d:Int->Int->Hp->Prop):Prop:=Xl.c a b c λe f g=>If (f != 0) (d 0 f g) (bD e 1 g λi=>bE a 0 g λk=>Ix k.a k.len b 3 λl=>aQ l 2 g λm=>d (if m<i then m else i) 0 g)
theorem Yi.o {a b c d}(e:Yi.v a b c d):Yi.c a b c d:=Wa Tryz.func149 (x:=Yi.h) (R0 e)
def Ya.h:Hn:=.q .o1 (.q .o8 (.q (.q .o2 .aJ) (.q .o3 (.q .o2 (.q .o4 .l)))))
def Ya.v (a:R2)(b:Int)(c:Sl)(d:Hp)(e:aN):Prop:=Xl.c a b d λf g h=>If (g != 0) (e g h) (WE.c c h λi j=>WW.c i j λk=>WV.c f i k λl m=>e l m)
theorem Ya.o {a b c d e}(f:Ya.v a b c d e):Ya.c a b c d e:=Wa Tryz.func154 (x:=Ya.h) (R0 f)
def YE.h:Hn:=.q .o2 (.q .o8 (.q (.q .o2 (.c (.q .o3 .l) .l)) (.q (.q .o5 (.q .o2 (.c (.q .o3 .l) .l))) (.q (.q (.oq 10) .aJ) (.q .o9 (.kA [] (.q .o6 (.c .o8 .l)) (.q (.o 11) .l)))))))
def YE.v (a:R2)(b c:Int)(d:Hp)(e:Sl->Int->Hp->Prop):Prop:=Xl.c a b d λf g h=>If (g != 0) (e ⟨none,0,0⟩ g h) (aV #[.I c] 3 h λi j=>WV.c f ⟨some i,1,1⟩ j λk l=>If (k != 0) (e ⟨none,0,0⟩ k l) (bE f 0 l λn=>bD f 1 l λp=>If (((n.len:Nat):Int)<=p) (e ⟨none,0,0⟩ 0 l) (bE a 0 l λr=>Ix r.a r.len b 3 λs=>aQ s 2 l λt=>Jn [] (λu=>bE f 0 u λw=>W8.c f (if((w.len:Nat):Int)<t then((w.len:Nat):Int)else t) u λx y=>e x 0 y) λz=>bD f 1 l λab=>If (ab<t) (bD f 1 l λad=>bL (ad+1) λae=>bV f λaf=>aR af 1 (.I ae) l λag=>z ag) (z l))))
theorem YE.o {a b c d e}(f:YE.v a b c d e):YE.c a b c d e:=Wa Tryz.func157 (x:=YE.h) (R0 f)
def Yb.h:Hn:=.q .o1 (.q (.cQ (.gR false [] [(2,.one .b)] (.take 0 (.all [(1,.take 2 (.split 5 (.tk [3,5,6,7] (.all [(4,.all [(8,.tk [9,10,11] (.done))]),(8,.all [(4,.tk [9,10,11] (.done))])])) (.tk [3,4,5,6,7,8,9,10,11] (.done))))])))) .l)
def Yb.v (a:R2)(b:Hp)(c:aO):Prop:=Jn [.b] (λ(d:Bool) e=>c d e) λf=>Xc.c a b λg h=>If g (bV a λi=>(XJ.c a h λj k=>aQ i 1 k λl=>f (decide (j>l)) k) ∧ (aQ i 1 h λm=>XJ.c a h λn o=>f (decide (n>m)) o)) (f false h)
theorem Yb.o {a b c}(d:Yb.v a b c):Yb.c a b c:=Wa Tryz.func158 (x:=Yb.h) (R0 d)
def W0.h:Hn:=.q .o1 (.q .o3 .l)
def W0.v (a:R2)(b:Hp)(c:Sl->Hp->Prop):Prop:=Xi.c a ⟨216,#[],#[]⟩ b λd e=>c d e
theorem W0.o {a b c}(d:W0.v a b c):W0.c a b c:=Wa Tryz.func159 (x:=W0.h) (R0 d)
def XE.h:Hn:=.q .o1 (.q .o3 .l)
def XE.v (a:R2)(b:Hp)(c:Sl->Hp->Prop):Prop:=Xi.c a ⟨218,#[],#[]⟩ b λd e=>c d e
theorem XE.o {a b c}(d:XE.v a b c):XE.c a b c:=Wa Tryz.func164 (x:=XE.h) (R0 d)
def Xl.h:Hn:=.q .o2 (.q (.q .o3 .aJ) (.q .o4 (.q (.q .o2 .aJ) (.q .o3 .l))))
def Xl.v (a:R2)(b:Int)(c:Hp)(d:Option Addr->Int->Hp->Prop):Prop:=Xc.c a c λe f=>If (!e) (d none 5 f) (Zu.c a b f λg h=>If g.isNone (d none 1 h) (d g 0 h))
theorem Xl.o {a b c d}(e:Xl.v a b c d):Xl.c a b c d:=Wa Tryz.func204 (x:=Xl.h) (R0 e)
def WV.h:Hn:=.q .o1 (.q (.q .o9 .aK) (.q (.o 11) .aM))
def WV.v (a:R2)(b:Sl)(c:Hp)(d:aN):Prop:=bE a 0 c λf=>bL (((f.len:Nat):Int)+((b.len:Nat):Int)) λg=>If (g>256) (d 6 c) (bE a 0 c λi=>Xf.c i c λj k=>App j 1 8 3 [.I 0] b k λl m=>bV a λn=>aR n 0 (.slice l.a l.len l.cap) m λo=>d 0 o)
theorem WV.o {a b c d}(e:WV.v a b c d):WV.c a b c d:=Wa Tryz.func212 (x:=WV.h) (R0 e)
def W8.h:Hn:=.q .o1 (.q .o8 (.q (.o 11) (.q (.cQ (.tail 13 (RI.ops 13) [.op])) .aL)))
def W8.v (a:R2)(b:Int)(c:Hp)(d:Sl->Hp->Prop):Prop:=bE a 0 c λf=>eX f 1 0 b (f.cap:Nat) λg=>WE.c g c λh i=>bE a 0 i λk=>eX k 1 b (k.len:Nat) (k.cap:Nat) λl=>WE.c l i λm n=>bV a λo=>aR o 0 (.slice m.a m.len m.cap) n λp=>bD a 2 p λr=>bE a 0 p λt=>bV a λu=>aR u 2 (.I (if((t.len:Nat):Int)<r then((t.len:Nat):Int)else r)) p λv=>d h v
theorem W8.o {a b c d}(e:W8.v a b c d):W8.c a b c d:=Wa Tryz.func214 (x:=W8.h) (R0 e)
def Xi.h:Hn:=.q .o1 (.q (.q .o3 .aK) (.q .o1 (.q (.q .o5 (.k (.loop [(5,.one .s)] (.q (.cQ (.seq [.it .i64 .p,.op])) (.q (.c .l .l) (.k (.q (.cQ (.seq [.it .i64 .p,.op,.op,.op,.op])) (.q (.o 12) (.q .o3 (.c .o7 .l)))))))))) (.q .o2 .aL))))
def Xi.v (a:R2)(b:Fv)(c:Hp)(d:Sl->Hp->Prop):Prop:=Xc.c a c λe f=>If (!e) (d ⟨none,0,0⟩ f) (bI a 2 f λh=>nY .i64 .p h f λi j=>XW [.s] (λk=>k ⟨none,0,0⟩ j) λl (m:Sl) n=>nZ .i64 .p i n (Z1.c m ⟨264,#[],#[]⟩ n λo=>d m o) (λp q r=>nX .i64 .p i r λs t=>bE a 0 r λv=>Ix v.a v.len s 3 λw=>aQ w 2 r λx=>V5 Tryz.prog b [.pointer t,.I x] [.one .s] r λy z=>If (((y.len:Nat):Int)>0) (aV #[.I s,.slice y.a y.len y.cap] 135 z λaa ab=>App m 2 32 135 [.I 0,.slice none 0 0] ⟨some aa,1,1⟩ ab λac ad=>l ac ad) (l m z)))
theorem Xi.o {a b c d}(e:Xi.v a b c d):Xi.c a b c d:=Wa Tryz.func215 (x:=Xi.h) (R0 e)
def Xs.h:Hn:=.q .o1 (.q .o9 (.kA [] (.q .o6 (.c (.o 12) .l)) (.q .o9 .aL)))
def Xs.v (a:R2)(b:Int)(c:Hp)(d:Sl->Hp->Prop):Prop:=bD a 2 c λf=>bL (f+1) λg=>Nz 2<|bL (g.tdiv 2) λh=>W8.c a h c λi j=>Jn [] (λk=>bE a 0 k λm=>bV a λn=>aR n 2 (.I ((m.len:Nat):Int)) k λo=>d i o) λp=>bD a 1 j λr=>If (r>b) (bD a 1 j λt=>bL (t-b) λu=>bV a λv=>aR v 1 (.I (if b>u then b else u)) j λw=>p w) (p j)
theorem Xs.o {a b c d}(e:Xs.v a b c d):Xs.c a b c d:=Wa Tryz.func216 (x:=Xs.h) (R0 e)
def Yx.h:Hn:=.q .o1 (.q .o8 .l)
def Yx.v (a:R2)(b:Int)(c:Hp)(d:Sl->Hp->Prop):Prop:=bE a 0 c λf=>W8.c a ((f.len:Nat):Int) c λg h=>d g h
theorem Yx.o {a b c d}(e:Yx.v a b c d):Yx.c a b c d:=Wa Tryz.func218 (x:=Yx.h) (R0 e)
def Zu.h:Hn:=.q .o1 (.q (.q (.cQ (.seq [.op,.op,.op,.op,.cW false 2 [.op,.op],.op,.cW false 7 (RI.ops 7)])) .aK) (.kA [] (.q .o7 (.c .o8 .l)) (.q .o7 .l)))
def Zu.v (a:R2)(b:Int)(c:Hp)(d:Option Addr->Hp->Prop):Prop:=Xc.c a c λe f=>bW (λg h=>bW (λi j=>If i (d none j) (Jn [] (λk=>bI a 2 k λm=>Lk .i64 .p m b k λn=>d (n.getD none) k) λo=>bV a λp=>bB p 2 j λq=>Lk .i64 .p q b j λr=>If ((r.getD none).isNone) (bI a 2 j λt=>aV #[.slice none 0 0,.I 1,.I 0] 171 j λu v=>kG .i64 .p t b (some u) v λw=>o w) (o j))) λx=>If g (x true h) (bE a 0 h λz=>x (decide (b≥((z.len:Nat):Int))) h)) λaa=>If (!e) (aa true f) (aa (decide (b<0)) f)
theorem Zu.o {a b c d}(e:Zu.v a b c d):Zu.c a b c d:=Wa Tryz.func248 (x:=Zu.h) (R0 e)
end Go.Proofs
namespace Go.Ar
open Go Go.Vc Go.Proofs
theorem cT.sub {U:Hp}{F:Rg}{s:Sl}{sz:Nat}{xs:List Value}(h:cT s sz xs U F){lo hi mx:Nat}(h1:lo<=hi)(h2:hi<=s.len)(h3:hi<=mx) :
 cT ⟨if mx=lo then s.a else s.a.map (·.add (lo*sz)),hi-lo,mx-lo⟩ sz ((xs.drop (lo*sz)).take ((hi-lo)*sz)) U F:=by
 have e:=h.1;have e1:hi*sz<=s.len*sz:=kS _ h2;have e2:(hi-lo)*sz=hi*sz-lo*sz:=Nat.sub_mul _ _ _;have g:lo*sz<=hi*sz:=kS _ h1;refine⟨by rw[za,ka];simp only;omega,?_⟩;by_cases hm:mx=lo
 ·left;have:hi-lo=0:=by omega
  rw[this,uW,xJ]
 ·rcases h.2 with h0|⟨b,o,cs,hb,ha,hq,hc⟩
  ·left;subst h0;simp
  ·refine .inr ⟨b,o+lo*sz,cs,hb,?_,hq,λj d=>?_⟩
   ·simp only[zB hm,ha,zZ,add_lit]
   ·rw[za,ka]at d;rw[vv,hc _ O,zk,kY,zC O]
inductive sy where
 | hd|dE|mp
 | li (k:Nat)
 deriving DecidableEq
structure gN where
 p:Nat
 m:Nat
 dE:Sl
 ps:List (Nat×Nat)
def iZ (ps:List (Nat×Nat))(k:Nat):Option Nat:=(ps.find? λx=>x.1==k).map (·.2)
def jS (ps:List (Nat×Nat)):List (Int×Option Addr):=ps.map λx=>((x.1:Int),some ⟨x.2,0,none⟩)
def mO (s:Sl)(l:Li):List Value:=[.slice s.a s.len s.cap,.int .i64 (l.lim:Int),.int .i64 (l.low:Int)]
def jb (b:Nat)(l:Li):Hp->Rg->Prop:=λU F=>F b/\fN l/\∃s:Sl,bY U b (mO s l)/\cT s 1 (Wj l.os) U (λq=>F q/\q≠b)/\s.len<=s.cap
def pI (b:Option Nat)(l:Option Li):Hp->Rg->Prop:=λU F=>match b,l with
 | some b,some l=>jb b l U F
 | none,some l=>l=il
 | _,none=>True
def B2 (Y:gN)(bud:Nat):List Value:=[.slice Y.dE.a Y.dE.len Y.dE.cap,.int .i64 (bud:Int),.map (some Y.m)]
def CC (tb:List bZ)(bud:Nat)(ls:List Li)(Y:gN):sy->Hp->Rg->Prop
 | .hd=>iz Y.p (B2 Y bud)
 | .dE=>cT Y.dE 3 (gA tb)
 | .mp=>jE Y.m .i64 .p (jS Y.ps)
 | .li k=>pI (iZ Y.ps k) ls[k]?
theorem jb.loc (b:Nat)(l:Li):dM (jb b l):=by
 rintro U y F G ⟨x,u,s,j,p,r⟩ m a;have g:=a b j.lt x;obtain⟨e,w⟩:=j;exact⟨g.1,u,s,⟨e,g.2.trans w⟩,cT.loc _ _ _ _ _ _ _ p m λq i d=>⟨⟨(a q i d.1).1,d.2⟩,(a q i d.1).2⟩,r⟩
theorem pI.loc (b:Option Nat)(l:Option Li):dM (pI b l):=by
 intro U σ' F G h hz hs;unfold pI at *;split at h
 ·exact jb.loc _ _ _ _ _ _ h hz hs
 ·exact h
 ·trivial
theorem CC.loc {tb:List bZ}{bud:Nat}{ls:List Li}{Y:gN}:∀i,dM (CC tb bud ls Y i)
 | .hd=>iz.loc _ _
 | .dE=>cT.loc _ _ _
 | .mp=>jE.loc _ _ _ _
 | .li k=>pI.loc _ _
structure eH (U:Hp) (F:Rg) (Y:gN) (tb:List bZ) (bud:Nat) (ls:List Li):Prop where
 nr:tb.length<=40
 ok:∀c∈tb,c.ok
 len:ls.length=tb.length
 keys:∀x∈Y.ps,x.1<tb.length
 sep:Sep (CC tb bud ls Y) U F
variable {U:Hp}{F G:Rg}{Y:gN}{tb:List bZ}{bud:Nat}{ls:List Li}{b k:Nat}{l:Li}
theorem eH.loc:dM λU F=>eH U F Y tb bud ls:=λU d F G h b a=>⟨h.nr,h.ok,h.len,h.keys,Sep.loc CC.loc _ _ _ _ h.sep b a⟩
theorem eH.bO {σ':Hp}(h:eH U F Y tb bud ls)(e:aG U σ'):eH σ' F Y tb bud ls:=dM.bO eH.loc h e
theorem eH.hd (h:eH U F Y tb bud ls):bY U Y.p (B2 Y bud):=by
 obtain⟨G,b,a⟩:=h.sep.get .hd;exact a.2
theorem eH.jG (h:eH U F Y tb bud ls):cT Y.dE 3 (gA tb) U F:=by
 obtain⟨G,d,a⟩:=h.sep.get .dE;exact aH.mono a λb _ a=>d b a
theorem eH.oK (h:eH U F Y tb bud ls):Y.dE.len=tb.length:=by
 have:=h.jG.1;rw[Ua]at this;omega
theorem eH.map (h:eH U F Y tb bud ls):dH U Y.m .i64 .p (jS Y.ps):=by
 obtain⟨G,b,a⟩:=h.sep.get .mp;exact a.2
theorem AD (ps:List (Nat×Nat))(k:Nat):bU (α:=Option Addr) (jS ps) (k:Int)=(iZ ps k).map λb=>some ⟨b,0,none⟩:=by
 induction ps with
 | nil=>rfl
 | cons x l ih=>
  simp only[bU,jS,iZ,zR,uT]at *;have e:(((x.1:Nat):Int)==(k:Int))=(x.1==k):=lR _ _;rw[e];cases x.1==k
  ·exact ih
  ·rfl
theorem Iw {ps:List (Nat×Nat)}(h:iZ ps k=none):∀x∈ps,x.1≠k:=by
 unfold iZ at h;simp only[rY,nQ,zT]at h;exact h
theorem Oe {ps:List (Nat×Nat)}(h:iZ ps k=none)(b:Nat):dA (α:=Option Addr) (jS ps) (k:Int) (some ⟨b,0,none⟩)=jS (ps++[(k,b)]):=by
 unfold dA;rw[zB]
 ·simp[jS]
 ·simp only[jS,List.any_map,kf,Function.comp,zT,not_exists,not_and];intro x hx e;exact Iw h x hx O
theorem UH {ps:List (Nat×Nat)}(h:iZ ps k=none)(b j:Nat):iZ (ps++[(k,b)]) j=if j=k then some b else iZ ps j:=by
 have a:=Iw h;unfold iZ at *;rw[List.find?_append];by_cases hj:j=k
 ·subst hj;have:ps.find? (λx=>x.1==j)=none:=by simpa using h
  rw[this];simp
 ·rw[zB hj];cases hf:ps.find? (λx=>x.1==j)with
  | none=>
   have:(k==j)=false:=by simpa using λe=>hj e.symm
   simp[this]
  | some x=>simp
theorem EU {ps:List (Nat×Nat)}(hn:((jS ps).map (·.1)).Nodup)(h:(k,b)∈ps):iZ ps k=some b:=by
 induction ps with
 | nil=>simp at h
 | cons x l ih=>
  simp only[jS,zR,zo]at hn;unfold iZ;rw[uT];rcases zV.1 h with rfl|h
  ·simp
  ·have:(x.1==k)=false:=by
    have:x.1≠k:=λe=>hn.1 (zE.2 ⟨(((k:Nat):Int),some ⟨b,0,none⟩),zE.2 ⟨(k,b),h,rfl⟩,by rw[e]⟩);simpa using this
   rw[this];exact ih hn.2 h
theorem U8 (h:eH U F Y tb bud ls){R:aO}(hR:R true U):Xc.c (aW Y.p) U R:=by
 refine Xc.o ?_;unfold Xc.v;exact bW.intro (cC rfl (bK (h.hd.rM rfl hR)))
theorem eH.wC (h:eH U F Y tb bud ls)(hb:iZ Y.ps k=some b)(hl:ls[k]?=some l):∃G:Rg,(∀q,G q->F q)/\jb b l U G/\¬G Y.m ∧
 ∀(σ':Hp) (l':Li) (G':Rg),Ext G U σ'->(∀q,G' q->Grow G U q)->jb b l' σ' G'->Ext F U σ'/\eH σ' (λq=>F q/\q<U.size/\¬G q\/G' q) Y tb bud (ls.set k l'):=by
 have r:=(cX.1 hl).1;obtain⟨G,s,g,d,a⟩:=h.sep.jX CC.loc (.li k);have g:jb b l U G:=by
  simp only[CC,pI,hb,hl]at g;exact g
 have p:¬G Y.m:=by
  obtain⟨H,_,hd,i⟩:=d .mp (by intro e;cases e);exact hd _ i.1
 refine⟨G,s,g,p,λσ' l' G' e x u=>⟨e.sub s,h.nr,h.ok,by rw[ns];exact h.len,h.keys,?_⟩⟩;refine a σ' (CC tb bud (ls.set k l') Y) G' (λj w=>?_) e x ?_ (CC.loc _)
 ·cases j<;>try rfl
  rename_i m;have p:m≠k:=λe=>w (by rw[e]);simp only[CC,zj (Ne.symm p)]
 ·simp only[CC,pI,hb,zM r];exact u
theorem eH.mono (h:eH U F Y tb bud ls)(hs:∀q,q<U.size->F q->G q):eH U G Y tb bud ls:=dM.mono eH.loc h hs
theorem eH.cut (h:eH U F Y tb bud ls):eH U (Cut F U) Y tb bud ls:=dM.cut eH.loc h
theorem eH.fo {v:Hp}(h:eH v (Grow F U) Y tb bud ls)(e0:Ext F U v)(hb:iZ Y.ps k=some b)(hl:ls[k]?=some l):∃G:Rg,jb b l v G ∧
 ∀(σ':Hp) (l':Li) (G':Rg),Ext G v σ'->(∀q,G' q->Grow G v q)->jb b l' σ' G'->Ext F U σ'/\eH σ' (Grow F U) Y tb bud (ls.set k l'):=by
 obtain⟨G,j,m,_,a⟩:=h.wC hb hl;refine⟨G,m,λσ' l' G' e i g=>?_⟩;obtain⟨e1,p⟩:=a σ' l' G' e i g;refine⟨e0.jt e1,p.mono λq _ d=>?_⟩;have:=e0.1;rcases d with d|d
 ·exact d.1
 ·rcases i q d with h2|h2
  ·exact j q h2
  ·exact .inr O
theorem PF (h:eH U F Y tb bud ls)(hk:k<tb.length){R:Option Addr->Hp->Prop}(hR:∀σ' Y' b,Ext F U σ'->Y'.p=Y.p->iZ Y'.ps k=some b->eH σ' (Grow F U) Y' tb bud ls->R (some ⟨b,0,none⟩) σ') :
 Zu.c (aW Y.p) (k:Int) U R:=by
 refine Zu.o ?_;unfold Zu.v;have z:k<ls.length:=by rw[h.len];exact hk
 have C:ls[k]?=some ls[k]:=cU z;generalize ls[k]=l at C;have P:=h.oK;refine U8 h (bW.intro (cB rfl ?_));refine bW.intro (fT O (bK (h.hd.rS rfl ?_)));refine fT aC ?_;refine Jn.intro (bK (h.hd.rM rfl ⟨_,h.map,?_⟩));rw[AD];cases hf:iZ Y.ps k with
 | some b=>
  refine cB rfl (bK (h.hd.rM rfl ⟨_,h.map,?_⟩));rw[AD,hf];exact hR U Y b (Ext.refl _ _) rfl hf (h.mono λq _ a=>.inl a)
 | none=>
  refine cC rfl (bK (h.hd.rM rfl (nw (cs:=[.slice none 0 0,.int .i64 1,.int .i64 0]) λv Q e E=>?_)));obtain⟨G,H,s,S,hd,g,w,u⟩:=h.cut.sep.ot CC.loc .mp (.li k) (by intro e;cases e);have K:∀q,G q->F q:=λq a=>(s q a).1;have g:jE Y.m .i64 .p (jS Y.ps) U G:=g;have w:l=il:=by
   simp only[CC,pI,hf,C]at w;exact w
  have M:=g.2.lt;have y:dH v Y.m .i64 .p (jS Y.ps):=e.fS g.2 id;refine⟨Y.m,_,rfl,y,λv2 D r=>?_⟩;rw[Oe hf]at r;have e2:Ext F U v2:=(aG.to e).only D (.inl (K _ g.1));have J:Ext (λq=>G q\/H q) U v2:=(aG.to e).only D (.inl (.inl g.1));have B:bY v2 U.size [.slice none 0 0,.int .i64 1,.int .i64 0]:=Ws D E O;have d:eH v2 (Grow F U) {Y with ps:=Y.ps++[(k,U.size)]} tb bud ls:=by
   refine⟨h.nr,h.ok,h.len,λx i=>?_,?_⟩
   ·rcases zK.1 i with i|i
    ·exact h.keys x i
    ·simp only[zL]at i;subst i;exact hk
   refine(Sep.loc CC.loc).mono (u v2 (CC tb bud ls {Y with ps:=Y.ps++[(k,U.size)]}) G (· = U.size) (λj A L=>?_) J (λq a=>.inl (.inl a)) (λq a=>.inr O) (λq A L=>?_) ⟨g.1,r⟩ ?_ CC.loc) λq _ a=>?_
   ·cases j<;>first|rfl|exact absurd rfl A|skip
    rename_i m;have N:m≠k:=λe=>L (by rw[e]);simp only[CC,UH hf,zB N]
   ·have:=(s q A).2;omega
   ·simp only[CC,UH hf,zS,C,w,pI];exact⟨rfl,fN.nil,⟨none,0,0⟩,B,cT.nil _ _ _ _,zD _⟩
   ·rcases a with a|a|a
    ·exact .inl a.1.1
    ·exact .inl (K q a)
    ·exact .inr O
  refine bK (d.hd.rM rfl ⟨_,d.map,?_⟩);rw[AD,UH hf,zC rfl];exact hR v2 {Y with ps:=Y.ps++[(k,U.size)]} U.size e2 rfl (by show iZ (Y.ps++[(k,U.size)]) k=_;rw[UH hf,zC rfl]) d
theorem GI (h:eH U F Y tb bud ls)(hk:k<tb.length){R:Option Addr->Int->Hp->Prop}(hR:∀σ' Y' b,Ext F U σ'->Y'.p=Y.p->iZ Y'.ps k=some b->eH σ' (Grow F U) Y' tb bud ls->R (some ⟨b,0,none⟩) 0 σ') :
 Xl.c (aW Y.p) (k:Int) U R:=by
 refine Xl.o ?_;unfold Xl.v;exact U8 h (cB rfl (PF h hk λσ' Y' b e a d g=>cB rfl (hR σ' Y' b e a d g)))
theorem bR.q8 {s:Sl}{sz:Nat}{xs:List Value}(h:bR s sz xs U F):s.len<=s.cap:=by
 rcases h.2 with⟨q1,q2⟩|⟨_,_,_,_,_,q,_⟩
 ·omega
 ·exact q
theorem H6 (h:jb b l U G){m:Nat}(hm:m<=l.os.length){R:Sl->Hp->Prop}
 (hR:∀s z σ',Ext (· = b) U σ'->U.size<=z->bR s 1 (Wj (l.os.take m)) σ' (λq=>U.size<=q/\q<z)->jb b (gC m l).2 σ' (λq=>q=b\/z<=q)->R s σ') :
 W8.c (aW b) (m:Int) U R:=by
 refine W8.o ?_;unfold W8.v;obtain⟨W,d,s,B,J,X⟩:=h;have N:s.len=l.os.length:=by have:=J.1;simp[Wj]at this;omega
 have D:=d.many;have L:=d.low;have p:=cT.sub J (lo:=0) (hi:=m) (mx:=s.cap) O O O;have e1:((Wj l.os).drop (0*1)).take ((m-0)*1)=Wj (l.os.take m):=by simp[Wj]
 rw[e1]at p;refine bK (B.rS rfl (iQ (lo:=0) O aC aC (Hv p VK aC λs1 K P x H=>?_)));have w:=x.bT B id;have E:=aH.bO J x;have r:=cT.sub E (lo:=m) (hi:=s.len) (mx:=s.cap) O O O;have e2:((Wj l.os).drop (m*1)).take ((s.len-m)*1)=Wj (l.os.drop m):=by
  rw[mW (by simp[Wj];omega)];simp[Wj]
 rw[e2]at r;refine bK (w.rS rfl (iQ aC aC aC (Hv r VK aC λs2 Q A y j=>?_)));have F:=y.bT w id;refine bK (F.s1 (by simp[mO]) λv3 o3 e=>bK (e.rI rfl (bK (e.rS rfl (bK (e.s1 (by simp[mO]) λv4 o4 i=>?_))))));have a:Ext (· = b) Q v4:=o3.ext.trans o4.ext;have S:=B.lt;have C:=x.1;have g:s2.len=l.os.length-m:=by rw[A];simp only;omega
 refine hR s1 K.size v4 ((aG.to (x.trans y)).trans a) C ?_ ⟨.inl rfl,ya d,s2,?_,?_,bR.q8 j⟩
 ·refine aI.bS (aI.bO (aI.mono H (G:=λq=>U.size<=q/\q<K.size) λq u M=>⟨M,u⟩) y) a λq _ u V=>by omega
 ·have:(if((s2.len:Nat):Int)<(l.low:Int)then((s2.len:Nat):Int)else(l.low:Int))=((min l.low (l.os.length-m):Nat):Int):=by rw[g];split<;>omega
  rw[this]at i;exact i
 ·refine aH.mono (aH.bS j.fX a λq _ u V=>O) λq _ u=>⟨.inr u,O⟩
theorem Pq (h:jb b l U G){sl:Sl}{xs:List Int}{X:Rg}(hs:cT sl 1 (Wj xs) U X)(hx:xs≠[])(hfit:l.os.length+xs.length<=256){R:aN}
 (hR:∀σ',Ext (· = b) U σ'->jb b (eC xs l) σ' (λq=>q=b\/U.size<=q)->R 0 σ'):WV.c (aW b) sl U R:=by
 refine WV.o ?_;unfold WV.v;obtain⟨H,i,s,g,d,K⟩:=h;have C:s.len=l.os.length:=by have:=d.1;simp[Wj]at this;omega
 have B:sl.len=xs.length:=by have:=hs.1;simp[Wj]at this;omega
 have x:=qe.2 hx;have y:eC xs l = {l with os:=l.os++xs}:=by unfold eC;rw[zB O]
 refine bK (g.rS rfl (cS (m:=l.os.length+xs.length) aC O (fT O (bK (g.rS rfl ?_)))));refine Xf.o ?_;unfold Xf.v;refine iQ (lo:=0) aC aC aC ?_;have D:=g.lt;refine⟨Wj l.os,Wj xs,by simp[Wj];omega,by simp[Wj];omega,?_,hs.rd,VK,?_,by simp only;omega,λu=>by simp only at u;omega,λz c r=>?_⟩
 ·by_cases h0:s.len=0
  ·have:l.os=[]:=xm.1 O;rw[this];simp only[h0,zS];cases s.a<;>simp[Rd,Wj]
  ·simp only[zB h0,uW];have:=d.rd;cases ha:s.a with
   | none=>rw[ha]at this;simpa[Rd]using this
   | some a=>rw[ha]at this;simpa[Rd,Addr.add_zero']using this
 ·simp only;have:(s.len-0+sl.len)*8<=256*8:=l5 O O;omega
 ·refine nw λv J e w=>bK ((e.bT g id).s1 (by simp[mO]) λE o2 p=>?_);have F:l.os.length+xs.length<=c:=by simp only at r;omega
  refine hR E ((aG.to e).trans o2.ext) ?_;rw[y];have:=yv (xs:=xs) i;rw[y]at this;refine⟨.inl rfl,this,⟨some ⟨U.size,0,none⟩,s.len-0+sl.len,c⟩,p,⟨by simp[Wj];omega,.inr ⟨U.size,0,_,⟨.inr (zD _),O⟩,rfl,(Ws o2 w O).q,λj A=>?_⟩⟩,by simp only;omega⟩;simp only[Wj,zl,zO]at A;rw[zH,jL,←jL,zh (by simp[Wj];omega)];simp[Wj]
theorem Ty (h:jb b l U G){sl:Sl}{xs:List Int}{X:Rg}(hs:cT sl 1 (Wj xs) U X)(hfit:¬l.os.length+xs.length<=256)(hxs:xs.length<=1000000){R:aN}
 (hR:R 6 U):WV.c (aW b) sl U R:=by
 refine WV.o ?_;unfold WV.v;obtain⟨j,a,s,i,d,p⟩:=h;have g:s.len=l.os.length:=by have:=d.1;simp[Wj]at this;omega
 have e:sl.len=xs.length:=by have:=hs.1;simp[Wj]at this;omega
 have:=a.many;exact bK (i.rS rfl (cS (m:=l.os.length+xs.length) aC O (lF O hR)))
end Go.Ar
namespace Go.Ar
open Go Go.Vc Go.Proofs
variable {U:Hp}{F G:Rg}{Y:gN}{tb:List bZ}{bud:Nat}{ls:List Li}{b k:Nat}{l:Li}{c:bZ}
theorem eH.cls (h:eH U F Y tb bud ls)(hc:tb[k]?=some c):c.ok/\k<tb.length:=⟨h.ok c (zG hc),(cX.1 hc).1⟩
theorem jb.st {v:Hp}(h:jb b l U G){s:Sl}{l':Li}(ho:Ext (· = b) U v)(hb:bY v b (mO s l'))(hs:cT s 1 (Wj l'.os) U (λq=>G q/\q≠b))(hc:s.len<=s.cap)(ok:fN l'):jb b l' v G:=
 ⟨h.1,ok,s,hb,aH.bS hs ho λq _ a d=>a.2 d,hc⟩
theorem kU (h:eH U F Y tb bud ls)(hc:tb[k]?=some c)(hl:ls[k]?=some l){R:Int->Int->Hp->Prop}
 (hR:∀σ' Y',Ext F U σ'->Y'.p=Y.p->eH σ' (Grow F U) Y' tb bud (ls.set k (Kh c l).2)->R ((Kh c l).1.getD 0) (if(Kh c l).1.isSome then 0 else 4) σ'):X3.c (aW Y.p) (k:Int) U R:=by
 obtain⟨w,hk⟩:=h.cls hc;refine X3.o ?_;unfold X3.v;refine GI h hk λv Y' b e hp hb S=>cB rfl ?_;obtain⟨G,hL,H⟩:=S.fo e hb hl;have y:=hL;obtain⟨W,i,s,g,M,u⟩:=hL;have K:=S.hd;rw[hp]at K;have V:s.len=l.os.length:=by have:=M.1;simp[Wj]at this;omega
 have o1:=i.low;have o2:=i.many;have o3:=i.lim;have o4:=i.nN;have a:=FL w i;have fin:∀v' G',Ext G v v'->(∀q,G' q->Grow G v q)->jb b (Kh c l).2 v' G'->R ((Kh c l).1.getD 0) (if(Kh c l).1.isSome then 0 else 4) v':=λv' G' X hg P=>by
  obtain⟨e2,h2⟩:=H v' _ G' X hg P;exact hR v' Y' e2 hp h2
 unfold bZ.ok at w;have A:∀{v':Hp},Ext (· = b) v v'->Ext G v v':=λX=>X.sub λq z=>by rw[z];exact W
 refine bK (g.rS rfl ?_);by_cases h0:l.os=[]
 ·have e1:(Kh c l).1=none:=by unfold Kh;rw[h0];rfl
  have e2:(Kh c l).2=if l.lim<c.batch then{l with lim:=l.lim+1}else{l with lim:=min (l.lim+c.batch) 128}:=by unfold Kh;rw[h0];rfl
  rw[e1,e2]at fin;rw[e2]at a;refine cC (by simp[V,h0]) (bK (K.rS rfl (sW S.jG hc (d:=2) O ?_)));simp only[zB (show ¬(2=0) by omega),zB (show ¬(2=1) by omega)];refine bK (g.rI rfl (cP (λc1=>?_) λc1=>?_))
  ·have B:l.lim<c.batch:=by omega
   rw[zC B]at fin a;refine bK (g.rI rfl (cS (m:=l.lim+1) O O (bK (g.s1 (by simp[mO]) λv' D j=>?_))));exact fin v' G (A D.ext) (λq z=>.inl z) (y.st D.ext j M u a)
  ·have B:¬l.lim<c.batch:=by omega
   rw[zB B]at fin a;refine bK (g.rI rfl (cS (m:=l.lim+c.batch) O O (bK (g.s1 (by simp[mO]) λv' D j=>?_))));refine fin v' G (A D.ext) (λq z=>.inl z) (y.st D.ext ?_ M u a);have:(if(128:Int)<((l.lim+c.batch:Nat):Int)then(128:Int)else((l.lim+c.batch:Nat):Int))=((min (l.lim+c.batch) 128:Nat):Int):=by split<;>omega
   rw[this]at j;exact j
 ·have Z:=qe.2 h0;obtain⟨x,hx⟩:∃x,l.os[l.os.length-1]?=some x:=⟨_,cU O⟩;have E:l.os.getLast?=some x:=by rw[List.getLast?_eq_getElem?];exact hx
  have e1:(Kh c l).1=some x:=by unfold Kh;rw[E]
  have e2:(Kh c l).2 = {l with os:=l.os.dropLast,low:=min l.low (l.os.length-1)}:=by unfold Kh;rw[E]
  rw[e1,e2]at fin;rw[e2]at a;refine cB (by simp only[l6];omega) ?_;refine bK (g.rS rfl (cS (m:=l.os.length-1) aC O (bK (g.rS rfl (M.mI hx (bK (g.rS rfl ?_)))))));have r:=cT.sub M (lo:=0) (hi:=l.os.length-1) (mx:=s.cap) O O O;have ed:((Wj l.os).drop (0*1)).take ((l.os.length-1-0)*1)=Wj l.os.dropLast:=by simp[Wj,yO]
  rw[ed]at r;refine iQ (lo:=0) O aC aC (bK (g.s1 (by simp[mO]) λv1 Q J=>bK (J.rI rfl (bK (J.s1 (by simp[mO]) λv2 N L=>?_)))));have C:=Q.ext.trans N.ext;refine fin v2 G (A C) (λq z=>.inl z) (y.st C ?_ r aC a);have:(if((l.os.length-1:Nat):Int)<(l.low:Int)then((l.os.length-1:Nat):Int)else(l.low:Int))=((min l.low (l.os.length-1):Nat):Int):=by split<;>omega
  rw[this]at L;exact L
theorem Pr (h:eH U F Y tb bud ls)(hc:tb[k]?=some c)(hl:ls[k]?=some l){R:Int->Int->Hp->Prop}
 (hR:∀σ' Y',Ext F U σ'->Y'.p=Y.p->eH σ' (Grow F U) Y' tb bud ls->R ((oM c l:Nat):Int) 0 σ'):Yi.c (aW Y.p) (k:Int) U R:=by
 obtain⟨u,y⟩:=h.cls hc;refine Yi.o ?_;unfold Yi.v;refine GI h y λv Y' b e j A g=>cB rfl ?_;obtain⟨G,w,m⟩:=g.fo e A hl;obtain⟨x,z,s,i,B,r⟩:=w;have a:=g.hd;rw[j]at a;refine bK (i.rI rfl (bK (a.rS rfl (sW g.jG hc (d:=2) O ?_))));simp only[zB (show ¬(2=0) by omega),zB (show ¬(2=1) by omega)];have:(if(c.batch:Int)<(l.lim:Int)then(c.batch:Int)else(l.lim:Int))=((oM c l:Nat):Int):=by unfold oM;split<;>omega
 rw[this];exact hR v Y' e j g
theorem Lp (l:List Int)(i:Nat)(h:i<l.length):l.reverse[i]?=l[l.length-1-i]? := by
 rw[List.getElem?_reverse h]
theorem O5 {s:Sl}{xs:List Int}(h:bR s 1 (Wj xs) U F)(hlen:xs.length<=1000000){R:aP}(hR:∀σ',Ext F U σ'->bR s 1 (Wj xs.reverse) σ' F->R σ'):WW.c s U R:=by
 refine WW.o ?_;unfold WW.v;have P:s.len=xs.length:=by have:=h.1;simp[Wj]at this;omega
 let je (i:Nat):List Int:=(List.range xs.length).map λj=>if j<i\/xs.length-i<=j then xs.getD (xs.length-1-j) 0 else xs.getD j 0
 have lr:∀i,(je i).length=xs.length:=λi=>by simp[je]
 have bU:∀i j,j<xs.length->(je i)[j]?=some (if j<i\/xs.length-i<=j then xs.getD (xs.length-1-j) 0 else xs.getD j 0):=λi j d=>by simp[je,d]
 have Q:je 0=xs:=by
  apply zr;intro j;by_cases d:j<xs.length
  ·rw[bU 0 j d,zB O];simp[zP,cU d]
  ·rw[zW (by rw[lr];omega),zW O]
 have r:∀i,xs.length<=2*i+1->i<=xs.length->je i=xs.reverse:=by
  intro i H G;apply zr;intro j;by_cases d:j<xs.length
  ·rw[bU i j d,Lp xs j d,zP,zP,cU (show xs.length-1-j<xs.length by omega),cU d];split
   ·rfl
   ·have:xs.length-1-j=j:=by omega
    simp only[this];rfl
  ·rw[zW (by rw[lr];omega),zW aE]
 have step:∀i,2*i+1<xs.length->((je i).set i (xs.getD (xs.length-1-i) 0)).set (xs.length-1-i) (xs.getD i 0)=je (i+1):=by
  intro i hi;apply zr;intro j;by_cases d:j<xs.length
  ·rw[bU (i+1) j d,m7,m7];simp only[ns,lr];by_cases e1:xs.length-1-i=j
   ·subst e1;rw[zC rfl,zC O,zC O]
    congr 2;omega
   ·rw[zB e1];by_cases e2:i=j
    ·subst e2;rw[zC rfl,zC O,zC O]
    ·rw[zB e2,bU i j d];by_cases e3:j<i\/xs.length-i<=j
     ·rw[zC e3,zC O]
     ·rw[zB e3,zB O]
  ·rw[zW (by simp[lr];omega),zW (by rw[lr];omega)]
 refine xT ?_;rw[UC O O];refine VO (a:=bN) (bb:=bN) (λ(i j:Int) v=>∃n:Nat,i=(n:Int)/\j=(xs.length:Int)-1-n/\n<=xs.length/\Ext F U v/\bR s 1 (Wj (je n)) v F) (λi _ _=>xs.length-i.toNat) ⟨0,rfl,O,O,Ext.refl _ _,by rw[Q];exact h⟩ ?_;rintro i j v ⟨n,rfl,rfl,S,ev,w⟩;refine cP (λL=>?_) λN=>?_
 ·have z:2*n+1<xs.length:=by omega
  have B:(xs.length:Int)-1-n=((xs.length-1-n:Nat):Int):=by omega
  rw[B];have C:=bU n (xs.length-1-n) O;have D:=bU n n O;rw[zB O]at C D;rw[zP]at C D;obtain⟨b,p⟩:∃b,s.a=some ⟨b,0,none⟩:=by
   rcases w.2 with⟨q1,q2⟩|⟨b,cs,_,A,_⟩
   ·omega
   ·exact⟨b,A⟩
  have e:∀u,bR s 1 (Wj (je n)) u F->∀(j:Nat) (x:Int),(je n)[j]?=some x->cell u (Addr.add ⟨b,0,none⟩ ((j:Int).toNat*1))=some (.int .i64 x):=λu y j x M=>by
   obtain⟨J,o,A,K⟩:=y.fX.cell (j:=j) (v:=.int .i64 x) (by simp[Wj,M]);rw[p]at A;cases A;rw[add_lit,show 0+(j:Int).toNat*1=0+j by omega];exact K
  rw[p];refine⟨λu=>bR s 1 (Wj (je n)) u F,w,?_⟩;refine ix O O ⟨_,λu y=>e u y _ _ C,?_⟩;refine ix O O ⟨_,λu y=>e u y _ _ D,?_⟩;refine ix O O ?_;refine w.st (j:=n) (by simp[Wj,lr];omega) (λJ g=>by rw[p]at g;cases g;rw[add_lit];simp) λV e1 H=>?_;refine ix O O ?_;refine H.st (j:=xs.length-1-n) (by simp[Wj,lr];omega) (λJ g=>by rw[p]at g;cases g;rw[add_lit];simp) λW e2 G=>?_;refine cS (m:=n+1) O O (cS (m:=xs.length-1-n-1) O O ⟨⟨n+1,rfl,O,O,(ev.trans e1).trans e2,?_⟩,O⟩);rw[←step n z,zP,zP];have E:∀(l:List Int) (i:Nat) (x:Int),Wj (l.set i x)=(Wj l).set i (.int .i64 x):=λl i x=>by simp[Wj,xe]
  rw[E,E];exact G
 ·rw[r n O O]at w;exact hR v ev w
theorem SL (h:jb b l U G){sl:Sl}(hz:sl.len=0){R:aN}(hR:∀σ',Ext (· = b) U σ'->jb b l σ' G->R 0 σ'):WV.c (aW b) sl U R:=by
 refine WV.o ?_;unfold WV.v;have A:=h;obtain⟨D,j,s,x,i,E⟩:=h;have w:s.len=l.os.length:=by have:=i.1;simp[Wj]at this;omega
 have z:=j.many;refine bK (x.rS rfl (cS (m:=l.os.length) aC O (fT O (bK (x.rS rfl ?_)))));refine Xf.o ?_;unfold Xf.v;refine iQ (lo:=0) aC aC aC ?_;have d:=cT.sub i (lo:=0) (hi:=s.len) (mx:=s.len) O O O;have C:((Wj l.os).drop (0*1)).take ((s.len-0)*1)=Wj l.os:=by rw[w,mW (by simp[Wj])];simp
 rw[C]at d;have key:∀(e:Sl),cT e 1 (Wj l.os) U (λq=>G q/\q≠b)->e.len<=e.cap->bV (some ⟨b,0,none⟩) λu=>dU (u.add 0) (.slice e.a e.len e.cap) U λv2=>R 0 v2:=λe p y=>by
  refine bK (x.s1 (by simp[mO]) λv2 o2 r=>hR v2 o2.ext ?_);exact A.st (l':=l) (s:=e) o2.ext r p y j
 refine⟨Wj l.os,[],by simp[Wj];omega,by simp[hz],d.rd,by cases sl.a<;>simp[Rd],by simp,?_,by simp only;omega,λB=>?_,λg=>absurd (by simp only[hz];omega) g⟩
 ·simp only[hz];have:(s.len-0+0)*8<=256*8:=l5 O O;omega
 ·simp only[hz,j9];cases ha:(if s.len=0 then s.a else s.a.map (·.add (0*1)))
  ·rw[ha]at d;exact key ⟨none,s.len-0,s.len-0⟩ d (zD _)
  ·rw[ha]at d;exact key ⟨some _,s.len-0,s.len-0⟩ d (zD _)
theorem F9 (h:jb b l U G){sl:Sl}{xs:List Int}{X:Rg}(hs:cT sl 1 (Wj xs) U X)(hfit:l.os.length+xs.length<=256){R:aN}
 (hR:∀σ',Ext (· = b) U σ'->jb b (eC xs l) σ' (Grow G U)->R 0 σ'):WV.c (aW b) sl U R:=by
 by_cases hx:xs=[]
 ·subst hx;have g:eC [] l=l:=by unfold eC;rw[zB (by simp only[lz]at hfit ⊢;omega)];simp
  refine SL h (by have:=hs.1;simp[Wj]at this;omega) λσ' e a=>hR σ' e ?_;rw[g];exact(jb.loc _ _).mono a λq _ d=>.inl d
 ·exact Pq h hs hx hfit λσ' e a=>hR σ' e ((jb.loc _ _).mono a λq _ d=>d.imp (λe=>by rw[e];exact h.1) id)
theorem S6 (h:eH U F Y tb bud ls)(hc:tb[k]?=some c)(hl:ls[k]?=some l){sl:Sl}{xs:List Int}{X:Rg}(hs:cT sl 1 (Wj xs) U X)(hX:∀q,X q->¬F q)(hfit:l.os.length+xs.length<=256){R:aN}
 (hR:∀σ' Y',Ext F U σ'->Y'.p=Y.p->eH σ' (Grow F U) Y' tb bud (ls.set k (eC xs.reverse l))->R 0 σ'):Ya.c (aW Y.p) (k:Int) sl U R:=by
 obtain⟨u,B⟩:=h.cls hc;have C:sl.len=xs.length:=by have:=hs.1;simp[Wj]at this;omega
 refine Ya.o ?_;unfold Ya.v;refine GI h B λv Y' b e x D y=>cB rfl ?_;have m:=aH.bS hs e λq _ a=>hX q a;refine Hv m VK O λs1 H E e1 j=>?_;refine O5 j O λv2 e2 i=>?_;have g:aG v v2:=Ext.fresh e1 e2 λq a=>a;obtain⟨G,s,d⟩:=(y.bO g).fo (e.trans (aG.to g)) D hl;refine F9 s i.fX aE λv3 A r=>?_;obtain⟨w,z⟩:=d v3 _ _ (A.sub λq a=>a▸s.1) (λq a=>a) r;exact hR v3 Y' w x z
theorem Qh {α:Type}{ls:List α}{k:Nat}{l:α}(h:ls[k]?=some l):ls.set k l=ls:=by
 apply zr;intro j;by_cases hj:j=k
 ·subst hj;rw[zM (cX.1 h).1,h]
 ·rw[zj (Ne.symm hj)]
theorem OM (h:eH U F Y tb bud ls)(hc:tb[k]?=some c)(hl:ls[k]?=some l)(x:Int){R:Sl->Int->Hp->Prop}
 (hR:∀σ' Y' s e (Q:Rg),Ext F U σ'->Y'.p=Y.p->(l.os.length+1<=256->e=0)->(∀q,Q q->U.size<=q)->bR s 1 (Wj (dK c x l).1) σ' Q->eH σ' (λq=>Grow F U q/\¬Q q) Y' tb bud (ls.set k (dK c x l).2)->R s e σ'):YE.c (aW Y.p) (k:Int) x U R:=by
 obtain⟨X,hk⟩:=h.cls hc;refine YE.o ?_;unfold YE.v;refine GI h hk λv Y' b e hp hb h'=>cB rfl ?_;have hσv:=e.1;obtain⟨G,hG,hL,_,N⟩:=h'.wC hb hl;have hblt:b<v.size:=by obtain⟨_,_,s,hbk,_⟩:=hL;exact hbk.lt
 have u:=hL.1;have aa:=hL.2.1;have hmany:=aa.many;have r:∀(σ':Hp) (l':Li) (G':Rg),Ext G v σ'->(∀q,G' q->Grow G v q)->jb b l' σ' G'->Ext F U σ'/\eH σ' (λq=>Grow F U q/\q<v.size/\¬G q\/G' q) Y' tb bud (ls.set k l'):=λσ' l' G' e' hg hL'=>by
  obtain⟨e1,h1⟩:=N σ' l' G' e' hg hL';exact⟨e.jt e1,h1⟩
 have hin:∀{G':Rg} {q:Nat},(∀q,G' q->Grow G v q)->(Grow F U q/\q<v.size/\¬G q\/G' q)->Grow F U q:=λhg a=>by
  rcases a with a|a
  ·exact a.1
  ·rcases hg _ a with H|H
   ·exact hG _ H
   ·exact .inr O
 refine nw (cs:=[.int .i64 x]) λv1 hz1 e1 hb1=>?_;have K:=(jb.loc _ _).bO hL e1;have Z:cT ⟨some ⟨v.size,0,none⟩,1,1⟩ 1 (Wj [x]) v1 (· = v.size):=hb1.fX (o:=0) rfl (by simp[Wj]) (λj hj=>by
  simp only[Wj,zR,pX,zX,lz]at hj ⊢;rw[zH])
 by_cases hfit:l.os.length+1<=256
 ·refine F9 K Z (by simpa using hfit) λv2 e2 B=>cB rfl ?_;have D:Ext G v v2:=(aG.to e1).trans (e2.sub λq a=>a▸u);have S:∀q,Grow G v1 q->Grow G v q:=λq a=>a.imp id λhx=>by omega
  obtain⟨eF2,H⟩:=r v2 _ _ D S B;have i:(eC [x] l).os=l.os++[x]/\(eC [x] l).lim=l.lim/\(eC [x] l).low=l.low:=by unfold eC;rw[zB (by simp only[zX,lz];omega)];exact⟨rfl,rfl,rfl⟩
  have A:=B;obtain⟨_,ok2,s2,g,ac,C⟩:=B;have hs2l:s2.len=l.os.length+1:=by have:=ac.1;simp[Wj,i.1]at this;omega
  refine bK (g.rS rfl (bK (g.rI rfl ?_)));rw[i.2.1];refine cP (λc1=>?_) λc1=>?_
  ·have E:l.os.length+1<=l.lim:=by simp only at c1;omega
   have w:dK c x l=([],eC [x] l):=by unfold dK;rw[zB O,zC E]
   refine hR v2 Y' _ 0 (λ_=>False) eF2 hp (λ_=>rfl) (λq a=>a.elim) (by rw[w];exact bR.nil _ _ _ _) ?_;rw[w];exact H.mono λq _ a=>⟨hin S a,id⟩
  ·have E:¬l.os.length+1<=l.lim:=by simp only at c1;omega
   have w:dK c x l=gC (min c.batch (l.os.length+1)) (mh c (eC [x] l)):=by unfold dK;rw[zB O,zB E]
   have W:=H.hd;rw[hp]at W;refine bK (W.rS rfl (sW H.jG hc (d:=2) O ?_));simp only[zB (show ¬(2=0) by omega),zB (show ¬(2=1) by omega)];refine Jn.intro ?_;have y:∀v3,Ext (· = b) v2 v3->jb b (mh c (eC [x] l)) v3 (Grow G v1)->bV (some ⟨b,0,none⟩) λa62=>ju (a62.add 0) v3 λM=>W8.c (aW b) (if((M.len:Nat):Int)<(c.batch:Int)then((M.len:Nat):Int)else(c.batch:Int)) v3 λt67 v4=>R t67 0 v4:=by
    intro v3 e3 hL3;have L:=hL3;obtain⟨_,ok3,s3,J,hs3,hcap3⟩:=hL3;have ab:(mh c (eC [x] l)).os=l.os++[x]:=by unfold mh;split<;>exact i.1
    have P:s3.len=l.os.length+1:=by have:=hs3.1;simp[Wj,ab]at this;omega
    refine bK (J.rS rfl ?_);have em:(if((s3.len:Nat):Int)<(c.batch:Int)then((s3.len:Nat):Int)else(c.batch:Int))=((min c.batch (l.os.length+1):Nat):Int):=by rw[P];split<;>omega
    rw[em];refine H6 L (by rw[ab];simp;omega) λs z v4 e4 hz hr hL4=>?_;have e24:Ext (· = b) v2 v4:=e3.trans e4;have e04:Ext G v v4:=D.trans (e24.sub λq a=>a▸u);have hs23:=e3.1;have hs02:=D.1;obtain⟨eF4,h4⟩:=r v4 _ (λq=>q=b\/z<=q) e04 (λq a=>a.imp (λ(hx:q=b)=>by rw[hx];exact u) λ(hx:z<=q)=>O) hL4;refine hR v4 Y' s 0 (λq=>v3.size<=q/\q<z) eF4 hp (λ_=>rfl) (λq a=>O) (by rw[w];exact hr) ?_;rw[w];refine h4.mono λq _ a=>⟨?_,λhQ=>?_⟩
    ·rcases a with a|a|a
     ·exact a.1
     ·subst a;exact hG _ u
     ·exact .inr O
    ·rcases a with a|a|a<;>omega
   refine bK (g.rI rfl ?_);rw[i.2.1];refine cP (λc2=>?_) λc2=>?_
   ·have c2':l.lim<c.batch:=by omega
    have eu:mh c (eC [x] l) = {eC [x] l with lim:=l.lim+1}:=by unfold mh;rw[i.2.1,zC c2']
    have V:=FT X ok2;refine bK (g.rI rfl ?_);rw[i.2.1];have hl128:=aa.lim;refine cS (m:=l.lim+1) O O (bK (g.s1 (by simp[mO]) λv3 o3 hb3=>y v3 o3.ext ?_));rw[eu]at V ⊢;exact A.st o3.ext hb3 ac C V
   ·have eu:mh c (eC [x] l)=eC [x] l:=by unfold mh;rw[i.2.1,zB O]
    exact y v2 (Ext.refl _ _) (by rw[eu];exact A)
 ·refine Ty K Z (by simpa using hfit) aA (cC rfl ?_);have w:dK c x l=([],l):=by unfold dK;rw[zC O]
  refine hR v1 Y' _ 6 (λ_=>False) (e.trans (aG.to e1)) hp (λhx=>absurd hx hfit) (λq a=>a.elim) (by rw[w];exact bR.nil _ _ _ _) ?_;rw[w,Qh hl];exact(h'.bO e1).mono λq _ a=>⟨a,id⟩
end Go.Ar
namespace Go.Ar
open Go Go.Vc Go.Proofs
open Go.Bu (Zj QI Zh)
variable {U:Hp}{F:Rg}{p hs:Nat}{A:AR}{Y:Lay}{T:Nat->Hp->Rg->Prop}
theorem dG.tg (h:dG U F Y A T){k q:Nat}{c:bZ}{ss:List cF}(h1:Y.fI[k]?=some q)(h2:A.tb[k]?=some c)(h3:A.cE[k]?=some ss) :
 ∃G:Rg,(∀b,G b->F b)/\(∃ps,fC U G q c ps ss)/\(∀j,∃H:Rg,(∀b,H b->F b)/\(∀b,H b->¬G b)/\T j U H)/\∀(σ':Hp) (ss':List cF) (ps':List (Nat×Nat)) (G' H:Rg),
  Ext G U σ'->(∀b,G' b->G b\/U.size<=b)->fC σ' G' q c ps' ss'->(∀b,(F b/\b<U.size/\¬G b\/G' b)->H b)->dG σ' H Y {A with cE:=A.cE.set k ss'} T:=by
 obtain⟨G,i,g,hd,a⟩:=h.step (.cE k);have d:k<A.cE.length:=(cX.1 h3).1;refine⟨G,i,Fo h1 h2 h3 g,λj=>hd (.cM j) (by intro e;cases e),λσ' ss' ps' G' H e m r p=>?_⟩;refine a σ' _ _ T G' H h.lay.kX h.tl TB e m ?_ p;simp only[AC];rw[h1,h2,zM d];exact⟨ps',r⟩
theorem Mj (h:dG U F Y A T)(k m:Int){R:Sl->Int->Hp->Prop}(hR:∀s σ',Ext F U σ'->bR s 1 (ints (Yj A k m)) σ' (λb=>U.size<=b)->dG σ' (Cut F U) Y (YA A k m) T->R s (QC A k m) σ') :
 WD.c (aW Y.p) k m U R:=by
 refine WD.o ?_;unfold WD.v;refine Uo h k (λj=>?_) λx E w=>?_
 ·have e1:QC A k m=1:=by unfold QC;rw[j];rfl
  have e2:YA A k m=A:=by unfold YA;rw[e1];rfl
  have i:Yj A k m=[]:=by unfold Yj;rw[e1];rfl
  have:=hR ⟨none,0,0⟩ U (Ext.refl _ _) (by rw[i];exact bR.nil _ _ _ _) (by rw[e2];exact h.cut);rw[e1]at this;exact cC rfl this
 ·subst E;have j:A.ck (x:Int)=true:=by unfold AR.ck;simp;omega
  obtain⟨c,ss,q,t,r,C,d,B,_,_,H⟩:=h.at_ w;obtain⟨G,y,⟨K,D⟩,_,g⟩:=h.tg B C d;refine cB rfl (bK (h.hd.rS rfl (h.l3 B ?_)));by_cases hm:m<0
  ·have e1:QC A x m=1:=by unfold QC;rw[j,zC rfl,zC hm]
   have e2:YA A x m=A:=by unfold YA;rw[e1];rfl
   have i:Yj A x m=[]:=by unfold Yj;rw[e1];rfl
   have:=hR ⟨none,0,0⟩ U (Ext.refl _ _) (by rw[i];exact bR.nil _ _ _ _) (by rw[e2];exact h.cut);rw[e1]at this;exact Sh D m hm this
  ·have e1:QC A x m=0:=by unfold QC;rw[j,zC rfl,zB hm]
   have z:Vt A x m=Kb c m.toNat ss:=by unfold Vt;simp only[dD];rw[C,d]
   have e2:YA A x m = {A with cE:=A.cE.set x (Kb c m.toNat ss).2}:=by unfold YA;rw[e1,zC rfl,z];rfl
   have i:Yj A x m=(Kb c m.toNat ss).1:=by unfold Yj;rw[e1,zC rfl,z]
   refine TA D m O λs σ' e a u=>?_;have:=hR s σ' (e.sub y) (by rw[i];exact a) (by rw[e2];exact g σ' _ _ (Cut G U) _ e (λb J=>.inl J.1) u (EI y));rw[e1]at this;exact this
theorem Oj {k:Nat}{f:gI->gI}:∀j,j≠Lb.cM k->AC {A with cM:=A.cM.modify k f} Y (cK {A with cM:=A.cM.modify k f} Y) j=AC A Y (cK A Y) j:=by
 intro j hj;cases j<;>first|rfl|skip
 rename_i k';have a:k≠k':=λe=>hj (by rw[e]);simp only[AC,cK];simp[uf,a]
theorem eU.j7 {k:Nat}{f:gI->gI}(h:eU A Y):eU {A with cM:=A.cM.modify k f} Y:=⟨h.c,h.t,h.cE,by simpa using h.cM,h.nr,h.qM,h.n1,h.n2,h.n3,h.st,h.room,h.ok⟩
theorem dG.sI (h:dG U F Y A (cK A Y)){k q:Nat}{c:bZ}{t:gI}(h1:Y.fY[k]?=some q)(h2:A.tb[k]?=some c)(h3:A.cM[k]?=some t) :
 ∃G:Rg,(∀b,G b->F b)/\jq U G q c.batch A.room t/\∀(σ':Hp) (f:gI->gI) (G' H:Rg),
  Ext G U σ'->(∀b,G' b->G b\/U.size<=b)->jq σ' G' q c.batch A.room (f t)->(∀b,(F b/\b<U.size/\¬G b\/G' b)->H b)->dG σ' H Y {A with cM:=A.cM.modify k f} (cK {A with cM:=A.cM.modify k f} Y):=by
 obtain⟨G,i,d,hd,a⟩:=h.step (.cM k);have g:jq U G q c.batch A.room t:=by
  simp only[AC,cK]at d;rw[h1,h2,h3]at d;exact d
 refine⟨G,i,g,λσ' f G' H e m r p=>?_⟩;refine a σ' _ _ _ G' H h.lay.j7 (λj=>cK.loc j) Oj e m ?_ p;simp only[AC,cK];rw[h1,h2,List.getElem?_modify_eq,h3];exact r
theorem GG (h:dG U F Y A (cK A Y))(k:Int){R:Sl->Int->Hp->Prop}(hR:∀s σ',Ext F U σ'->(∀b,kP s b->F b)->cT s 1 (Wj (Yy A k)) σ' (kP s)->s.len<=s.cap->dG σ' (λb=>F b/\¬kP s b) Y (ZG A k) (cK (ZG A k) Y)->R s (Z6 A k) σ') :
 WB.c (aW Y.p) k U R:=by
 refine WB.o ?_;unfold WB.v;refine Uo h k (λB=>?_) λx P D=>?_
 ·have e1:Z6 A k=1:=by unfold Z6;rw[B];rfl
  have e2:ZG A k=A:=by unfold ZG;rw[e1];rfl
  have j:Yy A k=[]:=by unfold Yy;rw[e1];rfl
  have:=hR ⟨none,0,0⟩ U (Ext.refl _ _) (λb d=>by obtain⟨a,g,_⟩:=d;cases g) (by rw[j];exact cT.nil _ _ _ _) (zD _) (by rw[e2];exact h.mono λb _ d=>⟨d,λ⟨a,g,_⟩=>by cases g⟩);rw[e1]at this;exact cC rfl this
 ·subst P;have B:A.ck (x:Int)=true:=by unfold AR.ck;simp;omega
  obtain⟨c,Q,q,t,r,N,K,S,z,H,M⟩:=h.at_ D;obtain⟨G,C,J,u⟩:=h.sI H N z;refine cB rfl (bK (h.hd.rS rfl (h.rE H ?_)));by_cases d:t.bs=[]
  ·have e1:Z6 A x=4:=by unfold Z6;rw[B,zC rfl];simp only[dD];rw[z];simp[d]
   have e2:ZG A x=A:=by unfold ZG;rw[e1];rfl
   have j:Yy A x=[]:=by unfold Yy;rw[e1];rfl
   have:=hR ⟨none,0,0⟩ U (Ext.refl _ _) (λb d=>by obtain⟨a,g,_⟩:=d;cases g) (by rw[j];exact cT.nil _ _ _ _) (zD _) (by rw[e2];exact h.mono λb _ d=>⟨d,λ⟨a,g,_⟩=>by cases g⟩);rw[e1]at this;exact S4 J d this
  ·have e1:Z6 A x=0:=by unfold Z6;rw[B,zC rfl];simp only[dD];rw[z];simp[d]
   have e2:ZG A x = {A with cM:=A.cM.modify x gI.rem}:=by unfold ZG;rw[e1,zC rfl];rfl
   have j:Yy A x=t.bs.getLast?.getD []:=by unfold Yy;rw[e1,zC rfl];simp only[dD];rw[z]
   refine Jo J d λs σ' e w i y E=>?_;have m:∀b,(F b/\b<U.size/\¬G b\/G b/\¬kP s b)->F b/\¬kP s b:=λb d=>by
    rcases d with d|d
    ·exact⟨d.1,λL=>d.2.2 (w b L)⟩
    ·exact⟨C b d.1,d.2⟩
   have:=hR s σ' (e.sub C) (λb d=>C b (w b d)) (by rw[j];exact i) y (by rw[e2];exact u σ' _ (λb=>G b/\¬kP s b) _ e (λb d=>.inl d.1) E m);rw[e1]at this;exact this
theorem Jx (h:dG U F Y A (cK A Y))(k:Int){sl:Sl}{xs:List Int}{X:Rg}(hs:cT sl 1 (Wj xs) U X)(hi:∀x∈xs,iG x){R:Bool->Int->Hp->Prop}(hR:∀σ',Ext F U σ'->dG σ' (Grow F U) Y (Ke A k xs) (cK (Ke A k xs) Y)->R (Vn A k xs) (He A k xs) σ') :
 WH.c (aW Y.p) k sl U R:=by
 refine WH.o ?_;unfold WH.v;have w:sl.len=xs.length:=by have:=hs.1;simp[Wj]at this;omega
 have Z:∀e:Int,e≠0->He A k xs=e->R false e U:=λe he C=>by
  have e3:Vn A k xs=false:=by unfold Vn;rw[zN O];rfl
  have e2:Ke A k xs=A:=by unfold Ke;rw[e3];rfl
  have:=hR U (Ext.refl _ _) (by rw[e2];exact h.mono λb _ g=>.inl g);rw[C,e3]at this;exact this
 refine Uo h k (λhk=>cC rfl (Z 1 aB (by unfold He;rw[hk];rfl))) λx N aa=>?_;subst N;have hk:A.ck (x:Int)=true:=by unfold AR.ck;simp;omega
 obtain⟨c,Q,q,t,r,M,H,hq,ht,hr,W⟩:=h.at_ aa;obtain⟨G1,ps,hG1,S⟩:=h.cE hq M H;obtain⟨G,hG,hC,K⟩:=h.sI hr M ht;have P:He A x xs=if xs.length=c.batch then(if xs.all (λx=>eB c Q x==some true)then 0 else 8)else 1:=by unfold He;rw[hk,zC rfl];simp only[dD];rw[M,H]
 refine cB rfl (bK (h.hd.rS rfl (h.vX (d:=2) M O ?_)));simp only[zB (show ¬(2=0) by omega),zB (show ¬(2=1) by omega)];rw[qU];refine cO (λg=>?_) λg=>?_
 ·have:¬xs.length=c.batch:=by rw[←w];simpa using g
  exact Z 1 aB (by rw[P,zB this])
 have L:xs.length=c.batch:=by rw[←w];simpa using g
 rw[zC L]at P;have h32:c.batch<=32:=W.2.2.2.2.2.2.2;refine Qc (a:=bN) (λ(i:Int) v=>∃j:Nat,i=(j:Int)/\j<=xs.length/\v=U/\∀y∈xs.take j,eB c Q y=some true) (λi _=>xs.length-i.toNat) ⟨0,rfl,O,rfl,by simp⟩ ?_;rintro i v ⟨j,rfl,hj,rfl,s⟩;refine cP (λhlt2=>?_) λhge=>?_
 ·have E:j<xs.length:=by omega
  have N:xs[j]?=some xs[j]:=cU E;have ab:xs.take (j+1)=xs.take j++[xs[j]]:=by rw[kN,N];rfl
  have u:=zp E;generalize xs[j]=y at *;have J:eB c Q y≠some true->R false 8 v:=λV=>Z 8 aB (by
   rw[P,zB];intro ha;rw[ke]at ha;exact V (by simpa using ha y u))
  refine hs.mI N (bK (h.hd.rS rfl (h.l3 hq (FC S _ (hi y u) (λb g=>?_) λg=>?_))))
  ·refine bW.intro (cB rfl ?_);cases b
   ·exact cC rfl (J (by rw[g];simp))
   ·refine cB rfl (cS (m:=j+1) O O ⟨⟨j+1,rfl,O,rfl,λz hz=>?_⟩,O⟩);rw[ab]at hz;rcases zK.1 hz with C|C
    ·exact s z C
    ·simp at C;rw[C];exact g
  ·exact bW.intro (cC rfl (cC rfl (J (by rw[g];simp))))
 ·have:j=xs.length:=by omega
  subst this;rw[l0]at s;have B:He A x xs=0:=by
   rw[P,zC];rw[ke];intro y hy;simp[s y hy]
  have D:Vn A x xs=decide (t.bs.length<A.room):=by unfold Vn;rw[B];simp only[dD];rw[ht];simp
  refine bK (h.hd.rS rfl (h.rE hr (NN hC hs O (λV=>absurd L V) (λ_ hf=>?_) λ_ hf σ' e ac=>?_)))
  ·rw[zN O]at D;have e2:Ke A x xs=A:=by unfold Ke;rw[D];rfl
   have:=hR v (Ext.refl _ _) (by rw[e2];exact h.mono λb _ g=>.inl g);rw[B,D]at this;exact this
  ·rw[zJ O]at D;have e2:Ke A x xs = {A with cM:=A.cM.modify x λt=>{t with bs:=t.bs++[xs]}}:=by unfold Ke;rw[D,zC rfl];rfl
   have:=hR σ' (e.sub hG) (by rw[e2];exact K σ' (λt=>{t with bs:=t.bs++[xs]}) (Grow G v) _ e (λb g=>g) ac (HG hG λb g=>g));rw[B,D]at this;exact this
theorem fC.Oz {q:Nat}{c:bZ}{ps:List (Nat×Nat)}{ss:List cF}{G:Rg}(h:fC U G q c ps ss):∀s∈ss,s.st<=1024:=by
 intro s hs;obtain⟨i,a⟩:=zQ hs;have d:=(cX.1 a).1;have b:i<ps.length:=by rw[h.len];exact d
 have:=(h.sp _ _ _ (cU b) a).fit;omega
theorem Ja (h:dG U F Y A T)(k:Int){sl:Sl}{xs:List Int}(hi:∀x∈xs,iG x)(hl:xs.length<=1000000)(hcap:sl.len<=sl.cap)
 (hs:(∃X:Rg,cT sl 1 (Wj xs) U X/\∀b,b<U.size->X b->¬F b)\/∃j,∀H,T j U H->cT sl 1 (Wj xs) U H)
 {R:aN} (hR:∀σ',Ext F U σ'->dG σ' (Grow F U) Y (ZC A k xs) T->R (QU A k xs) σ') :
 WQ.c (aW Y.p) k sl U R:=by
 refine WQ.o ?_;unfold WQ.v;have no:∀e:Int,e≠0->QU A k xs=e->R e U:=λe he Q=>by
  have e2:ZC A k xs=A:=by unfold ZC;rw[zB O]
  have:=hR U (Ext.refl _ _) (by rw[e2];exact h.mono λb _ d=>.inl d);rw[Q]at this;exact this
 refine Uo h k (λW=>cC rfl (no 1 aB (by unfold QU;rw[W];rfl))) λx hx P=>?_;subst hx;have W:A.ck (x:Int)=true:=by unfold AR.ck;simp;omega
 obtain⟨c,g,q,t,r,N,u,hq,_,_,hok⟩:=h.at_ P;obtain⟨G,K,⟨ps,hC⟩,hd,B⟩:=h.tg hq N u;have hX:∃X:Rg,cT sl 1 (Wj xs) U X/\∀b,X b->¬G b:=by
  rcases hs with⟨X,Q,h2⟩|⟨j,hj⟩
  ·exact⟨Cut X U,aH.cut Q,λb d hg=>h2 b d.2 d.1 (K b hg)⟩
  ·obtain⟨H,_,D,hT⟩:=hd j;exact⟨H,hj H hT,D⟩
 obtain⟨X,V,J⟩:=hX;have Z:QU A x xs=iF c g xs:=by unfold QU;rw[W,zC rfl];simp only[dD];rw[N,u]
 refine cB rfl (bK (h.hd.rS rfl (h.l3 hq (Mr hC V J hi hl hcap (λD=>?_) λh0 o σ1 e1 m E=>?_))))
 ·refine cC (by simpa using D) (no _ D Z)
 ·refine cB rfl ?_;have eS:ZC A x xs=Uf {A with cE:=A.cE.set x (cH (xs.foldl (fD c) g))} ((Qo (xs.foldl (fD c) g)).map λs=>(s,c.aF)):=by
   unfold ZC;rw[Z,zC h0];simp only[dD];rw[N,u]
  have L:=B σ1 _ _ (Cut G U) _ e1 (λb d=>.inl d.1) E (EI K);rw[M9]at m;have C:((Qo (xs.foldl (fD c) g)).map λs=>(s,c.aF)).length<=1000000/\∀r∈((Qo (xs.foldl (fD c) g)).map λs=>(s,c.aF)),r.1<=1000000:=by
   have i:∀(ys:List Int) (ls:List cF),((ys.foldl (fD c) ls).map (·.st))=ls.map (·.st):=by
    intro ys
    induction ys with
    | nil=>intro ls;rfl
    | cons y ys ih=>
     intro ls;rw[qW,ih];unfold fD;split
     ·rename_i j hj;split
      ·rename_i s a;split
       ·simp only[xe];apply zr;intro z;rw[m7];by_cases w:j=z
        ·subst w;rw[zC rfl];have:=(cX.1 a).1;rw[zC (by simpa using this)];simp[a,cF.put]
        ·rw[zB w]
       ·rfl
      ·rfl
     ·rfl
   have M:∀s∈Qo (xs.foldl (fD c) g),s∈g.map (·.st):=by
    intro s a;rw[←i xs g];unfold Qo at a;simp only[zE,zI]at a ⊢;obtain⟨z,w,rfl⟩:=a;exact⟨z,w.1,rfl⟩
   have hfew:=hC.qf;refine⟨?_,λr hr=>?_⟩
   ·have:(Qo (xs.foldl (fD c) g)).length<=(xs.foldl (fD c) g).length:=by
     unfold Qo;rw[zl];exact rh _ _
    have h2:(xs.foldl (fD c) g).length=g.length:=by have:=congrArg List.length (i xs g);simpa using this
    rw[zl];omega
   ·obtain⟨s,a,rfl⟩:=zE.1 hr;obtain⟨z,w,rfl⟩:=zE.1 (M s a);have:=hC.Oz z w;simp only;omega
  refine IK L m.fX (λb _ d hf=>by have:=hf.2;omega) C.1 C.2 λσ2 e2 S=>?_;have:=hR σ2 ((e1.sub K).trans (e2.sub λb d=>d.1)) ?_
  ·rw[Z,h0]at this;exact this
  ·rw[eS];exact S.mono λb _ d=>by
    rcases d with d|d
    ·exact .inl d.1
    ·exact .inr (zY e1.1 d)
theorem RG (l:List (Nat×Nat))(x:Int):bU (iL l) x=(l.find? λr=>(r.1:Int)==x).map λr=>(r.2:Int):=by
 induction l with
 | nil=>rfl
 | cons r l ih=>
  have:iL (r::l)=((r.1:Int),(r.2:Int))::iL l:=rfl;rw[this,Ki,uT,ih];by_cases h:(r.1:Int)=x
  ·simp[h]
  ·have:((r.1:Int)==x)=false:=by simpa using h
   rw[this,zB h]
theorem N2 (l:List (Nat×Nat))(x:Int):cR (iL l) x=iL (l.filter λq=>!((q.1:Int)==x)):=by
 unfold cR iL;rw[vS];rfl
theorem JM (l:List (Nat×Nat))(x m:Nat):dA (iL l) (x:Int) (m:Int)=iL (cA.mset2 l x m):=by
 unfold dA cA.mset2 iL;have e:(l.map λr=>((r.1:Int),(r.2:Int))).any (λy=>y.1==(x:Int))=l.any λr=>r.1==x:=by
  rw[List.any_map]
  congr 1
  funext r
  exact lR r.1 x
 rw[e];split
 ·rw[lx,lx];apply kh;intro r _;simp only[Function.comp_def];rw[lR];split<;>rfl
 ·simp
theorem dG.ru (h:dG U F Y A T):F Y.rn/\dH U Y.rn .i64 bN (iL A.runs)/\∀(σ':Hp) (rs:List (Nat×Nat)),QB U σ' Y.rn->dH σ' Y.rn .i64 bN (iL rs)->dG σ' F Y {A with runs:=rs} T:=by
 obtain⟨G,g,⟨e,p⟩,_,d⟩:=h.step .runs;refine⟨g _ e,p,λσ' rs m j=>?_⟩;exact d σ' _ _ T G _ h.lay.qP h.tl ON (m.ext.sub λb a=>by subst a;exact e) (λb a=>.inl a) ⟨e,j⟩ (yH g λb a=>a)
theorem O6 (h:dG U F Y A T)(x:Int)(hf:∀r∈A.runs,r.1<=1000000){R:aN}(hR:∀σ',Ext F U σ'->dG σ' (Grow F U) Y (QD A x) T->R (K0 A x) σ') :
 WO.c (aW Y.p) x U R:=by
 refine WO.o ?_;unfold WO.v;obtain⟨L,H,e⟩:=h.ru;refine HB h (cB rfl (bK (h.hd.rM rfl ⟨_,H,?_⟩)));rw[RG];cases hr:(A.runs.find? λr=>(r.1:Int)==x)with
 | none=>
  have e1:K0 A x=8:=by unfold K0 pT;rw[hr];rfl
  have e2:QD A x=A:=by unfold QD pT;rw[hr]
  have:=hR U (Ext.refl _ _) (by rw[e2];exact h.mono λb _ a=>.inl a);rw[e1]at this;exact cC rfl this
 | some r=>
  have e1:K0 A x=0:=by unfold K0 pT;rw[hr];rfl
  have e2:QD A x=VR {A with runs:=A.runs.filter λq=>!((q.1:Int)==x)} r:=by unfold QD pT;rw[hr]
  have C:=uc hr;have E:(r.1:Int)=x:=by simpa using sL hr
  refine cB rfl (bK (h.hd.rM rfl ⟨_,H,λm s _ y=>?_⟩));have o1:=s _ rfl;have d:dH m Y.rn .i64 bN (cR (iL A.runs) x):=y;rw[N2]at d;have D:=e m _ o1 d;simp only[zZ,pZ];refine nw (cs:=[.int .i64 x,.int .i64 (r.2:Int)]) λP K g w=>?_;have z:=D.cut.bO g;have G:cT ⟨some ⟨m.size,0,none⟩,1,1⟩ 2 (rV [r]) P (· = m.size):=by
   refine⟨rfl,.inr ⟨_,0,_,rfl,rfl,w.q,λj Q=>?_⟩⟩;have:rV [r]=[.int .i64 (r.1:Int),.int .i64 (r.2:Int)]:=rfl;rw[this,E,zH]
  refine IK z G (λb _ a N=>by have:=N.2;omega) aA (λq J=>by simp at J;subst J;exact hf _ C) λv3 M B=>?_;have u:Ext F U v3:=(o1.ext.sub λb a=>by subst a;exact L).trans ((aG.to g).trans (M.sub λb a=>a.1));have:=hR v3 u (by
   rw[e2];exact B.mono λb _ a=>by
    rcases a with a|a
    ·exact .inl a.1
    ·exact .inr (by have:=o1.1;omega))
  rw[e1]at this;exact this
theorem Vo (rs:List (Nat×Nat)):∀A:AR,(Uf A rs).tb=A.tb/\(Uf A rs).room=A.room/\(Uf A rs).cM=A.cM/\(Uf A rs).cE=A.cE/\(Uf A rs).runs=A.runs/\(Uf A rs).n=A.n:=by
 induction rs with
 | nil=>intro A;exact⟨rfl,rfl,rfl,rfl,rfl,rfl⟩
 | cons r rs ih=>intro A;exact ih (VR A r)
theorem Uk (A:AR)(k:Int)(xs:List Int):(ZC A k xs).tb=A.tb/\(ZC A k xs).room=A.room/\(ZC A k xs).cM=A.cM/\(ZC A k xs).runs=A.runs/\(ZC A k xs).n=A.n:=by
 unfold ZC;split
 ·split
  ·exact⟨(Vo _ _).1,(Vo _ _).2.1,(Vo _ _).2.2.1,(Vo _ _).2.2.2.2.1,(Vo _ _).2.2.2.2.2⟩
  ·exact⟨rfl,rfl,rfl,rfl,rfl⟩
 ·exact⟨rfl,rfl,rfl,rfl,rfl⟩
theorem gI.pD (t:gI):∀xs∈t.tick.bs,xs∈t.bs:=λxs h=>sC h
theorem Ve {α:Type}{l:List α}{k:Nat}{t:α}{f:α->α}(h:l[k]?=some t):l.modify k f=l.set k (f t):=by
 apply zr;intro i;rw[m7,uf];by_cases hi:k=i
 ·subst hi;have:=(cX.1 h).1;rw[zC rfl,zC this,h];simp
 ·simp[hi]
def BF (A:AR)(Y:Lay)(k r:Nat)(c:bZ)(t:gI)(out:Sl)(sls:List Sl)(j:Nat):Hp->Rg->Prop:=
 if j=k then λU G=>jq U G r c.batch A.room t.tick/\cT out 1 (sls.map pV) U G/\qO sls t.out U G else cK A Y j
theorem BF.loc {k r:Nat}{c:bZ}{t:gI}{out:Sl}{sls:List Sl}(j:Nat):dM (BF A Y k r c t out sls j):=by
 unfold BF;split
 ·exact λU i F G ⟨g,e,d⟩ b a=>⟨jq.loc _ _ _ _ g b a,cT.loc _ _ _ _ _ _ _ e b a,qO.loc _ _ _ _ _ _ d b a⟩
 ·exact cK.loc j
end Go.Ar
namespace Go.Bu
variable {n:Nat}{S:Nat->Bool}
theorem V9 {m a k x:Nat}(h:ZJ n S m a k=some x):∃j,j<k/\m<=2^j/\a<=2^j/\(Kq n S j).head?=some x/\∀i,i<j->m<=2^i->a<=2^i->Kq n S i=[]:=by
 have Gn:∀k,ZJ n S m a k=none->∀i,i<k->m<=2^i->a<=2^i->Kq n S i=[]:=by
  intro k
  induction k with
  | zero=>intro _ i hi;omega
  | succ k ih=>
   intro hn i hi d b;rw[ZJ]at hn;split at hn
   ·cases hn
   ·rename_i hn';by_cases e:i=k
    ·subst e;rw[zC ⟨d,b⟩]at hn;simpa using hn
    ·exact ih hn' i O d b
 induction k with
 | zero=>simp[ZJ]at h
 | succ k ih=>
  rw[ZJ]at h;split at h
  ·rename_i y hy;cases h;obtain⟨j,d,b⟩:=ih hy;exact⟨j,O,b⟩
  ·rename_i hn;split at h
   ·rename_i hc;exact⟨k,O,hc.1,hc.2,h,Gn k hn⟩
   ·cases h
theorem UX {m a:Nat}:∀{k},ZJ n S m a k=none->∀i,i<k->m<=2^i->a<=2^i->Kq n S i=[]
 | 0,_,i,hi,_,_=>by omega
 | k+1,hn,i,hi,h1,h2=>by
  rw[ZJ]at hn;split at hn
  ·cases hn
  ·rename_i hn';by_cases e:i=k
   ·subst e;rw[zC ⟨h1,h2⟩]at hn;simpa using hn
   ·exact UX hn' i O h1 h2
theorem lg (hb:Bounded S n){m a x:Nat}(h:Zh n S m a=some x):x+m<=n/\∀y,x<=y->y<x+m->S y=true:=by
 obtain⟨j,_,i,_,e,_⟩:=V9 h;have b:x∈Kq n S j:=List.mem_of_head? e;obtain⟨q,rfl,d⟩:=(QT hb).1 b;have:=ZQ hb (ZE.1 d).1;exact⟨O,λy p g=>Ub d (Qb.2 O)⟩
end Go.Bu
namespace Go.Ar
open Go Go.Vc Go.Proofs
open Go.Bu (Zj QI Zh)
variable {U:Hp}{F H:Rg}{p hs:Nat}{A:AR}{sp:Sp}{Y:Lay}{T:Nat->Hp->Rg->Prop}
structure W2 (U:Hp) (F H:Rg) (Y:Lay) (A:AR) (T:Nat->Hp->Rg->Prop) (sp:Sp):Prop where
 a:dG U F Y A T
 s:dL U H Y.hs sp
 d:∀b,F b->¬H b
 g:Gl U
 o:jc F
 o2:jc H
def iN (F H:Rg):Rg:=λb=>F b\/H b
theorem W2.lP (h:W2 U F H Y A T sp){σ':Hp}{A':AR}(e:Ext F U σ')(ha:dG σ' F Y A' T):W2 σ' F H Y A' T sp:=
 ⟨ha,dM.bS dL.loc h.s e λb _ i a=>h.d b a i,h.d,h.g.bS e h.o,h.o,h.o2⟩
theorem W2.space (h:W2 U F H Y A T sp){σ':Hp}{sp':Sp}(e:Ext H U σ')(hs:dL σ' H Y.hs sp'):W2 σ' F H Y A T sp':=
 ⟨dM.bS dG.loc h.a e λb _ j i=>h.d b j i,hs,h.d,h.g.bS e h.o2,h.o,h.o2⟩
theorem W2.bO (h:W2 U F H Y A T sp){σ':Hp}(e:aG U σ'):W2 σ' F H Y A T sp:=⟨h.a.bO e,h.s.bO e,h.d,h.g.bO e,h.o,h.o2⟩
theorem W2.cut (h:W2 U F H Y A T sp):W2 U (Cut F U) (Cut H U) Y A T sp:=⟨h.a.cut,dM.cut dL.loc h.s,λb e i=>h.d b e.1 i.1,h.g,h.o.sub λb e=>e.1,h.o2.sub λb e=>e.1⟩
theorem W2.oP (h:W2 U F H Y A T sp){σ':Hp}{A':AR}(e:Ext F U σ')(ha:dG σ' (Grow F U) Y A' T):W2 σ' (Grow F U) (Cut H U) Y A' T sp:=
 ⟨ha,dM.bS dL.loc (dM.cut dL.loc h.s) e λb _ a j=>h.d b j a.1,λb a i=>by
  rcases a with a|a
  ·exact h.d b a i.1
  ·have:=i.2;omega,h.g.bS e h.o,h.o.grow h.g,h.o2.sub λb a=>a.1⟩
theorem W2.EH (h:W2 U F H Y A T sp){K:Option Addr->Prop}(hK:K (some ⟨Y.hs,0,none⟩)):fW (Addr.add ⟨Y.p,0,none⟩ 1) U K:=h.a.hd.rP rfl hK
theorem CY (st:List Nat)(a m:Nat):US st a (m+1)=iO (US st a m) ((a+m:Nat):Int):=by
 unfold US;rw[ox,zy,wU];rfl
theorem Sf {a m:Int}(h:fA sp a m≠0):fU sp a m=sp:=by unfold fU;rw[zB h]
theorem Rc {size:Nat}(h1:1<=size)(h:∀j,1<=j->j*size+size<=sp.st.length->fA sp ((j*size:Nat):Int) (size:Int)≠0):cY sp size=none:=by
 unfold cY;rw[nQ];intro x hx;obtain⟨j,d,rfl⟩:=zE.1 hx;rw[zd]at d;have b:(j+1)*size<=sp.st.length:=zY (kS size d) (yw _ _);rw[zm,Nat.one_mul]at b;by_cases h0:j=0
 ·subst h0;simp
 ·have:=h j O b;have a:(fA sp ((j*size:Nat):Int) (size:Int)==0)=false:=by simpa only[l6]using this
  rw[a,tH];simp
theorem JO {size j:Nat}(h1:1<=size)(h0:1<=j)(hf:j*size+size<=sp.st.length)(hm:fA sp ((j*size:Nat):Int) (size:Int)=0)(h:∀i,1<=i->i<j->fA sp ((i*size:Nat):Int) (size:Int)≠0):cY sp size=some (j*size):=by
 unfold cY;have m:j<sp.st.length/size:=by
  rw[Nat.lt_iff_add_one_le,Nat.le_div_iff_mul_le h1,zm,Nat.one_mul];exact hf
 have a:List.range (sp.st.length/size)=List.range j++(j::(List.range (sp.st.length/size-j-1)).map (j+1 + ·)):=by
  apply zr;intro i;rw[List.getElem?_append,xL];by_cases d:i<j
  ·rw[zC d,nM O,nM d]
  ·rw[zB d];by_cases hij:i=j
   ·subst hij;rw[qD,xM,nM m]
   ·rw[show i-j=(i-j-1)+1 by omega,AM,zg];by_cases hl:i<sp.st.length/size
    ·rw[nM hl,nM O];simp only[zZ]
     congr 1;omega
    ·rw[zW (by rw[xL];omega),zW (by rw[xL];omega)];rfl
 rw[a,zy,List.find?_append];have b:((List.range j).map (· * size)).find? (λ(s:Nat)=>s != 0&&fA sp s size==0)=none:=by
  rw[nQ];intro x hx;obtain⟨i,d,rfl⟩:=zE.1 hx;rw[zd]at d;by_cases h0:i=0
  ·subst h0;simp
  ·have:=h i O d;have g:(fA sp ((i*size:Nat):Int) (size:Int)==0)=false:=by simpa only[l6]using this
   rw[g,tH];simp
 rw[b,zR,uT];have:(j*size != 0&&fA sp ((j*size:Nat):Int) (size:Int)==0)=true:=by
  rw[hm];have p:0<j*size:=Nat.mul_pos O O;have e:j*size≠0:=by omega
  simp[e]
 rw[this];rfl
theorem Tn (h:W2 U F H Y A T sp){size:Nat}(h1:size=16\/size=32\/size=64){R:aO}(h0:UT A sp size=none->∀σ',Ext (iN F H) U σ'->W2 σ' F H Y A T sp->R false σ')
 (hR:∀A' sp',UT A sp size=some (A',sp')->∀σ',Ext (iN F H) U σ'->W2 σ' F H Y A' T sp'->R true σ'):YU.c (aW Y.p) (size:Int) U R:=by
 refine YU.o ?_;unfold YU.v;have hn2:sp.st.length<=1024:=by obtain⟨q,r,l,B,hh⟩:=h.s;exact hh.n2
 have Z:∀{a b:Hp},Ext H a b->Ext (iN F H) a b:=λe=>e.sub λb P=>.inr P;have ea:∀{a b:Hp},Ext F a b->Ext (iN F H) a b:=λe=>e.sub λb P=>.inl P;have d:∀j,j*size+size=(j+1)*size:=λj=>by rw[zm,Nat.one_mul]
 refine Qc (a:=bN) (λ(t:Int) v=>∃j:Nat,t=((j*size:Nat):Int)/\1<=j/\j*size<=1024+64/\Ext (iN F H) U v/\W2 v F H Y A T sp/\∀i,1<=i->i<j->i*size+size<=sp.st.length->fA sp ((i*size:Nat):Int) (size:Int)≠0) (λt _=>2000-t.toNat)
  ⟨1,O,zD _,O,Ext.refl _ _,h,λi h1 h2=>O⟩ ?_
 rintro t v ⟨j,rfl,hj,P,e,z,x⟩;refine cS (m:=j*size+size) O O (bK (z.EH (Dx z.s (cP (λhlt=>?_) λhge=>?_))))
 ·have hf:j*size+size<=sp.st.length:=by omega
  refine bK (z.EH (Ro z.s z.g z.o2 _ _ λv2 e2 J=>?_));refine cO (λX=>?_) λX=>?_
  ·have N:fA sp ((j*size:Nat):Int) (size:Int)≠0:=by simpa using X
   rw[Sf N]at J;refine cS (m:=(j+1)*size) (by rw[←d];omega) (by rw[←d];omega) ⟨⟨j+1,rfl,O,by rw[←d];omega,e.trans (Z e2),z.space e2 J,λi y E C=>?_⟩,by rw[←d];omega⟩;by_cases hij:i=j
   ·subst hij;exact N
   ·exact x i y O C
  ·have V:fA sp ((j*size:Nat):Int) (size:Int)=0:=by simpa using X
   have W:=z.space e2 J;have M:∀i,i<j->i*size+size<=sp.st.length:=λi hi=>by
    have:(i+1)*size<=j*size:=kS _ hi;rw[d];omega
   have G:=JO (sp:=sp) O hj hf V λi y E=>x i y E (M i E);have K:UT A sp size=some ({A with st:=US A.st (j*size/16) (size/16),S:=QI A.n A.S ((j*size:Nat):Int) size},fU sp ((j*size:Nat):Int) size):=by unfold UT;rw[G]
   have hd16:(j*size)%16=0:=by
    rcases h1 with rfl|rfl|rfl
    ·omega
    ·omega
    ·omega
   refine nz aB (cS (m:=j*size/16) (by rw[XX O];simp) O ?_);refine Qc (a:=bN) (λ(t:Int) w=>∃i:Nat,t=((j*size/16+i:Nat):Int)/\i<=size/16/\Ext (iN F H) U w/\W2 w F H Y {A with st:=US A.st (j*size/16) i} T (fU sp ((j*size:Nat):Int) size)) (λt _=>200-t.toNat)
    ⟨0,O,O,e.trans (Z e2),W⟩ ?_
   rintro t w ⟨i,rfl,hi,ew,u⟩;refine cS (m:=j*size+size) O O (nz aB (cS (m:=(j*size+size)/16) (by rw[XX O];simp) O (cP (λaa=>?_) λab=>?_)))
   ·refine bK (u.a.hd.rP rfl (u.a.AQ _ λw2 t2 L D=>?_));refine cS (m:=j*size/16+(i+1)) O O ⟨⟨i+1,rfl,O,ew.trans (ea L),?_⟩,O⟩;rw[CY];exact u.lP L D
   ·have Q:i=size/16:=by omega
    subst Q;refine bK (u.a.hd.rP rfl (u.a.wg _ _ λw2 t2 L D=>?_));exact hR _ _ K w2 (ew.trans (ea L)) (u.lP L D)
 ·have G:=Rc (sp:=sp) (size:=size) O λi y C=>by
   by_cases hij:i<j
   ·exact x i y hij C
   ·have:j*size<=i*size:=kS _ O;omega
  have K:UT A sp size=none:=by unfold UT;rw[G]
  exact h0 K v e z
theorem OL {m a:Nat}(h1:1<=m)(h2:m<=64)(ha:a=1\/a=2\/a=4\/a=8\/a=16):Go.Bu.fL (m:Int) (a:Int)=true:=by
 have b:Go.Bu.eV (a:Int)=true:=by rcases ha with rfl|rfl|rfl|rfl|rfl<;>decide
 unfold Go.Bu.fL;rw[b];simp only[u6,zF,zU];omega
theorem W2.take (h:W2 U F H Y A T sp){m a:Nat}(hok:Go.Bu.fL (m:Int) (a:Int)=true){R:Int->Int->Hp->Prop}(h0:Zh A.n A.S m a=none->∀σ',Ext F U σ'->W2 σ' F H Y A T sp->R 0 6 σ')
 (h1:∀x,Zh A.n A.S m a=some x->x+m<=A.n->∀σ',Ext F U σ'->W2 σ' F H Y {A with S:=Go.Bu.take A.S x (x+m)} T sp->R (x:Int) 0 σ'):XG.c (aW Y.fr) (m:Int) (a:Int) U R:=by
 have b:Go.Bu.Bounded A.S A.n:=by obtain⟨r,p,i,_⟩:=h.a.free;exact i.jr
 refine h.a.vM _ _ λσ' e j=>?_;have d:=h.lP e j;cases ht:Zh A.n A.S m a with
 | none=>
  have e1:Go.Bu.iP A.n A.S (m:Int) (a:Int)=6:=by unfold Go.Bu.iP;rw[hok,zC rfl];simp only[dD];rw[ht]
  have e2:Go.Bu.iX A.n A.S (m:Int) (a:Int)=0:=by unfold Go.Bu.iX;rw[hok,zC rfl];simp only[dD];rw[ht]
  have g:Go.Bu.iV A.n A.S (m:Int) (a:Int)=A.S:=by unfold Go.Bu.iV;rw[hok,zC rfl];simp only[dD];rw[ht]
  rw[e1,e2];rw[g]at d;exact h0 ht σ' e d
 | some x=>
  have e1:Go.Bu.iP A.n A.S (m:Int) (a:Int)=0:=by unfold Go.Bu.iP;rw[hok,zC rfl];simp only[dD];rw[ht]
  have e2:Go.Bu.iX A.n A.S (m:Int) (a:Int)=x:=by unfold Go.Bu.iX;rw[hok,zC rfl];simp only[dD];rw[ht]
  have g:Go.Bu.iV A.n A.S (m:Int) (a:Int)=Go.Bu.take A.S x (x+m):=by unfold Go.Bu.iV;rw[hok,zC rfl];simp only[dD];rw[ht]
  rw[e1,e2];rw[g]at d;exact h1 x ht (Go.Bu.lg b ht).1 σ' e d
theorem RU {size:Nat}{A':AR}{sp':Sp}(h:UT A sp size=some (A',sp')):A'.n=A.n:=by
 unfold UT at h;split at h
 ·cases h
 ·cases h;rfl
def Fits (U:Hp)(F H F' H':Rg):Prop:=(∀b,F' b->Grow F U b)/\∀b,H' b->H b
theorem DT (h:W2 U F H Y A T sp){m a no:Nat}(h1:1<=m)(h2:m<=64)(ha:a=1\/a=2\/a=4\/a=8\/a=16)(hn1:1<=no)(hn2:no<=1000){R:Int->Int->Hp->Prop}
 (h0:(cZ A sp m a no).1=none->∀σ',Ext (iN F H) U σ'->W2 σ' F H Y (cZ A sp m a no).2.1 T (cZ A sp m a no).2.2->R 0 6 σ')
 (hR:∀x,(cZ A sp m a no).1=some x->x+m<=A.n->∀σ' F' H',Fits U F H F' H'->Ext (iN F H) U σ'->W2 σ' F' H' Y (cZ A sp m a no).2.1 T (cZ A sp m a no).2.2->R (x:Int) 0 σ') :
 YC.c (aW Y.p) (m:Int) (a:Int) (no:Int) U R:=by
 refine YC.o ?_;unfold YC.v;have G:=OL h1 h2 ha;have es:∀{a b:Hp},Ext H a b->Ext (iN F H) a b:=λe=>e.sub λb j=>.inr j;have r:∀{a b:Hp},Ext F a b->Ext (iN F H) a b:=λe=>e.sub λb j=>.inl j;have fin:∀(v:Hp) (x:Nat) (A1:AR) (sp1:Sp),Ext (iN F H) U v->x+m<=A.n->W2 v F H Y {A1 with S:=Go.Bu.take A1.S x (x+m)} T sp1->cZ A sp m a no=(some x,dR A1 x m no,sp1) →
  bV (some ⟨Y.p,0,none⟩) λP=>fW (P.add 3) v λV=>XA.c V (x:Int) (m:Int) v λt55 u=>bV (some ⟨Y.p,0,none⟩) λaa=>fW (aa.add 4) u λQ=>X1.c Q (x:Int) (m:Int) (no:Int) u λt63 v3=>R (x:Int) 0 v3:=by
  intro v x A1 sp1 e hxm B y;have Z:x<=1000000:=by have:=h.a.lay.n2;omega
  refine bK (B.a.hd.rP rfl (B.a.RT _ _ λu t2 e2 X=>?_));have g:=B.lP e2 X;refine bK (g.a.hd.rP rfl (g.a.Set x m Z hn1 hn2 λv3 t3 e3 L=>?_));have M:=g.oP e3 L;refine hR x (by rw[y]) hxm v3 (Grow F u) (Cut H u) ⟨λb j=>?_,λb j=>j.1⟩ ((e.trans (r e2)).trans (r e3)) (by rw[y];exact M);rcases j with j|j
  ·exact .inl j
  ·exact .inr (zY (e.trans (r e2)).1 j)
 refine bK (h.a.hd.rP rfl (h.take G (λE v e B=>?_) λx E C v e B=>?_))
 ·refine Jn.intro (cC rfl ?_);have K:(if(a:Int)>(m:Int)then(a:Int)else(m:Int))=((max m a:Nat):Int):=by
   by_cases hgt:(a:Int)>(m:Int)
   ·rw[zC hgt];omega
   ·rw[zB hgt];omega
  rw[K];refine Qc (a:=bN) (λ(t:Int) w=>w=v/\(t=16\/t=32/\16<max m a\/t=64/\32<max m a)) (λt _=>100-t.toNat) ⟨rfl,.inl rfl⟩ ?_;rintro(t:Int) w ⟨rfl,hcase⟩;have ab:a<=16:=by omega
  refine cP (λhlt=>?_) λhge=>?_
  ·have:t=16\/t=32:=by omega
   rcases this with rfl|rfl
   ·exact ar O O ⟨⟨rfl,O⟩,by decide⟩
   ·exact ar O O ⟨⟨rfl,O⟩,by decide⟩
  ·have W:t=((Q4 (max m a):Nat):Int):=by
    unfold Q4;by_cases c1:max m a<=16
    ·rw[zC c1];omega
    ·rw[zB c1];by_cases c2:max m a<=32
     ·rw[zC c2];omega
     ·rw[zB c2];omega
   subst W;have N:Q4 (max m a)=16\/Q4 (max m a)=32\/Q4 (max m a)=64:=by omega
   refine Tn B N (λy σ' J s=>?_) λA' z y σ' J s=>?_
   ·have d:cZ A sp m a no=(none,A,sp):=by unfold cZ;rw[E];simp only;rw[y]
    exact cC rfl (h0 (by rw[d]) σ' ((r e).trans J) (by rw[d];exact s))
   ·refine cB rfl (bK (s.a.hd.rP rfl (s.take G (λD u e2 g=>?_) λx D C u e2 g=>?_)))
    ·have d:cZ A sp m a no=(none,A',z):=by unfold cZ;rw[E];simp only;rw[y];simp only;rw[D]
     exact cC rfl (h0 (by rw[d]) u (((r e).trans J).trans (r e2)) (by rw[d];exact g))
    ·have d:cZ A sp m a no=(some x,dR A' x m no,z):=by unfold cZ;rw[E];simp only;rw[y];simp only;rw[D]
     exact cB rfl (fin u x A' z (((r e).trans J).trans (r e2)) (by rw[←RU y];exact C) g d)
 ·have d:cZ A sp m a no=(some x,dR A x m no,sp):=by unfold cZ;rw[E]
  refine Jn.intro (cB rfl (cB rfl (fin v x A sp (r e) C B d)))
theorem Fits.refl:Fits U F H F H:=⟨λb a=>.inl a,λb a=>a⟩
theorem W2.mono {F' H':Rg}(h:W2 U F H Y A T sp)(hF:jc F')(hF2:∀b,b<U.size->F b->F' b)(hH:∀b,H' b->H b)(hH2:∀b,b<U.size->H b->H' b)(hd:∀b,F' b->¬H' b):W2 U F' H' Y A T sp:=
 ⟨h.a.mono hF2,dM.mono dL.loc h.s hH2,hd,h.g,hF,h.o2.sub hH⟩
theorem Mq (h:W2 U F H Y A T sp)(k:Int){R:aN}(hR:∀σ' F' H',Fits U F H F' H'->Ext (iN F H) U σ'->W2 σ' F' H' Y (cL A sp k).1 T (cL A sp k).2->R (KT A sp k) σ') :
 XY.c (aW Y.p) k U R:=by
 refine XY.o ?_;unfold XY.v;refine Uo h.a k (λE=>?_) λx hx Q=>?_
 ·have e1:KT A sp k=1:=by unfold KT;rw[E];rfl
  have e2:cL A sp k=(A,sp):=by unfold cL;rw[E];rfl
  have:=hR U F H Fits.refl (Ext.refl _ _) (by rw[e2];exact h);rw[e1]at this;exact cC rfl this
 ·subst hx;have E:A.ck (x:Int)=true:=by unfold AR.ck;simp;omega
  obtain⟨c,K,q,t,r,J,z,Z,_,_,N⟩:=h.a.at_ Q;have ht2:=h.a.lay.qM;obtain⟨_,_,_,V,hp4,_⟩:=N;refine cB rfl (bK (h.a.hd.rS rfl (h.a.vX (d:=1) J O ?_)));simp only[zB (show ¬(1=0) by omega),zS];refine cS (m:=x+1) O O ?_;have eE:KT A sp x=match (cZ A sp c.aF 1 (x+1)).1 with
   | some y=>GB c K y
   | none=>6:=by unfold KT;rw[E,zC rfl];simp only[dD];rw[J,z];rfl
  have X:cL A sp x=match cZ A sp c.aF 1 (x+1)with
   | (some y,A',u)=>(if GB c K y=0 then{A' with cE:=A'.cE.set x (ij c K y)}else A',u)
   | (none,A',u)=>(A',u):=by unfold cL;rw[E,zC rfl];simp only[dD];rw[J,z];rfl
  refine DT (a:=1) h V O (.inl rfl) O O (λC σ' e w=>?_) λy C hyn σ' F' H' i e w=>?_
  ·have:=hR σ' F H Fits.refl e;rw[eE,X,C]at this;generalize cZ A sp c.aF 1 (x+1)=g at *;obtain⟨g1,g2,g3⟩:=g;simp only at C;subst C;exact cC rfl (this w)
  ·have B:(cZ A sp c.aF 1 (x+1)).2.1.tb=A.tb/\(cZ A sp c.aF 1 (x+1)).2.1.cE=A.cE:=by
    unfold cZ;split
    ·exact⟨rfl,rfl⟩
    ·split
     ·exact⟨rfl,rfl⟩
     ·rename_i A1 sp1 hga;have:A1.tb=A.tb/\A1.cE=A.cE:=by
       unfold UT at hga;split at hga
       ·cases hga
       ·cases hga;exact⟨rfl,rfl⟩
      split
      ·exact this
      ·exact this
   have s:=λσ' F' H'=>hR σ' F' H';rw[eE,X]at s;generalize cZ A sp c.aF 1 (x+1)=g at *;obtain⟨g1,A',u⟩:=g;simp only at C w B s;subst C;simp only at s;have hWc:=w;obtain⟨G,L,⟨ps,hC⟩,_,D⟩:=w.a.tg Z (by rw[B.1];exact J) (by rw[B.2];exact z);have hn2:=h.a.lay.n2;refine cB rfl (bK (w.a.hd.rS rfl (w.a.l3 Z (PV hC O (λh9 v e2=>?_) λW v ps' e2 P=>?_))))
   ·have:=s v F' H' i (e.jU e2) (by rw[h9];exact w.bO e2);rw[h9]at this;exact this
   ·have S:=D v _ _ (Grow G σ') _ e2 (λb j=>j) P (HG L λb j=>j);have M:=w.oP (e2.sub L) S;have:=s v (Grow F' σ') (Cut H' σ') ⟨λb j=>?_,λb j=>i.2 b j.1⟩ (e.dW (e2.sub L) λb j=>?_) (by rw[W];exact M)
    ·rw[W]at this;exact this
    ·rcases j with j|j
     ·exact i.1 b j
     ·exact .inr (zY e.1 j)
    ·rcases i.1 b j with h1|h1
     ·exact .inl (.inl h1)
     ·exact .inr h1
theorem Gb (A:AR)(sp:Sp)(m a no:Nat):(cZ A sp m a no).2.1.tb=A.tb/\(cZ A sp m a no).2.1.cE=A.cE/\(cZ A sp m a no).2.1.cM=A.cM/\(cZ A sp m a no).2.1.room=A.room/\(cZ A sp m a no).2.1.runs=A.runs/\(cZ A sp m a no).2.1.n=A.n:=by
 unfold cZ;split
 ·exact⟨rfl,rfl,rfl,rfl,rfl,rfl⟩
 ·split
  ·exact⟨rfl,rfl,rfl,rfl,rfl,rfl⟩
  ·rename_i A1 sp1 hga;have:A1.tb=A.tb/\A1.cE=A.cE/\A1.cM=A.cM/\A1.room=A.room/\A1.runs=A.runs/\A1.n=A.n:=by
    unfold UT at hga;split at hga
    ·cases hga
    ·cases hga;exact⟨rfl,rfl,rfl,rfl,rfl,rfl⟩
   split
   ·exact this
   ·exact this
theorem OG:∀a:Nat,a<17->1<=a->((bits .and .i64 (a:Int) ((a:Int)-1) != 0) = !(a==1||(a==2||(a==4||(a==8||a==16))))):=by decide
theorem Ox (h:W2 U F H Y A T sp)(m a:Int){R:Int->Int->Hp->Prop}(hR:∀σ' F' H',Fits U F H F' H'->Ext (iN F H) U σ'->W2 σ' F' H' Y (cA A sp m a).1 T (cA A sp m a).2->R ((Z5 A sp m a:Nat):Int) (Qx A sp m a) σ') :
 WP.c (aW Y.p) m a U R:=by
 refine WP.o ?_;unfold WP.v;have K:Ks m a=false->R 0 1 U:=λu=>by
  have e1:Qx A sp m a=1:=by unfold Qx;rw[u];rfl
  have e2:cA A sp m a=(A,sp):=by unfold cA;rw[u];rfl
  have e3:Z5 A sp m a=0:=by unfold Z5;rw[u];rfl
  have:=hR U F H Fits.refl (Ext.refl _ _) (by rw[e2];exact h);rw[e1,e3]at this;exact this
 have d:¬(1<=m/\m<=64/\(a=1\/a=2\/a=4\/a=8\/a=16))->R 0 1 U:=λhn=>K (by
  rw[←qn];intro hp;unfold Ks at hp;simp at hp;omega)
 refine HB h.a (cB rfl (bW.intro (cP (λV=>bW.intro (cC rfl (bW.intro (cC rfl (bW.intro (cC rfl (cC rfl (d O)))))))) λV=>?_)));refine bW.intro (cP (λc2=>bW.intro (cC rfl (bW.intro (cC rfl (cC rfl (d O)))))) λc2=>?_);refine bW.intro (cP (λW=>bW.intro (cC rfl (cC rfl (d O)))) λW=>?_);refine bW.intro (cP (λc4=>cC rfl (d O)) λc4=>ar O O ?_);obtain⟨y,rfl⟩:=zc (show 0<=m by omega);obtain⟨z,rfl⟩:=zc (show 0<=a by omega);rw[OG z O O];refine cO (λM=>?_) λM=>?_
 ·refine d (λhh=>?_);simp at M;omega
 ·have X:z=1\/z=2\/z=4\/z=8\/z=16:=by
   simp at M;omega
  have u:Ks (y:Int) (z:Int)=true:=by
   unfold Ks;simp;omega
  have S:Qx A sp y z=if(cZ A sp y z 41).1.isSome then 0 else 6:=by unfold Qx;rw[u,zC rfl];rfl
  have P:Z5 A sp y z=(cZ A sp y z 41).1.getD 0:=by unfold Z5;rw[u,zC rfl];rfl
  have N:cA A sp y z=match cZ A sp y z 41 with
   | (some x,A',j)=>({A' with runs:=cA.mset2 A'.runs x y},j)
   | (none,A',j)=>(A',j):=by unfold cA;rw[u,zC rfl];rfl
  refine DT (no:=41) h O O X O O (λw σ' e B=>?_) λx w hyn σ' F' H' s e B=>?_
  ·have:=hR σ' F H Fits.refl e;rw[S,N,P,w]at this;generalize cZ A sp y z 41=g at *;obtain⟨g1,g2,g3⟩:=g;simp only at w;subst w;exact cC rfl (this B)
  ·have r:=λσ' F' H'=>hR σ' F' H';rw[S,N,P]at r;generalize cZ A sp y z 41=g at *;obtain⟨g1,A',j⟩:=g;simp only at w B r;subst w;simp only at r;obtain⟨Z,hm,D⟩:=B.a.ru;refine cB rfl (bK (B.a.hd.rM rfl ⟨_,_,rfl,hm,λv Q E=>?_⟩));have C:dH v Y.rn .i64 bN (dA (iL A'.runs) (x:Int) (y:Int)):=E;rw[JM]at C;have L:=D v _ Q C;have e2:Ext F' σ' v:=Q.ext.sub λb J=>by subst J;exact Z
   have G:=B.lP e2 L;exact r v F' H' s (e.dW e2 λb J=>by
    rcases s.1 b J with h1|h1
    ·exact .inl (.inl h1)
    ·exact .inr h1) G
end Go.Ar
namespace Go.Proofs
open Go.Vc
set_option maxRecDepth 100000
end Go.Proofs
namespace Go.Ar
open Go Go.Vc Go.Proofs
variable {U:Hp}{Q:Rg}{key:Nat->Nat}
end Go.Ar
namespace Go.Ar
open Go Go.Vc Go.Proofs
variable {U:Hp}{F:Rg}{p q:Nat}{st:List Nat}
end Go.Ar
namespace Go.Ar
open Go Go.Vc Go.Proofs
open Go.Bu (Zj QI Zh)
variable {U:Hp}{F H:Rg}{p hs:Nat}{A:AR}{sp:Sp}{Y:Lay}{T:Nat->Hp->Rg->Prop}
theorem dG.cM (h:dG U F Y A (cK A Y)){k q:Nat}{c:bZ}{t:gI}(h1:Y.fY[k]?=some q)(h2:A.tb[k]?=some c)(h3:A.cM[k]?=some t):∃G:Rg,(∀b,G b->F b)/\jq U G q c.batch A.room t:=by
 obtain⟨G,d,a,_⟩:=h.sI h1 h2 h3;exact⟨G,d,a⟩
def part {α:Type}(f:bZ->α->Nat)(tb:List bZ)(l:List α)(i:Nat):Nat:=(((tb.zip l).take i).map λx=>f x.1 x.2).sum
end Go.Ar
namespace Go.Ar
open Go Go.Vc Go.Proofs
variable {U:Hp}
theorem Dw:∀(xs:List (Int×Int×Int)),uD xs=true↔∀(i:Nat) a b,xs[i]?=some a->xs[i+1]?=some b->a.1<b.1
 | []=>by simp[uD]
 | [x]=>by simp[uD]
 | x::y::l=>by
  have ih:=Dw (y::l);show(decide (x.1<y.1)&&uD (y::l))=true↔_;rw[zF,ih,zU];constructor
  ·rintro⟨h1,h2⟩ i a b e d;cases i with
   | zero=>simp at e d;subst e;subst d;exact h1
   | succ i=>exact h2 i a b (by simpa using e) (by simpa using d)
  ·intro h;exact⟨h 0 x y rfl rfl,λi a b e d=>h (i+1) a b (by simpa using e) (by simpa using d)⟩
theorem Qk (xs:List (Int×Int×Int)):Qp xs=true↔1<=xs.length/\xs.length<=40/\(∀(i:Nat) t,xs[i]?=some t->Us t.1 t.2.1 t.2.2=true)/\∀(i:Nat) a b,xs[i]?=some a->xs[i+1]?=some b->a.1<b.1:=by
 unfold Qp;simp only[zF,zU,Dw,ke];constructor
 ·rintro⟨h1,h2,h3,h4⟩;exact⟨h1,h2,λi t d=>h3 t (zG d),h4⟩
 ·rintro⟨h1,h2,h3,h4⟩;exact⟨h1,h2,λt d=>by obtain⟨i,e⟩:=zQ d;exact h3 i t e,h4⟩
theorem GW {s:Sl}{xs:List (Int×Int×Int)}(ha:ig U s xs){R:aO}(hR:∀σ',aG U σ'->R (Qp xs) σ'):ZD.c s U R:=by
 refine ZD.o ?_;unfold ZD.v;have N:∀σ',aG U σ'->¬(1<=xs.length/\xs.length<=40/\(∀(i:Nat) t,xs[i]?=some t->Us t.1 t.2.1 t.2.2=true)/\∀(i:Nat) a b,xs[i]?=some a->xs[i+1]?=some b->a.1<b.1)->R false σ':=λσ' e hn=>by
  have:=hR σ' e;have hf:Qp xs=false:=by rw[←qn,Qk];exact hn
  rw[hf]at this;exact this
 have Z:=ha.1;refine bW.intro (cP (λc1=>cC rfl (N U (Ext.refl _ _) λh=>O)) λc1=>?_);refine cP (λc2=>N U (Ext.refl _ _) λh=>O) λc2=>?_;refine Qc (a:=bN) (λ(t:Int) v=>∃i:Nat,t=(i:Int)/\i<=xs.length/\aG U v/\(∀(j:Nat) t,j<i->xs[j]?=some t->Us t.1 t.2.1 t.2.2=true)/\∀(j:Nat) a b,j+1<i->xs[j]?=some a->xs[j+1]?=some b->a.1<b.1) (λt _=>xs.length-t.toNat)
  ⟨0,rfl,O,Ext.refl _ _,λj t h=>O,λj a b h=>O⟩ ?_
 rintro t v ⟨i,rfl,V,e,X,W⟩;have L:=Z0 ha e;refine cP (λhlt=>?_) λhge=>?_
 ·have S:i<xs.length:=by omega
  have B:xs[i]?=some xs[i]:=cU S;generalize xs[i]=r at B;obtain⟨x,y,z⟩:=r;refine xz L B ?_;refine nw (cs:=[.int .i64 0,.int .i64 0,.int .i64 0]) λv2 hz2 e2 b2=>b2.s1 aA λv3 o3 b3=>b3.s1 aA λv4 o4 b4=>b4.s1 aA λv5 o5 J=>?_;have e5:aG v v5:=Ext.fresh (Ext.fresh (Ext.fresh e2 o3.ext λi V=>O) o4.ext λi V=>O) o5.ext λi V=>by omega
  refine Jn.intro ⟨(· = v5),rfl,⟨x,λm G=>by rw[G,add_lit,J.cell];rfl,⟨y,λm G=>by rw[G,add_lit,J.cell];rfl,⟨z,λm G=>by rw[G,add_lit,J.cell];rfl,?_⟩⟩⟩⟩;refine Ij x y z λv7 Y=>?_;have w:=(Ext.trans e e5).trans Y;have E:(Us x y z=false\/∃a,0<i/\xs[i-1]?=some a/\x<=a.1)->R false v7:=λM=>N v7 w λH=>by
   rcases M with M|⟨a,K,hb1,hb2⟩
   ·have:=H.2.2.1 i _ B;simp only at this;rw[M]at this;cases this
   ·have:=H.2.2.2 (i-1) a (x,y,z) hb1 (by rw[show i-1+1=i by omega];exact B);simp only at this;omega
  cases hc:Us x y z
  ·exact cC rfl (cC rfl (E (.inl hc)))
  ·have next:(∀a,0<i->xs[i-1]?=some a->a.1<x)->Ar .i64 ((i:Int)+1) λg=>(∃i:Nat,g=(i:Int)/\i<=xs.length/\aG U v7/\(∀(j:Nat) t,j<i->xs[j]?=some t->Us t.1 t.2.1 t.2.2=true)/\∀(j:Nat) a b,j+1<i->xs[j]?=some a->xs[j+1]?=some b->a.1<b.1)/\xs.length-g.toNat<xs.length-(i:Int).toNat:=by
    intro K;refine cS (m:=i+1) O O ⟨⟨i+1,rfl,O,w,λj t hj A=>?_,λj a b hj u d=>?_⟩,O⟩
    ·by_cases hji:j=i
     ·subst hji;rw[B]at A;cases A;exact hc
     ·exact X j t O A
    ·by_cases hji:j+1=i
     ·subst hji;rw[B]at d;cases d;exact K a O u
     ·exact W j a b O u d
   refine cB rfl (cP (λK=>?_) λK=>cB rfl (next λa kM=>O))
   have p:xs[i-1]?=some (xs[i-1]' O):=cU _;generalize xs[i-1]' O=r at p;obtain⟨P,y',z'⟩:=r;have F:=Z0 ha w;obtain⟨b,o,g1,g2,g3,g4,g5⟩:=F.2 (i-1) P y' z' p;have b7:=Y.bT J id;refine cS (m:=i-1) O O ?_;rw[g1];refine ix O O ?_;have D:cell v7 ⟨b,o+(((i-1:Nat):Int)).toNat*3+0,none⟩=some (.int .i64 P):=by simpa using g3
   have fin:If (decide (x<=P)) (R false v7) (Ar .i64 ((i:Int)+1) λg=>(∃i:Nat,g=(i:Int)/\i<=xs.length/\aG U v7/\(∀(j:Nat) t,j<i->xs[j]?=some t->Us t.1 t.2.1 t.2.2=true)/\∀(j:Nat) a b,j+1<i->xs[j]?=some a->xs[j+1]?=some b->a.1<b.1)/\xs.length-g.toNat<xs.length-(i:Int).toNat):=by
    refine cP (λQ=>E (.inr ⟨_,O,p,Q⟩)) λhgt=>next λa _ C=>?_
    rw[p]at C;cases C;simp only;omega
   rw[add_lit b o];exact⟨b7.rI rfl (fE D fin),fE D (b7.rI rfl fin)⟩
 ·have:i=xs.length:=by omega
  subst this;have H:Qp xs=true:=(Qk xs).2 ⟨O,O,λi t A=>X i t (cX.1 A).1 A,λi a b u d=>W i a b (cX.1 d).1 u d⟩;have:=hR v e;rw[H]at this;exact this
end Go.Ar
namespace Go.Ar
open Go Go.Vc Go.Proofs
open Go.Bu (Zj QI Zh)
variable {U:Hp}{F H:Rg}{p hs:Nat}{A:AR}{sp:Sp}{Y:Lay}{T:Nat->Hp->Rg->Prop}
open Classical in
theorem _root_.Go.Vc.Sep.put {L:Type}{C C':L->Hp->Rg->Prop}{U:Hp}{F G:Rg}(hC:∀i,dM (C i))(h:Sep C U F)(i:L)(hd:∀b,G b->¬F b)(hj:∀j,j≠i->C' j=C j)(hi:C' i U G)(hL:dM (C' i)):Sep C' U λb=>F b\/G b:=by
 obtain⟨ρ,h⟩:=h;refine⟨λb=>if G b then i else ρ b,λj=>?_⟩
 by_cases hji:j=i
 ·subst hji;exact hL.mono hi λb _ d=>⟨.inr d,zC d⟩
 ·rw[hj j hji];refine(hC j).mono (h j) λb _ a=>⟨.inl a.1,?_⟩;show(if G b then i else ρ b)=j
  rw[zB λe=>hd b e a.1];exact a.2
def fZ (A:AR)(Y:Lay)(T:Nat->Hp->Rg->Prop)(cs:List Value):Lb->Hp->Rg->Prop
 | .hd=>iz Y.p cs
 | i=>AC A Y T i
theorem fZ.loc {cs:List Value}(hT:∀k,dM (T k)):∀i,dM (fZ A Y T cs i)
 | .hd=>iz.loc _ _
 | .dE=>AC.loc (A:=A) (Y:=Y) hT .dE
 | .free=>AC.loc (A:=A) (Y:=Y) hT .free
 | .nV=>AC.loc (A:=A) (Y:=Y) hT .nV
 | .own=>AC.loc (A:=A) (Y:=Y) hT .own
 | .dP=>AC.loc (A:=A) (Y:=Y) hT .dP
 | .cN=>AC.loc (A:=A) (Y:=Y) hT .cN
 | .runs=>AC.loc (A:=A) (Y:=Y) hT .runs
 | .cE k=>AC.loc (A:=A) (Y:=Y) hT (.cE k)
 | .cM k=>AC.loc (A:=A) (Y:=Y) hT (.cM k)
theorem SP:fZ A Y T (kO Y)=AC A Y T:=by
 funext i;cases i<;>rfl
theorem Ii {cs:List Value}(hT:∀k,dM (T k))(h:Sep (fZ A Y T cs) U F)(hlen:A.cE.length<=Y.fI.length)(hl:Y.fI.length<=40){vb cp ty:Nat}(hb:bY U vb [.pointer (some ⟨cp,0,none⟩)])(hvb:¬F vb){K:Sl->Hp->Prop}
 (hK:∀s' σ',Ext F U σ'->Sep (fZ A {Y with dP:=s',fI:=Y.fI++[cp]} T cs) σ' (Grow F U)->K s' σ'):App Y.dP 1 8 ty [.pointer none] ⟨some ⟨vb,0,none⟩,1,1⟩ U K:=by
 obtain⟨G,g,d,_,a⟩:=h.jX (fZ.loc hT) .dP;have d:bR Y.dP 1 (fK Y.fI) U G:=d;have p:Y.dP.len=Y.fI.length:=by have:=d.1;simp[fK]at this;omega
 refine d.app (ys:=[.pointer (some ⟨cp,0,none⟩)]) rfl rfl ?_ (by simp[dO]) aC aC mU λs' σ' r e m=>hK s' σ' (e.sub g) ?_
 ·intro j u hu;rw[add_lit,zH,hb.cell];exact hu
 refine(Sep.loc (fZ.loc hT)).mono (a σ' (fZ A {Y with dP:=s',fI:=Y.fI++[cp]} T cs) (Grow G U) (λj i=>?_) e (λb hb=>hb) ?_ (fZ.loc hT _)) λb _ hb=>HG g (λb hb=>hb) b hb
 ·cases j<;>first|rfl|exact absurd rfl i|skip
  rename_i k;show jR (Y.fI++[cp])[k]? A.tb[k]? A.cE[k]?=jR Y.fI[k]? A.tb[k]? A.cE[k]?;rcases kE k Y.fI.length with h1|h1
  ·rw[zh h1]
  ·have:A.cE[k]?=none:=zW O;rw[this]
   funext U F
   unfold jR;cases(Y.fI++[cp])[k]?<;>cases Y.fI[k]?<;>cases A.tb[k]?<;>rfl
 ·show bR s' 1 (fK (Y.fI++[cp])) σ' (Grow G U);have:fK (Y.fI++[cp])=fK Y.fI++[.pointer (some ⟨cp,0,none⟩)]:=by simp[fK]
  rw[this];exact m
theorem Mc (hlen:A.cM.length<=Y.fY.length)(tp:Nat)(s':Sl):cK A {Y with cN:=s',fY:=Y.fY++[tp]}=cK A Y:=by
 funext k
 unfold cK;simp only;rcases kE k Y.fY.length with h1|h1
 ·rw[zh h1]
 ·have:A.cM[k]?=none:=zW O;rw[this]
  funext U F
  unfold k9;cases(Y.fY++[tp])[k]?<;>cases Y.fY[k]?<;>cases A.tb[k]?<;>rfl
theorem Fu {cs:List Value}(h:Sep (fZ A Y (cK A Y) cs) U F)(hlen:A.cM.length<=Y.fY.length)(hl:Y.fY.length<=40){vb tp ty:Nat}(hb:bY U vb [.pointer (some ⟨tp,0,none⟩)])(hvb:¬F vb){K:Sl->Hp->Prop}
 (hK:∀s' σ',Ext F U σ'->Sep (fZ A {Y with cN:=s',fY:=Y.fY++[tp]} (cK A {Y with cN:=s',fY:=Y.fY++[tp]}) cs) σ' (Grow F U)->K s' σ'):App Y.cN 1 8 ty [.pointer none] ⟨some ⟨vb,0,none⟩,1,1⟩ U K:=by
 have g:∀k,dM (cK A Y k):=λk=>cK.loc k;obtain⟨G,i,d,_,a⟩:=h.jX (fZ.loc g) .cN;have d:bR Y.cN 1 (fK Y.fY) U G:=d;have r:Y.cN.len=Y.fY.length:=by have:=d.1;simp[fK]at this;omega
 refine d.app (ys:=[.pointer (some ⟨tp,0,none⟩)]) rfl rfl ?_ (by simp[dO]) aC aC mU λs' σ' s e p=>hK s' σ' (e.sub i) ?_
 ·intro j u hu;rw[add_lit,zH,hb.cell];exact hu
 rw[Mc hlen];refine(Sep.loc (fZ.loc g)).mono (a σ' (fZ A {Y with cN:=s',fY:=Y.fY++[tp]} (cK A Y) cs) (Grow G U) (λj m=>?_) e (λb hb=>hb) ?_ (fZ.loc g _)) λb _ hb=>HG i (λb hb=>hb) b hb
 ·cases j<;>first|rfl|exact absurd rfl m
 ·show bR s' 1 (fK (Y.fY++[tp])) σ' (Grow G U);have:fK (Y.fY++[tp])=fK Y.fY++[.pointer (some ⟨tp,0,none⟩)]:=by simp[fK]
  rw[this];exact p
theorem Ed {cs:List Value}(hT:∀k,dM (T k))(h:Sep (fZ A Y T cs) U F){i:Nat}{v:Value}(hi:i<cs.length){K:aP}(hK:∀σ',Ext F U σ'->Sep (fZ A Y T (cs.set i v)) σ' F->K σ'):dU (Addr.add ⟨Y.p,0,none⟩ i) v U K:=by
 obtain⟨G,g,d,_,e⟩:=h.jX (fZ.loc hT) .hd;have d:iz Y.p cs U G:=d;refine d.2.s1 O λσ' o b=>hK σ' (o.ext.sub λb a=>by subst a;exact g _ d.1) ?_;rw[zH]at b;refine(Sep.loc (fZ.loc hT)).mono (e σ' (fZ A Y T (cs.set i v)) G (λj m=>?_) (o.ext.sub λb a=>by subst a;exact d.1) (λb a=>.inl a) ⟨d.1,b⟩ (fZ.loc hT _)) λb _ a=>yH g (λb a=>a) b a;cases j<;>first|rfl|exact absurd rfl m
theorem my {cs:List Value}(h:Sep (fZ A Y T cs) U F):bY U Y.p cs/\F Y.p:=by
 obtain⟨G,b,a,d⟩:=h.get .hd;exact⟨d,b _ a⟩
theorem Nq {cs:List Value}{i cp tp:Nat}{c:bZ}{ss:List cF}{t:gI}{ps:List (Nat×Nat)}{Gc Gt:Rg}(h:Sep (fZ A Y (cK A Y) cs) U F)(hlc:A.cE.length=i)(hlt:A.cM.length=i)(hcp:Y.fI[i]?=some cp)(htp:Y.fY[i]?=some tp)(hc:A.tb[i]?=some c)
 (hC:fC U Gc cp c ps ss) (hTf:jq U Gt tp c.batch A.room t) (d1:∀b,Gc b->¬F b) (d2:∀b,Gt b->¬F b) (d3:∀b,Gc b->¬Gt b) :
 Sep (fZ {A with cE:=A.cE++[ss],cM:=A.cM++[t]} Y (cK {A with cE:=A.cE++[ss],cM:=A.cM++[t]} Y) cs) U λb=>(F b\/Gc b)\/Gt b:=by
 have d:∀k,dM (cK A Y k):=λk=>cK.loc k;have u:Sep (fZ {A with cE:=A.cE++[ss]} Y (cK A Y) cs) U λb=>F b\/Gc b:=by
  refine h.put (fZ.loc d) (.cE i) d1 (λj m=>?_) ?_ (fZ.loc d _)
  ·cases j<;>first|rfl|skip
   rename_i k;have p:k≠i:=λe=>m (by rw[e]);show jR Y.fI[k]? A.tb[k]? (A.cE++[ss])[k]?=jR Y.fI[k]? A.tb[k]? A.cE[k]?;rcases kE k i with h2|h2
   ·rw[zh O]
   ·have g:(A.cE++[ss])[k]?=none:=zW (by rw[zO,Am];omega);have r:A.cE[k]?=none:=zW O;rw[g,r]
  ·show jR Y.fI[i]? A.tb[i]? (A.cE++[ss])[i]? U Gc;rw[hcp,hc,zt O,hlc,qD];exact⟨ps,hC⟩
 refine u.put (fZ.loc d) (.cM i) (λb s a=>?_) (λj m=>?_) ?_ (fZ.loc (λk=>cK.loc k) _)
 ·rcases a with a|a
  ·exact d2 b s a
  ·exact d3 b a s
 ·cases j<;>first|rfl|skip
  rename_i k;have p:k≠i:=λe=>m (by rw[e]);show k9 Y.fY[k]? A.tb[k]? A.room (A.cM++[t])[k]?=k9 Y.fY[k]? A.tb[k]? A.room A.cM[k]?;rcases kE k i with h2|h2
  ·rw[zh O]
  ·have g:(A.cM++[t])[k]?=none:=zW (by rw[zO,Am];omega);have r:A.cM[k]?=none:=zW O;rw[g,r]
 ·show k9 Y.fY[i]? A.tb[i]? A.room (A.cM++[t])[i]? U Gt;rw[htp,hc,zt O,hlt,qD];exact hTf
open Classical in
noncomputable def jB {L:Type}(C:L->Hp->Rg->Prop)(S:L->Prop)(i:L):Hp->Rg->Prop:=if S i then C i else yi
theorem jB.loc {L:Type}{C:L->Hp->Rg->Prop}{S:L->Prop}(hC:∀i,dM (C i))(i:L):dM (jB C S i):=by
 unfold jB;split
 ·exact hC i
 ·exact yi.loc
theorem jB.put {L:Type}{C:L->Hp->Rg->Prop}{S:L->Prop}{F G:Rg}(hC:∀i,dM (C i))(h:Sep (jB C S) U F)(i:L)(hd:∀b,G b->¬F b)(hi:C i U G):Sep (jB C λj=>S j\/j=i) U λb=>F b\/G b:=by
 refine h.put (jB.loc hC) i hd (λj a=>?_) ?_ (jB.loc hC i)
 ·unfold jB;by_cases hS:S j
  ·rw[zC (.inl hS),zC hS]
  ·rw[zB (λh=>hS (h.resolve_right a)),zB hS]
 ·unfold jB;rw[zC (.inr rfl)];exact hi
theorem jB.all {L:Type}{C:L->Hp->Rg->Prop}{S:L->Prop}{F:Rg}(h:Sep (jB C S) U F)(hS:∀i,S i):Sep C U F:=by
 have:jB C S=C:=by
  funext i;unfold jB;rw[zC (hS i)]
 rw[this]at h;exact h
theorem jB.one {L:Type}{C:L->Hp->Rg->Prop}(S:L->Prop)(l:L)(h:∀i,S i->C i U λ_=>False):Sep (jB C S) U λ_=>False:=by
 refine⟨λ_=>l,λi=>?_⟩;have:(λ(b:Nat)=>False/\l=i)=λ_=>False:=by funext b;simp
 rw[this];unfold jB;by_cases hS:S i
 ·rw[zC hS];exact h i hS
 ·rw[zB hS];trivial
theorem NX {tb:List bZ}:∀v∈gA tb,dO v=true:=by
 intro v hv;simp only[gA,List.mem_flatMap]at hv;obtain⟨c,_,a⟩:=hv;simp at a;rcases a with rfl|rfl|rfl<;>rfl
theorem Hx {s:Sl}{xs:List (Int×Int×Int)}(ha:ig U s xs)(hv:Qp xs=true){i:Nat}{c:bZ}(hc:(xs.map Z9)[i]?=some c):xs[i]?=some ((c.size:Int),(c.aF:Int),(c.batch:Int))/\c.ok:=by
 rw[zg,oT]at hc;obtain⟨⟨x,y,z⟩,b,rfl⟩:=hc;obtain⟨c,a,j,g,e,d⟩:=GU (((Qk xs).1 hv).2.2.1 i _ b);simp only at g e d;rw[j,b,g,e,d];exact⟨rfl,a⟩
theorem V1 {s:Sl}{xs:List (Int×Int×Int)}(ha:ig U s xs)(hv:Qp xs=true){R:Sl->Hp->Prop}(hR:∀s' σ',aG U σ'->cT s' 3 (gA (xs.map Z9)) σ' (λb=>U.size<=b)->R s' σ'):Wi.c s U R:=by
 refine Wi.o ?_;unfold Wi.v;have C:=(Qk xs).1 hv;have y:=ha.1;have r:0<(xs.map Z9).length:=by rw[zl];omega
 have B:(xs.map Z9)[0]?=some (xs.map Z9)[0]:=cU r;obtain⟨L,d,a,_⟩:=ha.2 0 _ _ _ (Hx ha hv B).1;refine cB (by rw[a];rfl) (nw (cs:=[]) λv K e1 E=>?_);have p:=Z0 ha e1;refine(bR.nil v (λb=>U.size<=b) 3 (some ⟨U.size,0,none⟩)).app (ys:=gA (xs.map Z9)) rfl (by rw[Ua,zl];omega) ?_ NX aC aC O λs' D J H g=>hR s' D (Ext.fresh e1 H λi w=>w) ?_
 ·rw[a];intro j u hu;have m:=(cX.1 hu).1;rw[Ua,zl]at m;have w:j/3<(xs.map Z9).length:=by rw[zl];omega
  have x:(xs.map Z9)[j/3]?=some (xs.map Z9)[j/3]:=cU w;generalize (xs.map Z9)[j/3]=c at x;have e:=GR x;obtain⟨b,o,z,_,F,G,A⟩:=p.2 (j/3) _ _ _ (Hx ha hv x).1;rw[a]at z;cases z;rw[add_lit];rcases(by omega:j=3*(j/3)\/j=3*(j/3)+1\/j=3*(j/3)+2)with hj|hj|hj
  ·rw[hj]at hu;rw[e.1]at hu;cases hu;rw[show d+j=d+j/3*3 by omega];exact F
  ·rw[hj]at hu;rw[e.2.1]at hu;cases hu;rw[show d+j=d+j/3*3+1 by omega];exact G
  ·rw[hj]at hu;rw[e.2.2]at hu;cases hu;rw[show d+j=d+j/3*3+2 by omega];exact A
 ·rw[tW]at g;refine aH.mono g.fX λb _ e=>?_;rcases e with h|h
  ·exact h
  ·omega
def fB (n room:Nat)(tb:List bZ):AR:={n:=n,room:=room,tb:=tb,S:=Go.Bu.iy,st:=List.replicate n 0,ow:=λ_=>0,cE:=List.replicate tb.length [],cM:=List.replicate tb.length ⟨0,[]⟩,runs:=[]}
def jh (n room:Nat)(tb:List bZ)(i:Nat):AR:={fB n room tb with cE:=List.replicate i [],cM:=List.replicate i ⟨0,[]⟩}
def k5 (xs:List (Int×Int×Int))(n:Nat)(room:Int):Int:=if Qp xs then(if 32<=n/\n%16=0/\0<=room/\room<=8 then 0 else 1)else 2
def S0:Lb->Prop
 | .dP | .cN | .cE _ | .cM _=>True
 | _=>False
theorem IN {i cp tp:Nat}{c:bZ}{ss:List cF}{t:gI}{ps:List (Nat×Nat)}{Gc Gt:Rg}{dP cN:Sl}(hpos:Y.fI.length=i/\Y.fY.length=i)
 (h:Sep (fZ A {Y with dP:=dP,cN:=cN,fI:=Y.fI++[cp],fY:=Y.fY++[tp]} (cK A {Y with dP:=dP,cN:=cN,fI:=Y.fI++[cp],fY:=Y.fY++[tp]}) (kO Y)) U F)
 (hlc:A.cE.length=i) (hlt:A.cM.length=i) (hc:A.tb[i]?=some c) (hC:fC U Gc cp c ps ss) (hTf:jq U Gt tp c.batch A.room t) (d1:∀b,Gc b->¬F b) (d2:∀b,Gt b->¬F b) (d3:∀b,Gc b->¬Gt b) {K:aP}
 (hK:∀σ' Y',Ext F U σ'->Y'.p=Y.p->Y'.hs=Y.hs->Y'.fI.length=i+1->Y'.fY.length=i+1->Sep (fZ {A with cE:=A.cE++[ss],cM:=A.cM++[t]} Y' (cK {A with cE:=A.cE++[ss],cM:=A.cM++[t]} Y') (kO Y')) σ' (λb=>(F b\/Gc b)\/Gt b)->K σ') :
 bV (some ⟨Y.p,0,none⟩) λa93=>dU (a93.add 5) (.slice dP.a dP.len dP.cap) U λv25=>bV (some ⟨Y.p,0,none⟩) λa95=>dU (a95.add 6) (.slice cN.a cN.len cN.cap) v25 K:=by
 have m:∀k,dM (cK A {Y with dP:=dP,cN:=cN,fI:=Y.fI++[cp],fY:=Y.fY++[tp]} k):=λk=>cK.loc k;refine bK (Ed (Y:={Y with dP:=dP,cN:=cN,fI:=Y.fI++[cp],fY:=Y.fY++[tp]}) m h (i:=5) (by simp[kO]) λx e1 w=>bK (Ed (Y:={Y with dP:=dP,cN:=cN,fI:=Y.fI++[cp],fY:=Y.fY++[tp]}) m w (i:=6) (by simp[kO]) λs e2 u=>?_));have g:=(fC.loc (c:=c) (ps:=ps) (ss:=ss) (p:=cp)).bS ((fC.loc (c:=c) (ps:=ps) (ss:=ss) (p:=cp)).bS hC e1 λb _ e d=>d1 b e d) e2 λb _ e d=>d1 b e d;have j:=(jq.loc (p:=tp) (batch:=c.batch) (room:=A.room) (t:=t)).bS ((jq.loc (p:=tp) (batch:=c.batch) (room:=A.room) (t:=t)).bS hTf e1 λb _ e d=>d2 b e d) e2 λb _ e d=>d2 b e d;have r:=Nq (cp:=cp) (tp:=tp) u hlc hlt (by simp only;rw[zt O,hpos.1,qD];rfl) (by simp only;rw[zt O,hpos.2,qD];rfl) hc g j d1 d2 d3;exact hK s {Y with dP:=dP,cN:=cN,fI:=Y.fI++[cp],fY:=Y.fY++[tp]} (e1.trans e2) rfl rfl (by simp[hpos.1]) (by simp[hpos.2]) r
theorem q9 {cs:List Value}{σ':Hp}(hT:∀k,dM (T k))(h:Sep (fZ A Y T cs) U F)(e:aG U σ'):Sep (fZ A Y T cs) σ' F:=(Sep.loc (fZ.loc hT)).bO h e
theorem EC {cs:List Value}(hT:∀k,dM (T k))(h:Sep (fZ A Y T cs) U F):Sep (fZ A Y T cs) U (Cut F U):=(Sep.loc (fZ.loc hT)).cut h
theorem OR (n room:Nat)(tb:List bZ)(i:Nat):({jh n room tb i with cE:=(jh n room tb i).cE++[[]],cM:=(jh n room tb i).cM++[⟨0,[]⟩]}:AR)=jh n room tb (i+1):=by
 unfold jh;simp only[←Cc]
theorem Rh (n room:Nat)(tb:List bZ):jh n room tb tb.length=fB n room tb:=rfl
theorem OW {i cp tp:Nat}{c:bZ}{ss:List cF}{t:gI}{ps:List (Nat×Nat)}{Gc Gt:Rg}{z:Nat}(hF:∀b,F b->z<=b/\b<U.size)(hpos:Y.fI.length=i/\Y.fY.length=i)(hi:i<40)
 (h:Sep (fZ A Y (cK A Y) (kO Y)) U F) (hlc:A.cE.length=i) (hlt:A.cM.length=i) (hc:A.tb[i]?=some c) (hC:fC U Gc cp c ps ss) (hTf:jq U Gt tp c.batch A.room t) (d1:∀b,Gc b->¬F b/\z<=b/\b<U.size) (d2:∀b,Gt b->¬F b/\z<=b/\b<U.size) (d3:∀b,Gc b->¬Gt b) {J4:aP}
 (hK:∀σ' Y',Ext F U σ'->Y'.p=Y.p->Y'.hs=Y.hs->Y'.fI.length=i+1->Y'.fY.length=i+1->Sep (fZ {A with cE:=A.cE++[ss],cM:=A.cM++[t]} Y' (cK {A with cE:=A.cE++[ss],cM:=A.cM++[t]} Y') (kO Y')) σ' (λb=>z<=b)->J4 σ') :
 dY U λS=>bV (some ⟨Y.p,0,none⟩) λa80=>gG S .s (a80.add 5) λ(t82:Sl)=>bV (some ⟨Y.p,0,none⟩) λa87=>gG S .s (a87.add 6) λ(t89:Sl)=>
  (Nw (.cells #[.pointer (some ⟨cp,0,none⟩)] 182 (0,0)) U λn84 v21=>And (S v21) <|
   (App t82 1 8 182 [.pointer none] ⟨some n84,1,1⟩ v21 λt85 v22=>And (S v22)<|Nw (.cells #[.pointer (some ⟨tp,0,none⟩)] 184 (0,0)) v22 λn91 v23=>And (S v23)<|App t89 1 8 184 [.pointer none] ⟨some n91,1,1⟩ v23 λt92 v24=>And (S v24) <|
   bV (some ⟨Y.p,0,none⟩) λa93=>dU (a93.add 5) (.slice t85.a t85.len t85.cap) v24 λv25=>bV (some ⟨Y.p,0,none⟩) λa95=>dU (a95.add 6) (.slice t92.a t92.len t92.cap) v25 λv26=>J4 v26) ∧
   (Nw (.cells #[.pointer (some ⟨tp,0,none⟩)] 184 (0,0)) v21 λn911 v27=>And (S v27)<|App t82 1 8 182 [.pointer none] ⟨some n84,1,1⟩ v27 λt851 v28=>And (S v28)<|App t89 1 8 184 [.pointer none] ⟨some n911,1,1⟩ v28 λt921 v29=>And (S v29) <|
   bV (some ⟨Y.p,0,none⟩) λa931=>dU (a931.add 5) (.slice t851.a t851.len t851.cap) v29 λv30=>bV (some ⟨Y.p,0,none⟩) λa951=>dU (a951.add 6) (.slice t921.a t921.len t921.cap) v30 λv31=>J4 v31)) ∧
  (Nw (.cells #[.pointer (some ⟨tp,0,none⟩)] 184 (0,0)) U λn912 v32=>And (S v32)<|Nw (.cells #[.pointer (some ⟨cp,0,none⟩)] 182 (0,0)) v32 λn841 v33=>And (S v33) <|
  App t82 1 8 182 [.pointer none] ⟨some n841,1,1⟩ v33 λt852 v34=>And (S v34)<|App t89 1 8 184 [.pointer none] ⟨some n912,1,1⟩ v34 λt922 v35=>And (S v35) <|
  bV (some ⟨Y.p,0,none⟩) λa932=>dU (a932.add 5) (.slice t852.a t852.len t852.cap) v35 λv36=>bV (some ⟨Y.p,0,none⟩) λa952=>dU (a952.add 6) (.slice t922.a t922.len t922.cap) v36 λv37=>J4 v37):=by
 have G:∀k,dM (cK A Y k):=λk=>cK.loc k;have N:=fC.loc (c:=c) (ps:=ps) (ss:=ss) (p:=cp);have V:=jq.loc (p:=tp) (batch:=c.batch) (room:=A.room) (t:=t);refine⟨λm=>bY m Y.p (kO Y),(my h).1,bK ⟨Y.dP,λm hm=>by rw[add_lit,hm.cell];rfl,bK ⟨Y.cN,λm hm=>by rw[add_lit,hm.cell];rfl,?_⟩⟩⟩;have D:∀(w:Hp) (F1:Rg) (b1 b2:Nat),aG U w->(∀b,F1 b->F b)->Sep (fZ A Y (cK A Y) (kO Y)) w F1->bY w b1 [.pointer (some ⟨cp,0,none⟩)]->bY w b2 [.pointer (some ⟨tp,0,none⟩)]->U.size<=b1->U.size<=b2 →
  App Y.dP 1 8 182 [.pointer none] ⟨some ⟨b1,0,none⟩,1,1⟩ w λt85 v28=>And (bY v28 Y.p (kO Y))<|App Y.cN 1 8 184 [.pointer none] ⟨some ⟨b2,0,none⟩,1,1⟩ v28 λt92 v29=>And (bY v29 Y.p (kO Y)) <|
   bV (some ⟨Y.p,0,none⟩) λa93=>dU (a93.add 5) (.slice t85.a t85.len t85.cap) v29 λv30=>bV (some ⟨Y.p,0,none⟩) λa95=>dU (a95.add 6) (.slice t92.a t92.len t92.cap) v30 λv31=>J4 v31:=by
  intro w F1 b1 b2 ew hF1 hw hb1 hb2 hz1 hz2;have B:∀b,F1 b->z<=b/\b<U.size:=λb d=>hF b (hF1 b d);have hsw:=ew.1;refine Ii G hw O O hb1 (λg=>by have:=B _ g;omega) λs1 v28 H aa=>?_;have M:=(my aa).1;have P:Sep (fZ A {Y with dP:=s1,fI:=Y.fI++[cp]} (cK A {Y with dP:=s1,fI:=Y.fI++[cp]}) (kO Y)) v28 (Grow F1 w):=aa;refine⟨M,?_⟩;have c28:Sep (fZ A {Y with dP:=s1,fI:=Y.fI++[cp]} (cK A {Y with dP:=s1,fI:=Y.fI++[cp]}) (kO Y)) v28 (λb=>F1 b\/w.size<=b):=P;have X:=H.bT hb2 λg=>by have:=B _ g;omega
  have hb2lt:=hb2.lt;refine Fu c28 aC aC X (λg=>by
   rcases g with g|g
   ·have:=B _ g;omega
   ·omega) λs2 v29 ag ae=>?_
  refine⟨(my ae).1,?_⟩;have J:∀b,(F1 b\/w.size<=b)->F b\/U.size<=b:=λb d=>by
   rcases d with d|d
   ·exact .inl (hF1 b d)
   ·exact .inr O
  have j:Ext F U v29:=((aG.to ew).trans (H.sub hF1)).dW ag J;have ab:=N.bS hC j λb _ d g=>(d1 b d).1 g;have R:=V.bS hTf j λb _ d g=>(d2 b d).1 g;have hs28:=H.1;refine IN (F:=Grow (λb=>F1 b\/w.size<=b) v28) hpos ae hlc hlt hc ab R (λb d g=>?_) (λb d g=>?_) d3 λw2 Y' e2 p1 p2 p3 p4 h2=>?_
  ·have:=d1 b d;rcases g with(g|g)|g
   ·exact this.1 (hF1 b g)
   ·omega
   ·omega
  ·have:=d2 b d;rcases g with(g|g)|g
   ·exact this.1 (hF1 b g)
   ·omega
   ·omega
  ·refine hK w2 Y' (j.dW e2 λb d=>?_) p1 p2 p3 p4 ((Sep.loc (fZ.loc (λk=>cK.loc k))).mono h2 λb _ d=>?_)
   ·rcases d with(d|d)|d
    ·exact .inl (hF1 b d)
    ·exact .inr O
    ·exact .inr O
   ·have hz0:z<=U.size:=by have:=(d1 _ hC.fp);omega
    rcases d with(((d|d)|d)|d)|d
    ·exact(B b d).1
    ·omega
    ·omega
    ·exact(d1 b d).2.1
    ·exact(d2 b d).2.1
 have S0:∀{w:Hp},aG U w->bY w Y.p (kO Y):=λe=>e.bT (my h).1 id;refine⟨nw (cs:=[.pointer (some ⟨cp,0,none⟩)]) λv21 z21 u K=>⟨S0 u,?_,?_⟩,nw (cs:=[.pointer (some ⟨tp,0,none⟩)]) λv32 z32 y b32=>⟨S0 y,nw (cs:=[.pointer (some ⟨cp,0,none⟩)]) λv33 z33 C b33=>⟨S0 (Ext.trans y C),?_⟩⟩⟩
 ·-- row,box,row
  have h21:=q9 G h u;refine Ii G h21 O O K (λg=>by have:=hF _ g;omega) λs1 v22 ad af=>⟨(my af).1,?_⟩;have Q:Sep (fZ A {Y with dP:=s1,fI:=Y.fI++[cp]} (cK A {Y with dP:=s1,fI:=Y.fI++[cp]}) (kO Y)) v22 (Grow F v21):=af;have c22:=EC (λk=>cK.loc k) Q;refine nw (cs:=[.pointer (some ⟨tp,0,none⟩)]) λv23 z23 E b23=>?_;have W:=q9 (λk=>cK.loc k) c22 E;refine⟨(my W).1,Fu W aC aC b23 (λg=>by have:=g.2;omega) λs2 v24 e24 ac=>⟨(my ac).1,?_⟩⟩;have hs22:=ad.1;have hs23:=E.1;have r:∀b,Cut (Grow F v21) v22 b->F b\/U.size<=b:=λb d=>by
   rcases d.1 with h|h
   ·exact .inl h
   ·exact .inr O
  have j:Ext F U v24:=((((aG.to u).trans ad).jU E)).dW e24 r;have L:=N.bS hC j λb _ d g=>(d1 b d).1 g;have Z:=V.bS hTf j λb _ d g=>(d2 b d).1 g;refine IN (F:=Grow (Cut (Grow F v21) v22) v23) hpos ac hlc hlt hc L Z (λb d g=>?_) (λb d g=>?_) d3 λw2 Y' e2 p1 p2 p3 p4 h2=>?_
  ·have:=d1 b d;rcases g with g|g
   ·rcases g.1 with g|g
    ·exact this.1 g
    ·omega
   ·omega
  ·have:=d2 b d;rcases g with g|g
   ·rcases g.1 with g|g
    ·exact this.1 g
    ·omega
   ·omega
  ·refine hK w2 Y' (j.dW e2 λb d=>?_) p1 p2 p3 p4 ((Sep.loc (fZ.loc (λk=>cK.loc k))).mono h2 λb _ d=>?_)
   ·rcases d with d|d
    ·exact r b d
    ·exact .inr O
   ·have hz0:z<=U.size:=by have:=(d1 _ hC.fp);omega
    rcases d with((d|d)|d)|d
    ·rcases r b d with h|h
     ·exact(hF b h).1
     ·omega
    ·omega
    ·exact(d1 b d).2.1
    ·exact(d2 b d).2.1
 ·-- box,row,row
  refine nw (cs:=[.pointer (some ⟨tp,0,none⟩)]) λv27 z27 x ah=>⟨S0 (Ext.trans u x),?_⟩;exact D v27 F U.size v21.size (Ext.trans u x) (λb d=>d) (q9 G (q9 G h u) x) (x.bT K id) ah (zD _) O
 ·exact D v33 F v32.size U.size (Ext.trans y C) (λb d=>d) (q9 G (q9 G h y) C) b33 (C.bT b32 id) O (zD _)
theorem xW {P:Hp->Rg->Prop}(hl:dM P){a:Nat}(h:P U λb=>a<=b):P U λb=>a<=b/\b<U.size:=hl.mono h λb d e=>⟨e,d⟩
theorem JX {n room:Nat}{tb:List bZ}(h1:32<=n)(h2:n<=1024)(h3:n%16=0)(h4:room<=8)(h5:1<=tb.length)(h6:tb.length<=40)(h7:∀c∈tb,c.ok)(hc:Y.fI.length=tb.length)(ht:Y.fY.length=tb.length):eU (fB n room tb) Y:=
 ⟨hc,ht,by simp[fB],by simp[fB],h5,h6,h1,h2,h3,by simp[fB],h4,h7⟩
theorem JL {s:Sl}{xs:List (Int×Int×Int)}(ha:ig U s xs)(hS:dL U H hs sp)(room:Int){R:Option Addr->Int->Hp->Prop}
 (h0:k5 xs sp.st.length room≠0->∀σ',aG U σ'->R none (k5 xs sp.st.length room) σ')
 (h1:k5 xs sp.st.length room=0->∀σ' Y,aG U σ'->Y.hs=hs->dG σ' (λb=>U.size<=b) Y (fB sp.st.length room.toNat (xs.map Z9)) (cK (fB sp.st.length room.toNat (xs.map Z9)) Y)->R (some ⟨Y.p,0,none⟩) 0 σ') :
 QY.c s (some ⟨hs,0,none⟩) room U R:=by
 refine QY.o ?_;unfold QY.v;have hn2:sp.st.length<=1024:=by obtain⟨q,r,l,B,h⟩:=hS;exact h.n2
 refine GW ha λv e=>?_;cases hv:Qp xs
 ·have e1:k5 xs sp.st.length room=2:=by unfold k5;rw[hv];rfl
  have:=h0 (by rw[e1];decide) v e;rw[e1]at this;exact cC rfl this
 have eE:k5 xs sp.st.length room=if 32<=sp.st.length/\sp.st.length%16=0/\0<=room/\room<=8 then 0 else 1:=by unfold k5;rw[hv,zC rfl]
 refine cB rfl (Dx (hS.bO e) ?_);have E:¬(32<=sp.st.length/\sp.st.length%16=0/\0<=room/\room<=8)->R none 1 v:=λhn=>by
  rw[zB hn]at eE;have:=h0 (by rw[eE];decide) v e;rw[eE]at this;exact this
 have tm:(((sp.st.length:Nat):Int).tmod 16)=((sp.st.length%16:Nat):Int):=by rw[Qq O];simp
 refine bW.intro (cP (λc1=>bW.intro (cC rfl (bW.intro (cC rfl (cC rfl (E O)))))) λc1=>nz aB ?_);rw[tm,NU];refine bW.intro (cO (λc2=>bW.intro (cC rfl (cC rfl (E (λh=>by have:=h.2.1;simp[this]at c2))))) λc2=>?_);have ab:sp.st.length%16=0:=by simpa using c2
 refine bW.intro (cP (λc3=>cC rfl (E O)) λc3=>cP (λc4=>E O) λc4=>?_);obtain⟨X,rfl⟩:=zc (show 0<=room by omega);rw[zC O]at eE;have h1:=h1 eE;simp only[dD]at h1;have hva:=(Qk xs).1 hv;have K:=Z0 ha e;have hn1:32<=sp.st.length:=by omega
 generalize sp.st.length=n at *;have hlen:s.len=(xs.map Z9).length:=by rw[zl];exact ha.1
 have ac:∀{σ':Hp} {i:Nat} {c:bZ},ig σ' s xs->(xs.map Z9)[i]?=some c->xs[i]?=some ((c.size:Int),(c.aF:Int),(c.batch:Int))/\c.ok:=λh S=>Hx h hv S;have J:1<=(xs.map Z9).length/\(xs.map Z9).length<=40:=by rw[zl];omega
 refine V1 K hv λdE v5 e5 ah=>Oq λW op e6 hop hP=>sY λA z7 e7 hm=>?_;generalize htbd:xs.map Z9=tb at *;refine nw (cs:=[.slice dE.a dE.len dE.cap,.pointer (some ⟨hs,0,none⟩),.pointer none,.pointer none,.pointer (some ⟨op,0,none⟩),.slice none 0 0,.slice none 0 0,.map (some W.size)]) λv8 z8 e8 b8=>?_;refine Go.Bu.sA _ (λg=>absurd ⟨O,O⟩ g) λn' hn' _ _ v9 sb ms e9 hB hfp=>?_;have hnn:n=n':=by omega
 subst hnn;have b9:=e9.bT b8 id;refine bK (b9.s1 aA λZ fP b10=>SM O O ab λQ tp tq P htp htq hTk=>bK ((P.bT b10 id).s1 aA λv12 N b12=>?_));have s5:=e5.1;have s6:=e6.1;have s9:=e9.1;have s10:=fP.1;have s11:=P.1;have s12:=N.1;have hb8:=b8.lt;have x9:Ext (· = A.size) v9 v12:=(fP.ext.trans (aG.to P)).trans N.ext;have x5:Ext (· = A.size) v5 v12:=(aG.to (Ext.trans (Ext.trans (Ext.trans e6 e7) e8) e9)).trans x9;have x6:Ext (· = A.size) W v12:=(aG.to (Ext.trans (Ext.trans e7 e8) e9)).trans x9;have x7:Ext (· = A.size) A v12:=(aG.to (Ext.trans e8 e9)).trans x9;have x11:Ext (· = A.size) Q v12:=N.ext;have p1:=aH.bS (xW aH ah) x5 λb _ g d=>by omega
 have p2:=(jf.loc (p:=op) (ow:=λ_=>0)).bS (xW jf.loc hP) x6 λb _ g d=>by omega
 have p3:dH v12 W.size .i64 bN []:=x7.fS (hm _ _) O;have p5:ta v8.size n Go.Bu.iy v12 (λb=>v8.size<=b/\b<v9.size):=(ta.loc _ _ _).bS (xW (ta.loc _ _ _) ⟨sb,ms,hB,hfp⟩) x9 λb _ g d=>by omega
 have p6:mo tp (List.replicate n 0) v12 (λb=>Z.size<=b/\b<Q.size):=(mo.loc _ _).bS (xW (mo.loc _ _) ⟨tq,hTk,htp,htq⟩) x11 λb _ g d=>by omega
 let Y0:Lay:={p:=A.size,hs:=hs,fr:=v8.size,tr:=tp,op:=op,rn:=W.size,dE:=dE,dP:=⟨none,0,0⟩,cN:=⟨none,0,0⟩,fI:=[],fY:=[]}
 have b12':bY v12 A.size (kO Y0):=b12
 let Cf:=fZ (jh n X tb 0) Y0 (cK (jh n X tb 0) Y0) (kO Y0)
 have u:∀i,dM (Cf i):=fZ.loc λk=>cK.loc k;have q0:Sep (jB Cf S0) v12 λ_=>False:=jB.one S0 .hd λi V=>by
  cases i<;>first|exact V.elim|exact bR.nil _ _ _ _|exact trivial
 have q1:=jB.put u q0 .dE (G:=λb=>v.size<=b/\b<v5.size) (λb g d=>d) p1;have q2:=jB.put u q1 .own (G:=λb=>v5.size<=b/\b<W.size) (λb g d=>by
  rcases d with d|d
  ·exact d
  ·omega) p2
 have q3:=jB.put u q2 .runs (G:=λb=>b=W.size) (λb g d=>by
  rcases d with(d|d)|d
  ·exact d
  ·omega
  ·omega) ⟨rfl,p3⟩
 have q4:=jB.put u q3 .hd (G:=λb=>b=A.size) (λb g d=>by
  rcases d with((d|d)|d)|d
  ·exact d
  ·omega
  ·omega
  ·omega) ⟨rfl,b12'⟩
 have q5:=jB.put u q4 .free (G:=λb=>v8.size<=b/\b<v9.size) (λb g d=>by
  rcases d with(((d|d)|d)|d)|d
  ·exact d
  ·omega
  ·omega
  ·omega
  ·omega) p5
 have q6:=jB.put u q5 .nV (G:=λb=>Z.size<=b/\b<Q.size) (λb g d=>by
  rcases d with((((d|d)|d)|d)|d)|d
  ·exact d
  ·omega
  ·omega
  ·omega
  ·omega
  ·omega) p6
 have q7:Sep Cf v12 λb=>v.size<=b:=by
  refine(Sep.loc u).mono (jB.all q6 λi=>?_) λb _ d=>?_
  ·cases i<;>simp[S0]
  ·rcases d with(((((d|d)|d)|d)|d)|d)|d
   ·exact d.elim
   ·omega
   ·omega
   ·omega
   ·omega
   ·omega
   ·omega
 have e12:aG v v12:=Ext.fresh e5 x5 λi V=>by omega
 have szv:=e.1;refine Qc (a:=bN) (λ(t:Int) w=>∃(i:Nat) (Y:Lay),t=(i:Int)/\i<=tb.length/\Y.p=A.size/\Y.hs=hs/\Y.fI.length=i/\Y.fY.length=i/\aG v w/\Sep (fZ (jh n X tb i) Y (cK (jh n X tb i) Y) (kO Y)) w (λb=>v.size<=b)) (λt _=>tb.length-t.toNat)
  ⟨0,Y0,rfl,O,rfl,rfl,rfl,rfl,e12,q7⟩ ?_
 rintro t w ⟨i,Y,rfl,V,ad,hYh,ae,hYt,ew,y⟩;refine cP (λhlt=>?_) λhge=>?_
 ·have hi':i<tb.length:=by omega
  have S:tb[i]?=some tb[i]:=cU hi';generalize tb[i]=c at S;have ai:=Z0 K ew;obtain⟨hxi,ag⟩:=ac ai S;refine xz ai hxi ?_;refine nw (cs:=[.int .i64 0,.int .i64 0,.int .i64 0]) λv14 hz14 e14 b14=>b14.s1 aA λv15 o15 b15=>b15.s1 aA λv16 o16 b16=>b16.s1 aA λv17 o17 b17=>?_;have L:aG w v17:=Ext.fresh (Ext.fresh (Ext.fresh e14 o15.ext λi V=>O) o16.ext λi V=>O) o17.ext λi V=>by omega
  have x:bY v17 w.size [.int .i64 (c.size:Int),.int .i64 (c.aF:Int),.int .i64 (c.batch:Int)]:=b17;refine x.rI rfl (x.rI rfl (x.rI rfl (Sq ag λv18 cp D hcp1 hcp2 hCe=>?_)));have b18:=D.bT x id;obtain⟨_,_,_,_,_,_,aa,af⟩:=id ag;refine b18.rI rfl (SV aa af O λv19 tp2 C htp1 htp2 hTf=>Jn.intro ?_);have s14:=L.1;have s18:=D.1;have s19:=C.1;have sw:=ew.1;have hT:∀k,dM (cK (jh n X tb i) Y k):=λk=>cK.loc k;have h19:=q9 hT (q9 hT (q9 hT (EC hT y) L) D) C;have M:=hCe.bO C;rw[←ad];refine OW (F:=Cut (λb=>v.size<=b) w) (z:=v.size) (ss:=[]) (t:=⟨0,[]⟩) (λb g=>⟨g.1,by have:=g.2;omega⟩) ⟨ae,hYt⟩ O h19 (by simp[jh]) (by simp[jh]) S M hTf (λb g=>?_) (λb g=>?_) (λb g hb2=>O) λw2 Y' e2 y1 y2 y3 y4 h2=>?_
  ·subst g;exact⟨λd=>by have:=d.2;omega,O,O⟩
  ·subst g;exact⟨λd=>by have:=d.2;omega,O,O⟩
  ·rw[OR]at h2;exact cS (m:=i+1) O O ⟨⟨i+1,Y',rfl,O,y1,y2.trans hYh,y3,y4,Ext.fresh (Ext.trans (Ext.trans (Ext.trans ew L) D) C) e2 λb g=>g.1,h2⟩,O⟩
 ·have:i=tb.length:=by omega
  subst this;rw[Rh,SP]at y;have hl:eU (fB n X tb) Y:=JX hn1 hn2 ab O J.1 J.2 (λc S=>by
   obtain⟨j,hj⟩:=zQ S;exact(ac K hj).2) ae hYt
  have:=h1 w Y (Ext.trans e ew) hYh ⟨hl,λk=>cK.loc k,(Sep.loc (AC.loc λk=>cK.loc k)).mono y λb _ g=>zY szv g⟩;rw[ad]at this;exact this
end Go.Ar
namespace Go.Vc
open Go
variable {U:Hp}{F:Rg}{s:Sl}{sz:Nat}{xs:List Value}
def dJ (s:Sl)(sz:Nat)(xs:List Value):Hp->Rg->Prop:=λh F=>xs.length=s.len*sz/\(s.len=0/\s.cap=0\/∃b o cs,F b/\s.a=some ⟨b,o,none⟩/\bY h b cs/\s.len<=s.cap/\cs.length=o+s.cap*sz/\(cs.drop o).take xs.length=xs)
theorem dJ.loc (s:Sl)(sz:Nat)(xs:List Value):dM (dJ s sz xs):=λU g F G h d a=>by
 refine⟨h.1,h.2.imp id ?_⟩;rintro⟨b,o,cs,hq,ha,⟨e,he⟩,r⟩;have:=a b (bY.lt ⟨e,he⟩) hq;exact⟨b,o,cs,this.1,ha,⟨e,this.2.trans he⟩,r⟩
theorem dJ.nil (h:Hp)(F:Rg)(sz:Nat)(a:Option Addr):dJ ⟨a,0,0⟩ sz [] h F:=⟨by simp,.inl ⟨rfl,rfl⟩⟩
theorem bR.o (h:bR s sz xs U F):dJ s sz xs U F:=⟨h.1,h.2.imp id λ⟨b,e,m,i,j,a,g,d⟩=>⟨b,0,e,m,i,j,a,O,by simpa using d⟩⟩
theorem dJ.fX (h:dJ s sz xs U F):cT s sz xs U F:=by
 refine⟨h.1,?_⟩;rcases h.2 with⟨hl,_⟩|⟨b,o,cs,hq,ha,hb,_,_,ht⟩
 ·left;have:=h.1;rw[hl]at this;simpa using this
 ·refine .inr ⟨b,o,cs,hq,ha,hb.q,λj a=>?_⟩;rw[←ht,zk,kY,zC a]
theorem dJ.cap (h:dJ s sz xs U F):s.len<=s.cap:=by
 rcases h.2 with⟨q1,q2⟩|⟨_,_,_,_,_,_,q,_⟩
 ·omega
 ·exact q
theorem dJ.app {x:Sl}{bytes e:Nat}{zs ys:List Value}{K:Sl->Hp->Prop}(ho:dJ s sz xs U F)(hz:zs.length=sz)
 (hy:ys.length=x.len*sz) (hr:Rd U x.a ys) (h1:∀v∈ys,dO v=true) (hb:(s.len+x.len)*bytes<=2^46) (hc:s.len+x.len<=2^62)
 (hx:0<x.len) (hK:∀s' h',s'.len=s.len+x.len->Ext F U h'->dJ s' sz (xs++ys) h' (Grow F U)->K s' h'):App s sz bytes e zs x U K:=by
 refine⟨xs,ys,ho.1,hy,ho.fX.rd,hr,h1,hb,hc,λg=>?_,λr c j=>?_⟩
 ·rcases ho.2 with⟨hl,hcap⟩|⟨b,o,cs,hQ,ha,hk,hle,hcl,ht⟩
  ·omega
  ·rw[ha];simp only;rw[add_lit];have u:(s.len+x.len)*sz<=s.cap*sz:=kS _ g;rw[zm]at u;have d:=ho.1;refine V6 hk O λh' m p=>hK _ h' rfl (Ext.eM m hQ) ⟨?_,.inr ⟨b,o,_,.inl hQ,rfl,p,g,?_,?_⟩⟩
   ·simp[d,hy,zm]
   ·simp;omega
   ·rw[zO,d,j9];have e1:(cs.take (o+s.len*sz)++ys++cs.drop (o+s.len*sz+ys.length)).drop o=(cs.drop o).take (s.len*sz)++(ys++cs.drop (o+s.len*sz+ys.length)):=by
     rw[jL,List.drop_append_of_le_length (by rw[za];omega),List.drop_take]
     congr 2;omega
    have i:(cs.drop o).take (s.len*sz)=xs:=by rw[←d];exact ht
    rw[e1,i,←jL,po aE,mW aE]
 ·refine hK _ _ rfl (Ext.push _ _ _) ⟨by simp[ho.1,hy,zm],.inr ⟨U.size,0,xs++ys++(List.replicate (c-(s.len+x.len)) zs).flatten,.inr (zD _),rfl,⟨e,by simp⟩,j,?_,?_⟩⟩
  ·simp only[zO,xq,uH,xd,ho.1,hy,hz,←zm];rw[zH];congr 1;omega
  ·rw[List.drop_zero,po aA,mW aA]
theorem dJ.ub {x:Sl}{bytes e:Nat}{zs:List Value}{K:Sl->Hp->Prop}(ho:dJ s sz xs U F)(hx:x.len=0)(hb:s.len*bytes<=2^46)(hc:s.len<=2^62)(hK:dJ ⟨s.a,s.len,s.cap⟩ sz xs U F->K ⟨s.a,s.len,s.cap⟩ U):App s sz bytes e zs x U K:=by
 have d:=ho.cap;refine⟨xs,[],ho.1,by simp[hx],ho.fX.rd,by cases x.a<;>simp[Rd],by simp,by rw[hx];exact hb,O,λg=>?_,λb=>absurd O b⟩
 rw[hx];have:=hK ho;cases ha:s.a<;>(rw[ha]at this;exact this)
theorem dJ.from (h:dJ s sz xs U F){lo:Nat}(h1:lo<=s.len):dJ ⟨if s.cap=lo then s.a else s.a.map (·.add (lo*sz)),s.len-lo,s.cap-lo⟩ sz (xs.drop (lo*sz)) U F:=by
 have d:=h.1;refine⟨by rw[ka,d,Nat.sub_mul],?_⟩;rcases h.2 with⟨q1,q2⟩|⟨b,o,cs,hq,ha,hb,hle,hcl,ht⟩
 ·left;simp only;omega
 ·by_cases hm:s.cap=lo
  ·left;simp only;omega
  ·refine .inr ⟨b,o+lo*sz,cs,hq,by simp only[zB hm,ha,zZ,add_lit],hb,by simp only;omega,?_,?_⟩
   ·have:lo*sz<=s.cap*sz:=kS _ O;rw[hcl,Nat.sub_mul];omega
   ·rw[ka]
    conv=>rhs;rw[←ht]
    rw[List.drop_take,List.drop_drop]
end Go.Vc
namespace Go.Ar
open Go Go.Vc Go.Proofs
variable {U:Hp}{F G:Rg}{Y:gN}{tb:List bZ}{bud:Nat}{ls:List Li}{b k:Nat}{l:Li}{c:bZ}
theorem LQ {s:Sl}{xs:List (Int×Int×Int)}(ha:ig U s xs)(dB:Int){R:Option Addr->Int->Hp->Prop}(h0:Qp xs=false->∀σ',aG U σ'->R none 2 σ')
 (h1:Qp xs=true->¬(0<=dB/\dB<=65536)->∀σ',aG U σ'->R none 1 σ')
 (h2:Qp xs=true->0<=dB->dB<=65536->∀σ' Y,aG U σ'->eH σ' (λq=>U.size<=q) Y (xs.map Z9) dB.toNat (List.replicate (xs.map Z9).length il)->R (some ⟨Y.p,0,none⟩) 0 σ') :
 Q0.c s dB U R:=by
 refine Q0.o ?_;unfold Q0.v;refine GW ha λv e=>?_;cases hv:Qp xs
 ·exact cC rfl (h0 hv v e)
 refine cB rfl (bW.intro (cP (λw=>cC rfl (h1 hv O v e)) λw=>cP (λC=>h1 hv O v e) λC=>?_));have d:=Z0 ha e;have x:=(Qk xs).1 hv;refine V1 d hv λdE b e1 g=>sY λj E e2 y=>nw (cs:=[.slice dE.a dE.len dE.cap,.int .i64 dB,.map (some b.size)]) λv3 F m D=>?_;have s1:=e1.1;have s0:=e.1;refine h2 hv O O v3 ⟨j.size,b.size,dE,[]⟩ (((e.trans e1).trans e2).trans m) ⟨by rw[zl];omega,λc A=>?_,by simp,by simp,?_⟩
 ·obtain⟨i,z⟩:=zQ A;exact(Hx d hv z).2
 ·refine⟨λq=>if q=j.size then .hd else if q=b.size then .mp else .dE,λi=>?_⟩
  cases i with
  | hd=>
   refine⟨⟨by show U.size<=j.size;omega,by simp⟩,?_⟩;have:((dB.toNat:Nat):Int)=dB:=by omega
   simp only[B2,this];exact D
  | mp=>
   refine⟨⟨by show U.size<=b.size;omega,?_⟩,m.fS (y .i64 .p) id⟩;show(if b.size=j.size then sy.hd else if b.size=b.size then sy.mp else sy.dE)=.mp
   rw[zB O,zC rfl]
  | dE=>
   have u:=aH.bO (aH.bO (aH.mono g (G:=λq=>v.size<=q/\q<b.size) λq r B=>⟨B,r⟩) e2) m;refine aH.mono u λq _ r=>⟨O,?_⟩;show(if q=j.size then sy.hd else if q=b.size then sy.mp else sy.dE)=.dE
   rw[zB O,zB O]
  | li k=>
   simp only[CC,pI,iZ,List.find?_nil,Option.map_none];cases hk:(List.replicate (xs.map Z9).length il)[k]? with
   | none=>trivial
   | some l=>simp only[mH]at hk;split at hk<;>simp_all
def ku (f:Nat->Nat)(l:List (Int×Option Addr)):Nat:=(l.map λx=>f x.1.toNat).sum
theorem DN (f:Nat->Nat):∀{l:List (Int×Option Addr)} {n:Int} {x:Option Addr},(l.map (·.1)).Nodup->(n,x)∈l->ku f l=f n.toNat+ku f (l.filter λy=>!(y.1==n))
 | [],_,_,_,h=>by simp at h
 | y::l,n,x,hn,h=>by
  simp only[zR,zo]at hn;rcases zV.1 h with h1|h1
  ·subst h1;have:l.filter (λy=>!(y.1==n))=l:=by
    rw[qg];intro z hz;have:z.1≠n:=λe=>hn.1 (zE.2 ⟨z,hz,e⟩);simpa using this
   rw[sr aA,this];simp[ku]
  ·have a:y.1≠n:=λe=>hn.1 (zE.2 ⟨_,h1,e.symm⟩);rw[tG (by simpa using a)];have:=DN f hn.2 h1;simp only[ku,zR,nf]at *;omega
theorem Nh (n a v:Nat):((List.range n).map λj=>if j=a then v else 0).sum=if a<n then v else 0:=by
 induction n with
 | zero=>simp
 | succ n ih=>
  rw[ox,zy,List.sum_append,ih];by_cases h:a=n
  ·subst h;simp
  ·by_cases h2:a<n
   ·rw[zC h2,zC O];simp[Ne.symm h]
   ·rw[zB h2,zB O];simp[Ne.symm h]
theorem On (l:List Nat)(f g:Nat->Nat):(l.map λj=>f j+g j).sum=(l.map f).sum+(l.map g).sum:=by
 induction l with
 | nil=>rfl
 | cons x l ih=>simp only[zR,nf,ih];omega
theorem CW (f:Nat->Nat)(n:Nat):∀(ps:List (Nat×Nat)),(ps.map (·.1)).Nodup->(∀x∈ps,x.1<n)->(ps.map λx=>f x.1).sum=((List.range n).map λj=>if j∈ps.map (·.1)then f j else 0).sum
 | [],_,_=>by
  have:((List.range n).map λj=>if j∈([]:List (Nat×Nat)).map (·.1)then f j else 0)=(List.range n).map λ_=>0:=by simp
  rw[this]
  induction n with
  | zero=>rfl
  | succ n a=>rw[ox,zy,List.sum_append];simp at *;exact a
 | x::ps,hn,hl=>by
  simp only[zR,zo]at hn;have a:=CW f n ps hn.2 λy b=>hl y (by simp[b]);rw[zR,nf,a];have e:((List.range n).map λj=>if j∈(x::ps).map (·.1)then f j else 0)=(List.range n).map λj=>(if j=x.1 then f x.1 else 0)+(if j∈ps.map (·.1)then f j else 0):=by
   apply kh;intro j _;by_cases hj:j=x.1
   ·subst hj;rw[zC aA,zC rfl,zB hn.1];rfl
   ·rw[zB hj,zH];by_cases hm:j∈ps.map (·.1)
    ·rw[zC hm,zC (by simp only[zR,zV];exact .inr hm)]
    ·rw[zB hm,zB (by simp only[zR,zV,not_or];exact⟨hj,hm⟩)]
  rw[e,On,Nh,zC (hl x aA)]
def qc (tb:List bZ)(ls:List Li)(k:Nat):Nat:=match tb[k]?,ls[k]? with
 | some c,some l=>c.size*l.os.length
 | _,_=>0
theorem FA:∀(tb:List bZ) (ls:List Li),ls.length=tb.length->Q3 tb ls=((List.range tb.length).map (qc tb ls)).sum
 | [],[],_=>rfl
 | c::tb,l::ls,h=>by
  have ih:=FA tb ls (by simpa using h);simp only[Q3]at ih;simp only[Q3,List.zip_cons_cons,zR,nf,zX,ih,List.range_succ_eq_map,lx];rfl
 | [],_::_,h=>by simp at h
 | _::_,[],h=>by simp at h
theorem eH.nil (h:eH U F Y tb bud ls)(hf:iZ Y.ps k=none)(hl:ls[k]?=some l):l=il:=by
 obtain⟨G,_,a⟩:=h.sep.get (.li k);simp only[CC,pI,hf,hl]at a;exact a
theorem eH.wm (h:eH U F Y tb bud ls):(Y.ps.map (·.1)).Nodup:=by
 have:=h.map.nodup;have e:(jS Y.ps).map (·.1)=(Y.ps.map (·.1)).map λ(n:Nat)=>(n:Int):=by simp[jS]
 rw[e]at this;exact List.Pairwise.of_map (λ(n:Nat)=>(n:Int)) (λa b d e=>d (by rw[e])) this
theorem eH.bytes (h:eH U F Y tb bud ls):ku (qc tb ls) (jS Y.ps)=Q3 tb ls:=by
 have e1:ku (qc tb ls) (jS Y.ps)=(Y.ps.map λx=>qc tb ls x.1).sum:=by simp[ku,jS,Function.comp_def]
 rw[e1,CW _ tb.length _ h.wm h.keys,FA _ _ h.len]
 congr 1
 apply kh;intro j hj;have a:=zd.1 hj;by_cases hm:j∈Y.ps.map (·.1)
 ·rw[zC hm]
 ·rw[zB hm];have d:iZ Y.ps j=none:=by
   unfold iZ;simp only[rY,nQ,zT];exact λx g e=>hm (zE.2 ⟨x,g,e⟩)
  have b:ls[j]?=some (ls[j]'(by rw[h.len];exact a)):=cU _;have:=h.nil d b;unfold qc;rw[cU a,b,this];rfl
theorem Io:∀(tb:List bZ) (ls:List Li),(∀c∈tb,c.ok)->(∀l∈ls,fN l)->Q3 tb ls<=tb.length*131072
 | [],_,_,_=>by simp[Q3]
 | _::_,[],_,_=>by simp[Q3]
 | c::tb,l::ls,h1,h2=>by
  have ih:=Io tb ls (λc a=>h1 c (by simp[a])) (λl d=>h2 l (by simp[d]));simp only[Q3]at ih;simp only[Q3,List.zip_cons_cons,zR,nf,zX];have a:=h1 c aA;unfold bZ.ok at a;have b:=(h2 l aA).many;have e:c.size*l.os.length<=512*256:=l5 O b;omega
theorem JY (h:eH U F Y tb bud ls)(hok:∀l∈ls,fN l):Q3 tb ls<=5242880:=by
 have b:=Io tb ls h.ok hok;have a:=h.nr;omega
theorem eH.LL (h:eH U F Y tb bud ls):∀l∈ls,fN l:=by
 intro l hl;obtain⟨k,a⟩:=zQ hl;cases hf:iZ Y.ps k with
 | none=>rw[h.nil hf a];exact fN.nil
 | some b=>
  obtain⟨G,_,d,_⟩:=h.wC hf a;exact d.2.1
theorem Ib (h:eH U F Y tb bud ls){R:aN}(hR:∀σ',aG U σ'->R ((Q3 tb ls:Nat):Int) σ'):XJ.c (aW Y.p) U R:=by
 refine XJ.o ?_;unfold XJ.v;have hle:=JY h h.LL;have hT:=h.bytes;refine U8 h (cB rfl (bK (h.hd.rM rfl ?_)));refine tT (a:=bN) h.map (λg (z:Int) v=>∃n:Nat,z=(n:Int)/\n+ku (qc tb ls) g=Q3 tb ls/\(∀e∈g,e∈jS Y.ps)/\(g.map (·.1)).Nodup/\aG U v) ?_ ?_ ?_
 ·intro v hz e;exact⟨0,rfl,by rw[hT];omega,λe he=>he,h.map.nodup,e⟩
 ·rintro z v ⟨n,rfl,H,_,_,e⟩;simp only[ku,pX,List.sum_nil,j9]at H;rw[H];exact hR v e
 ·rintro g n x z v v' J ⟨m,rfl,H,j,B,e⟩ Z ho hlt hJ;have W:aG U v':=e.only ho (.inr (zD _));have P:=h.bO W;have r:=j _ Z;simp only[jS,zE,Prod.mk.injEq]at r;obtain⟨⟨k,b⟩,A,w,C⟩:=r;simp only at w C;subst w;subst C;have E:=h.keys _ A;simp only at E;have M:tb[k]?=some tb[k]:=cU E;have N:ls[k]?=some (ls[k]'(by rw[h.len];exact E)):=cU _;generalize tb[k]=c at M;generalize (ls[k]'(by rw[h.len];exact E))=l at N;have K:iZ Y.ps k=some b:=EU h.map.nodup A;obtain⟨G,hG,hL,_⟩:=P.wC K N;obtain⟨_,hok,s,S,L,V⟩:=hL;have Q:s.len=l.os.length:=by have:=L.1;simp[Wj]at this;omega
  have hb:qc tb ls k=c.size*l.os.length:=by unfold qc;rw[M,N]
  have u:=DN (qc tb ls) B Z;simp only[dD]at u;refine bK (P.hd.rS rfl (sW P.jG M (d:=0) O ?_));simp only[zS];refine bK (S.rS rfl ?_);have D:m+c.size*l.os.length+ku (qc tb ls) (List.filter (λy=>!(y.1==(k:Int))) g)=Q3 tb ls:=by
   have X:=u;rw[hb]at X;rw[←H,X,vv]
  refine cS (m:=c.size*l.os.length) (by simp only[Q];simp) O (cS (m:=m+c.size*l.os.length) O O (hJ _ v' rfl rfl ⟨_,rfl,D,λy hy=>j y (zI.1 hy).1,B.sublist (List.filter_sublist.map _),W⟩))
theorem RR (h:eH U F Y tb bud ls){R:aO}(hR:∀σ',aG U σ'->R (decide (bud<Q3 tb ls)) σ'):Yb.c (aW Y.p) U R:=by
 refine Yb.o ?_;unfold Yb.v;have e:decide (((Q3 tb ls:Nat):Int)>(bud:Int))=decide (bud<Q3 tb ls):=by rw[decide_eq_decide];omega
 refine Jn.intro (U8 h (cC rfl (bK ⟨Ib h λσ' a=>(a.bT h.hd id).rI rfl ?_,h.hd.rI rfl (Ib h λσ' a=>?_)⟩)))
 ·rw[e];exact hR σ' a
 ·rw[e];exact hR σ' a
def Cp (f:bZ->Li->List Int×Li)(fn:Nat):Prop:=∀{U:Hp} {G:Rg} {b:Nat} {l:Li} {c:bZ},jb b l U G->c.ok->∀{R:Sl->Hp->Prop},
 (∀s z σ',Ext (· = b) U σ'->U.size<=z->bR s 1 (Wj (f c l).1) σ' (λq=>U.size<=q/\q<z)->jb b (f c l).2 σ' (λq=>q=b\/z<=q)->R s σ') →
 V5 Tryz.prog ⟨fn,#[],#[]⟩ [.pointer (some ⟨b,0,none⟩),.int .i64 (c.batch:Int)] [.one .s] U R
theorem RY:Cp ZP 218:=by
 intro U G b l c h hc R hR;refine pK (all := #[.pointer (some ⟨b,0,none⟩),.int .i64 (c.batch:Int)]) (by kernel_rfl) aA ?_;refine Yx.o ?_;unfold Yx.v;have i:=h;obtain⟨_,j,s,d,e,g⟩:=h;have a:s.len=l.os.length:=by have:=e.1;simp[Wj]at this;omega
 refine bK (d.rS rfl ?_);simp only[a];exact H6 i (zD _) hR
theorem PQ:Cp KU 216:=by
 intro U G b l c h hc R hR;refine pK (all := #[.pointer (some ⟨b,0,none⟩),.int .i64 (c.batch:Int)]) (by kernel_rfl) aA ?_;refine Xs.o ?_;unfold Xs.v;have M:=h;obtain⟨_,g,s,A,N,H⟩:=h;have o1:=g.low;have o2:=g.many;have o3:=g.lim;have x:=EA hc g;unfold bZ.ok at hc;refine bK (A.rI rfl (cS (m:=l.low+1) O O (nz aB (cS (m:=(l.low+1)/2) (by rw[XX O];omega) O ?_))));refine H6 M O λout z v e P S r=>?_;have K:=r;obtain⟨_,Q,s1,d,u,C⟩:=r;have y:s1.len=(gC ((l.low+1)/2) l).2.os.length:=by have:=u.1;simp[Wj]at this;omega
 refine Jn.intro ?_;have i:∀(j:Hp) (lim:Nat),Ext (· = b) v j->lim=(if l.lim>c.batch then max (l.lim-c.batch) c.batch else l.lim)->bY j b (mO s1 {(gC ((l.low+1)/2) l).2 with lim:=lim}) →
  bV (some ⟨b,0,none⟩) λF=>ju (F.add 0) j λE=>bV (some ⟨b,0,none⟩) λD=>dU (D.add 2) (.int .i64 ((E.len:Nat):Int)) j λv2=>R out v2:=by
  intro j lim e1 hlim a;refine bK (a.rS rfl (bK (a.s1 (by simp[mO]) λv2 o2 w=>?_)));have e2:=e1.trans o2.ext;have V:=d.lt;refine hR out z v2 (e.trans e2) P (aI.bS S e2 λq _ J L=>?_) ?_
  ·have:=A.lt;omega
  ·refine⟨.inl rfl,x,s1,?_,aH.bS u e2 λq _ J L=>J.2 L,C⟩;simp only[y]at w;subst hlim;exact w
 refine bK (d.rI rfl ?_);refine cP (λB=>?_) λB=>?_
 ·have p:l.lim>c.batch:=by simp only[gC]at B;omega
  refine bK (d.rI rfl (cS (m:=l.lim-c.batch) (by simp only[gC];omega) O (bK (d.s1 (by simp[mO]) λj o1 a=>i j (max (l.lim-c.batch) c.batch) o1.ext (by rw[zC p]) ?_))));have:(if(c.batch:Int)>((l.lim-c.batch:Nat):Int)then(c.batch:Int)else((l.lim-c.batch:Nat):Int))=((max (l.lim-c.batch) c.batch:Nat):Int):=by split<;>omega
  rw[this]at a;exact a
 ·have p:¬l.lim>c.batch:=by simp only[gC]at B;omega
  exact i v l.lim (Ext.refl _ _) (by rw[zB p]) d
def od (x:Nat×Sl):List Value:=[.int .i64 (x.1:Int),.slice x.2.a x.2.len x.2.cap]
def fG (l:List (Nat×Sl)):List Value:=l.flatMap od
theorem KH (l:List (Nat×Sl)):(fG l).length=l.length*2:=by
 induction l with
 | nil=>rfl
 | cons x l ih=>
  have e:fG (x::l)=od x++fG l:=rfl;have e2:(od x).length=2:=rfl;rw[e,zO,ih,e2,zX];omega
theorem U7 (a b:List (Nat×Sl)):fG (a++b)=fG a++fG b:=by simp[fG]
theorem Ha {l:List (Nat×Sl)}:∀v∈fG l,dO v=true:=by
 intro v hv;obtain⟨p,_,a⟩:=List.mem_flatMap.1 hv;simp only[od,zV,List.not_mem_nil,or_false]at a;rcases a with rfl|rfl<;>rfl
theorem Mp {l:List (Nat×Sl)}{i:Nat}{p:Nat×Sl}(h:l[i]?=some p){d:Nat}(hd:d<2):(fG l)[2*i+d]?=(od p)[d]? := by
 induction l generalizing i with
 | nil=>simp at h
 | cons x l ih=>
  have e:fG (x::l)=od x++fG l:=rfl;have e2:(od x).length=2:=rfl;rw[e];cases i with
  | zero=>
   simp at h;subst h;rw[zh O];congr 1;omega
  | succ i=>
   rw[zt O,e2,show 2*(i+1)+d-2=2*i+d by omega];exact ih (by simpa using h)
def kq (ps:List (Nat×Sl))(bs:List Bt)(U:Hp)(D:Rg):Prop:=ps.length=bs.length/\∀(i:Nat) p x,ps[i]?=some p->bs[i]?=some x->p.1=x.1/\cT p.2 1 (Wj x.2) U D/\p.2.len<=p.2.cap
theorem kq.loc (ps:List (Nat×Sl))(bs:List Bt):dM (kq ps bs):=λU g F G h e d=>⟨h.1,λi p x b a=>⟨(h.2 i p x b a).1,cT.loc _ _ _ _ _ _ _ (h.2 i p x b a).2.1 e d,(h.2 i p x b a).2.2⟩⟩
def uA (ps:List (Nat×Sl)):Prop:=ps.Pairwise λp q=>∀a a',p.2.a=some a->q.2.a=some a'->a.block≠a'.block
theorem uA.snoc {ps:List (Nat×Sl)}{bs:List Bt}{U v:Hp}{D X:Rg}{s:Sl}{xs:List Int}(h:uA ps)(hB:kq ps bs U D)(hne:∀x∈bs,x.2≠[])(hs:cT s 1 (Wj xs) v X)(hx:xs≠[])(hd:∀b,b<U.size->D b->¬X b)(k:Nat):uA (ps++[(k,s)]):=by
 refine pY.2 ⟨h,List.pairwise_singleton _ _,λp z q u=>?_⟩;rw[zL]at u;subst u;intro a a' h1 h2 e;obtain⟨i,r⟩:=zQ z;have d:=(cX.1 r).1;have m:bs[i]?=some (bs[i]'(by rw[←hB.1];exact d)):=cU _;generalize (bs[i]'(by rw[←hB.1];exact d))=y at m;obtain⟨_,g,_⟩:=hB.2 i p y r m;have j:=g.bT (by simpa[Wj]using hne y (zG m)) ⟨a,h1,rfl⟩;have w:=hs.bT (by simpa[Wj]using hx) ⟨a',h2,rfl⟩;rw[e]at j;exact hd _ j.2 j.1 w.1
def iv (s:Sl)(bs:List Bt):Hp->Rg->Prop:=λU F=>∃(ps:List (Nat×Sl)) (D:Rg),dJ s 2 (fG ps) U (λq=>F q/\¬D q)/\kq ps bs U D/\(∀q,D q->F q)/\uA ps/\∀x∈bs,x.2≠[]
theorem iv.loc (s:Sl)(bs:List Bt):dM (iv s bs):=λU r F G ⟨p,D,j,m,g,i⟩ e b=>
 ⟨p,λq=>D q/\q<U.size,dJ.loc _ _ _ _ _ _ _ j e λq a d=>⟨⟨(b q a d.1).1,λhd=>d.2 hd.1⟩,(b q a d.1).2⟩,kq.loc _ _ _ _ _ _ m e λq a hd=>⟨⟨hd,a⟩,(b q a (g q hd)).2⟩,λq a=>(b q a.2 (g q a.1)).1,i⟩
theorem iv.nil (U:Hp)(F:Rg)(a:Option Addr):iv ⟨a,0,0⟩ [] U F:=⟨[],λ_=>False,dJ.nil _ _ _ _,⟨rfl,λi p x h=>by simp at h⟩,λq h=>h.elim,List.Pairwise.nil,by simp⟩
theorem iv.len {s:Sl}{bs:List Bt}(h:iv s bs U F):s.len=bs.length:=by
 obtain⟨d,D,a,b,_⟩:=h;have:=a.1;rw[KH]at this;have:=b.1;omega
theorem iv.cap {s:Sl}{bs:List Bt}(h:iv s bs U F):s.len<=s.cap:=by
 obtain⟨b,D,a,_⟩:=h;exact a.cap
def GC:Prop:=∀{U:Hp} {F:Rg} {s:Sl} {xs:List (Nat×Sl)},bR s 2 (fG xs) U F->(∀x∈xs,x.1<64)->xs.length<=1000->∀{R:aP},
 (∀xs' σ',xs'.Perm xs->xs'.Pairwise (λa b=>a.1<=b.1)->Ext F U σ'->bR s 2 (fG xs') σ' F->R σ')->Z1.c s ⟨264,#[],#[]⟩ U R
theorem Ie:∀{a b:List Nat},a.Pairwise (· < ·)->b.Pairwise (· < ·)->(∀x,x∈a↔x∈b)->a=b
 | [],[],_,_,_=>rfl
 | [],y::b,_,_,h=>by have:=(h y).2 aA;simp at this
 | x::a,[],_,_,h=>by have:=(h x).1 aA;simp at this
 | x::a,y::b,ha,hb,h=>by
  rw[r5]at ha hb;have e:x=y:=by
   rcases zV.1 ((h x).1 aA)with h1|h1
   ·exact h1
   ·rcases zV.1 ((h y).2 aA)with h2|h2
    ·exact h2.symm
    ·have:=ha.1 y h2;have:=hb.1 x h1;omega
  subst e
  congr 1
  refine Ie ha.2 hb.2 λz=>?_;have d:=h z;simp only[zV]at d;constructor
  ·intro hza;have:=ha.1 z hza;rcases d.1 (.inr hza)with h1|h1
   ·omega
   ·exact h1
  ·intro hzb;have:=hb.1 z hzb;rcases d.2 (.inr hzb)with h1|h1
   ·omega
   ·exact h1
theorem Ho {f:bZ->Li->List Int×Li}{x:Bt}:x∈Kg f tb ls↔∃c l,tb[x.1]?=some c/\ls[x.1]?=some l/\x.2=(f c l).1/\x.2≠[]:=by
 unfold Kg;rw[wy];constructor
 ·rintro⟨k,hk,h⟩;split at h
  ·rename_i c l hc hl;split at h
   ·cases h
   ·rename_i hne;cases h;exact⟨c,l,hc,hl,rfl,hne⟩
  ·cases h
 ·rintro⟨c,l,hc,hl,e,hne⟩;refine⟨x.1,zd.2 (cX.1 hc).1,?_⟩;rw[hc,hl];simp only;rw[zB (by rw[←e];exact hne),←e]
theorem JZ {f:bZ->Li->List Int×Li}:((Kg f tb ls).map (·.1)).Pairwise (· < ·):=by
 unfold Kg;have key:∀(n:Nat),(((List.range n).filterMap λk=>match tb[k]?,ls[k]? with
  | some c,some l=>if(f c l).1=[]then none else some ((k,(f c l).1):Bt)
  | _,_=>none).map (·.1)).Pairwise (· < ·)/\∀x∈((List.range n).filterMap λk=>match tb[k]?,ls[k]? with
  | some c,some l=>if(f c l).1=[]then none else some ((k,(f c l).1):Bt)
  | _,_=>none),x.1<n:=by
  intro n
  induction n with
  | zero=>simp
  | succ n ih=>
   rw[ox,vV,zy];refine⟨pY.2 ⟨ih.1,?_,?_⟩,?_⟩
   ·simp only[B6,List.filterMap_nil];split<;>simp
   ·intro a ha b hb;obtain⟨x,g,rfl⟩:=zE.1 ha;obtain⟨y,e,rfl⟩:=zE.1 hb;have j:=ih.2 x g;obtain⟨m,i,d⟩:=wy.1 e;clear e hb ha;simp only[zL]at i;subst i;split at d
    ·split at d
     ·cases d
     ·cases d;exact j
    ·cases d
   ·intro x g;rcases zK.1 g with g|g
    ·have:=ih.2 x g;omega
    ·obtain⟨m,i,e⟩:=wy.1 g;simp only[zL]at i;subst i;split at e
     ·split at e
      ·cases e
      ·cases e;omega
     ·cases e
 exact(key tb.length).1
def mX (todo:List (Int×Option Addr))(k:Nat):Prop:=((k:Nat):Int)∈todo.map (·.1)
instance (todo:List (Int×Option Addr)) (k:Nat):Decidable (mX todo k):=by unfold mX;infer_instance
theorem HY {todo:List (Int×Option Addr)}{m k:Nat}:mX (todo.filter λy=>!(y.1==(m:Int))) k↔mX todo k/\k≠m:=by
 unfold mX;simp only[zE,zI,mq,l6];constructor
 ·rintro⟨y,⟨h1,h2⟩,h3⟩;exact⟨⟨y,h1,h3⟩,λe=>h2 O⟩
 ·rintro⟨⟨y,h1,h3⟩,h2⟩;exact⟨y,⟨h1,λe=>h2 O⟩,h3⟩
structure yo (f:bZ->Li->List Int×Li) (tb:List bZ) (ls:List Li) (todo:List (Int×Option Addr)) (ls':List Li) (outs:List Bt):Prop where
 l:∀k c l,tb[k]?=some c->ls[k]?=some l->ls'[k]?=some (if mX todo k then l else(f c l).2)
 n:(outs.map (·.1)).Nodup
 o:∀x:Bt,x∈outs↔∃c l,tb[x.1]?=some c/\ls[x.1]?=some l/\¬mX todo x.1/\x.2=(f c l).1/\x.2≠[]
theorem yo.step {f:bZ->Li->List Int×Li}{todo:List (Int×Option Addr)}{ls':List Li}{outs:List Bt}(h:yo f tb ls todo ls' outs)(hc:tb[k]?=some c)(hl:ls[k]?=some l)(hk:mX todo k) :
 yo f tb ls (todo.filter λy=>!(y.1==(k:Int))) (ls'.set k (f c l).2) (if(f c l).1=[]then outs else outs++[(k,(f c l).1)]):=by
 have s:=h.l k c l hc hl;have A:=(cX.1 s).1;have u:∀x∈outs,x.1≠k:=λx g e=>by
  obtain⟨_,_,_,_,B,_⟩:=(h.o x).1 g;rw[e]at B;exact B hk
 refine⟨λj d m hd p=>?_,?_,λx=>?_⟩
 ·by_cases hj:j=k
  ·subst hj;rw[hc]at hd;cases hd;rw[hl]at p;cases p;rw[zM A,zB (by rw[HY];exact λg=>g.2 rfl)]
  ·rw[zj (Ne.symm hj),h.l j d m hd p]
   congr 1
   by_cases r:mX todo j
   ·rw[zC r,zC (HY.2 ⟨r,hj⟩)]
   ·rw[zB r,zB λg=>r (HY.1 g).1]
 ·split
  ·exact h.n
  ·rw[zy,nC];refine⟨h.n,by simp,λa D b C e=>?_⟩;simp only[zR,pX,zL]at C;subst C;obtain⟨x,g,e2⟩:=zE.1 D;exact u x g (e2.trans e)
 ·have z:(∃d m,tb[x.1]?=some d/\ls[x.1]?=some m/\¬mX (todo.filter λy=>!(y.1==(k:Int))) x.1/\x.2=(f d m).1/\x.2≠[])↔x∈outs\/(x=(k,(f c l).1)/\(f c l).1≠[]):=by
   constructor
   ·rintro⟨d,m,hd,p,r,e,i⟩;by_cases hj:x.1=k
    ·right;rw[hj]at hd p;rw[hc]at hd;cases hd;rw[hl]at p;cases p;exact⟨Prod.ext hj e,by rw[←e];exact i⟩
    ·left;exact(h.o x).2 ⟨d,m,hd,p,λg=>r (HY.2 ⟨g,hj⟩),e,i⟩
   ·rintro(g|⟨rfl,i⟩)
    ·obtain⟨d,m,hd,p,r,e,i⟩:=(h.o x).1 g;exact⟨d,m,hd,p,λw=>r (HY.1 w).1,e,i⟩
    ·exact⟨c,l,hc,hl,λw=>(HY.1 w).2 rfl,rfl,i⟩
  rw[z];split
  ·rename_i he;constructor
   ·exact .inl
   ·rintro(g|⟨_,i⟩)
    ·exact g
    ·exact absurd he i
  ·rename_i he;rw[zK,zL];constructor
   ·rintro(g|g)
    ·exact .inl g
    ·exact .inr ⟨g,he⟩
   ·rintro(g|g)
    ·exact .inl g
    ·exact .inr g.1
set_option maxRecDepth 4000 in
theorem Fc (hso:GC){f:bZ->Li->List Int×Li}{fn:Nat}(hf:Cp f fn)(hnil:∀c,c.ok->f c il=([],il))(h:eH U F Y tb bud ls){R:Sl->Hp->Prop}
 (hR:∀σ' s (Q:Rg),Ext F U σ'->(∀q,Q q->U.size<=q)->eH σ' (λq=>Grow F U q/\¬Q q) Y tb bud (Kc f tb ls)->iv s (Kg f tb ls) σ' Q->R s σ') :
 Xi.c (aW Y.p) ⟨fn,#[],#[]⟩ U R:=by
 refine Xi.o ?_;unfold Xi.v;refine U8 h (cB rfl (bK (h.hd.rM rfl ?_)));have htb:=h.nr;refine tT (a:=.s) h.map (λC (out:Sl) v=>∃(ls':List Li) (w:List Bt) (Q D:Rg) (ps:List (Nat×Sl)),Ext F U v/\(∀q,Q q->U.size<q)/\eH v (λq=>(Cut F U q\/U.size<q)/\¬Q q) Y tb bud ls' ∧
  bR out 2 (fG ps) v (λq=>Q q/\¬D q)/\kq ps w v D/\(∀q,D q->Q q)/\yo f tb ls C ls' w/\(∀e∈C,e∈jS Y.ps)/\(C.map (·.1)).Nodup/\uA ps) ?_ ?_ ?_
 ·intro v hz e;refine⟨ls,[],λ_=>False,λ_=>False,[],aG.to e,λq g=>g.elim,((eH.loc.bO h.cut e).mono λq _ g=>⟨.inl g,id⟩),bR.nil _ _ _ _,⟨rfl,λi p x K=>by simp at K⟩,λq g=>g.elim,⟨λk c l E N=>?_,by simp,λx=>?_⟩,λe P=>P,h.map.nodup,List.Pairwise.nil⟩
  ·by_cases hi:mX (jS Y.ps) k
   ·rw[zC hi,N]
   ·rw[zB hi];have hf0:iZ Y.ps k=none:=by
     unfold iZ;simp only[rY,nQ,zT];exact λx r e=>hi (zE.2 ⟨((x.1:Int),some ⟨x.2,0,none⟩),zE.2 ⟨x,r,rfl⟩,by rw[e]⟩)
    have:=h.nil hf0 N;rw[N,this,hnil c (h.ok c (zG E))]
  ·simp only[List.not_mem_nil,false_iff];rintro⟨c,l,E,N,hi,e,hne⟩;have hf0:iZ Y.ps x.1=none:=by
    unfold iZ;simp only[rY,nQ,zT];exact λy X e=>hi (zE.2 ⟨((y.1:Int),some ⟨y.2,0,none⟩),zE.2 ⟨y,X,rfl⟩,by rw[e]⟩)
   have:=h.nil hf0 N;rw[this,hnil c (h.ok c (zG E))]at e;exact hne e
 ·rintro out v ⟨ls',w,Q,D,ps,e,hQ,hC,W,hB,hD,hI,_,_,S⟩;have hno:∀k,¬mX [] k:=λk hk=>by simp[mX]at hk
  have hls:ls'=Kc f tb ls:=by
   apply zr;intro k;by_cases hk:k<tb.length
   ·have E:tb[k]?=some tb[k]:=cU hk;have N:ls[k]?=some (ls[k]'(by rw[h.len];exact hk)):=cU _;rw[hI.l k _ _ E N,zB (hno k)];simp[Kc,CI,E,N]
   ·rw[zW (by rw[hC.len];omega),zW (by simp[Kc,h.len];omega)]
  subst hls;have hk1:∀(i:Nat) p,ps[i]?=some p->∃x,w[i]?=some x/\p.1=x.1/\cT p.2 1 (Wj x.2) v D/\p.2.len<=p.2.cap:=λi p K=>by
   have hi:=(cX.1 K).1;have r:w[i]?=some (w[i]'(by rw[←hB.1];exact hi)):=cU _;exact⟨_,r,hB.2 i p _ K r⟩
  have B:ps.map (·.1)=w.map (·.1):=by
   apply zr;intro i;simp only[zg];cases K:ps[i]? with
   | none=>
    have:w[i]?=none:=by
     rw[List.getElem?_eq_none_iff]at K ⊢;rw[←hB.1];exact K
    rw[this];rfl
   | some p=>
    obtain⟨x,r,e1,_⟩:=hk1 i p K;rw[r];simp[e1]
  have Z:∀x∈w,x.1<40:=λx r=>by
   obtain⟨c,l,E,_⟩:=(hI.o x).1 r;have:=(cX.1 E).1;omega
  have hlen:ps.length<=40:=by
   have hn:=hI.n;rw[←B]at hn;have:=hn.length_le_of_subset (l₂:=List.range 40) λj S=>by
    rw[B]at S;obtain⟨x,r,rfl⟩:=zE.1 S;exact zd.2 (Z x r)
   simpa using this
  refine hso W (λp K=>?_) O λps' v' L hsort e' hrow'=>?_
  ·have:p.1∈w.map (·.1):=by rw[←B];exact zE.2 ⟨p,K,rfl⟩
   obtain⟨x,r,e1⟩:=zE.1 this;have:=Z x r;omega
  ·have hnd:(ps'.map (·.1)).Nodup:=(L.map _).nodup_iff.2 (by rw[B];exact hI.n);have hinc:(ps'.map (·.1)).Pairwise (· < ·):=by
    refine List.Pairwise.map (R:=λa b:Nat×Sl=>a.1<b.1) _ (λa b hab=>hab) ?_;have A:ps'.Pairwise λa b=>a.1≠b.1:=pf.1 hnd;exact(hsort.and A).imp λ{a b} hab=>by have:=hab.1;have:=hab.2;omega
   have hkk:ps'.map (·.1)=(Kg f tb ls).map (·.1):=by
    refine Ie hinc JZ λj=>?_;rw[(L.map _).mem_iff,B];constructor
    ·intro S;obtain⟨x,r,rfl⟩:=zE.1 S;obtain⟨c,l,E,N,_,e1,e2⟩:=(hI.o x).1 r;exact zE.2 ⟨x,Ho.2 ⟨c,l,E,N,e1,e2⟩,rfl⟩
    ·intro S;obtain⟨x,r,rfl⟩:=zE.1 S;obtain⟨c,l,E,N,e1,e2⟩:=Ho.1 r;exact zE.2 ⟨x,(hI.o x).2 ⟨c,l,E,N,hno _,e1,e2⟩,rfl⟩
   have eQ:Ext F U v':=e.dW e' λq g=>.inr (qY (hQ q g.1));refine hR v' out Q eQ (λq g=>qY (hQ q g)) ?_ ⟨ps',D,hrow'.o,⟨?_,λi p x K r=>?_⟩,hD,(L.pairwise_iff λ{a b} hab x y A h2 e=>hab y x h2 A e.symm).2 S,λx r=>by
    obtain⟨_,_,_,_,_,h2⟩:=Ho.1 r;exact h2⟩
   ·refine(eH.loc.bS hC e' λq _ g hq2=>g.2 hq2.1).mono λq _ g=>⟨?_,g.2⟩;rcases g.1 with r|r
    ·exact .inl r.1
    ·exact .inr (qY r)
   ·have:=congrArg List.length hkk;simpa using this
   ·have e1:p.1=x.1:=by
     have:=congrArg (λl=>l[i]?) hkk;simp only[zg,K,r,zZ,Option.some.injEq]at this;exact this
    obtain⟨j,S⟩:=zQ (L.mem_iff.1 (zG K));obtain⟨y,X,e2,hs,hcap⟩:=hk1 j p S;have e3:x.2=y.2:=by
     obtain⟨c,l,E,N,_,A,_⟩:=(hI.o y).1 (zG X);obtain⟨c',l',hc',hl',h2,_⟩:=Ho.1 (zG r);rw[←e1,e2,E]at hc';cases hc';rw[←e1,e2,N]at hl';cases hl';rw[A,h2]
    rw[e3];exact⟨e1,aH.bS hs e' λq _ g hq2=>hq2.2 g,hcap⟩
 ·rintro C n x out v v' J ⟨ls',w,Q,D,ps,e,hQ,hC,W,hB,hD,hI,hsub,hnd,S⟩ r ho hlt hJ;have e1:Ext F U v':=e.only ho (.inr (zD _));have V:eH v' (λq=>(Cut F U q\/U.size<q)/\¬Q q) Y tb bud ls':=eH.loc.bS hC ho.ext λq _ g P=>by
   rcases g.1 with A|A
   ·have:=A.2;omega
   ·omega
  have hrow1:bR out 2 (fG ps) v' (λq=>(Q q/\¬D q)/\q<v'.size):=aI.cut (aI.bS W ho.ext λq _ g P=>by have:=hQ q g.1;omega);have hB1:kq ps w v' (λq=>D q/\q<v'.size):=(kq.loc _ _).cut ((kq.loc _ _).bS hB ho.ext λq _ g P=>by have:=hQ q (hD q g);omega);have hmem:=hsub _ r;simp only[jS,zE,Prod.mk.injEq]at hmem;obtain⟨⟨k,b⟩,hkb,hk1,hx1⟩:=hmem;simp only at hk1 hx1;subst hk1;subst hx1;have hk:=h.keys _ hkb;simp only at hk;have E:tb[k]?=some tb[k]:=cU hk;have N:ls[k]?=some (ls[k]'(by rw[h.len];exact hk)):=cU _;generalize tb[k]=c at E;generalize (ls[k]'(by rw[h.len];exact hk))=l at N;have hcok:=h.ok c (zG E);have hlk:iZ Y.ps k=some b:=EU h.map.nodup hkb;have hin:mX C k:=zE.2 ⟨_,r,rfl⟩;have hl':ls'[k]?=some l:=by rw[hI.l k c l E N,zC hin]
  have M:=hI.step E N hin;have hmF:(λq=>(Cut F U q\/U.size<q)/\¬Q q) Y.m:=by
   obtain⟨H,hH,hm⟩:=V.sep.get .mp;exact hH _ hm.1
  obtain⟨G,hG,hL,hGm,hput⟩:=V.wC hlk hl';have hbF:=hG b hL.1;have hbm:b≠Y.m:=λe=>hGm (e▸hL.1);have hbs:b≠U.size:=λe=>by
   subst e;rcases hbF.1 with A|A
   ·have:=A.2;omega
   ·omega
  have hblt:b<v'.size:=by obtain⟨_,_,s,hbk,_⟩:=hL;exact hbk.lt
  have hsz1:=ho.1;refine bK (V.hd.rS rfl (sW V.jG E (d:=2) O ?_));simp only[zB (show ¬(2=0) by omega),zB (show ¬(2=1) by omega)];refine hf hL hcok λs z v5 e5 hz hr hL5=>?_;have hs5:=e5.1;obtain⟨eF,h5⟩:=hput v5 _ (λq=>q=b\/z<=q) (e5.sub λq g=>by rw[g];exact hL.1) (λq g=>g.imp (λ(r:q=b)=>by rw[r];exact hL.1) λ(r:z<=q)=>O) hL5;have h5:=h5.cut;have eF5:Ext F U v5:=e1.dW eF λq g=>by
   rcases g.1 with A|A
   ·exact .inl A.1
   ·exact .inr (qY A)
  have hnb:∀q,Q q->q≠b:=λq g hqb=>hbF.2 (hqb▸g);have hrow5:=aI.bS hrow1 e5 λq _ g P=>hnb q g.1.1 P;have hB5:=(kq.loc _ _).bS hB1 e5 λq _ g P=>hnb q (hD q g.1) P;have hsl:s.len=(f c l).1.length:=by have:=hr.1;simp[Wj]at this;omega
  have hsub':∀y∈C.filter (λy=>!(y.1==(k:Int))),y∈jS Y.ps:=λy X=>hsub y (zI.1 X).1;have hnd':((C.filter λy=>!(y.1==(k:Int))).map (·.1)).Nodup:=hnd.sublist (List.filter_sublist.map _);by_cases hemp:(f c l).1=[]
  ·rw[zC hemp]at M;refine fT (by rw[hsl,hemp];simp) (hJ out v5 (e5.2 _ O λP=>hbs P.symm) (e5.2 _ V.map.lt λP=>hbm P.symm) ?_);refine⟨_,w,λq=>Q q/\q<v'.size,λq=>D q/\q<v'.size,ps,eF5,λq g=>hQ q g.1,h5.mono λq _ g=>?_,aI.mono hrow5 λq _ g=>⟨⟨g.1.1,g.2⟩,λhd=>g.1.2 hd.1⟩,hB5,λq g=>⟨hD q g.1,g.2⟩,M,hsub',hnd',S⟩;rcases g.1 with A|A|A
   ·exact⟨A.1.1,λr=>A.1.2 r.1⟩
   ·subst A;exact⟨hbF.1,λr=>hbF.2 r.1⟩
   ·exact⟨.inr O,λr=>O⟩
  ·rw[zB hemp]at M;have hpos:=qe.2 hemp;refine lF (by rw[hsl];omega) (nw (cs:=od (k,s)) λv6 hz6 e6 hb6=>?_);have hrow6:=aI.bO hrow5 e6;have hB6:=(kq.loc _ _).bO hB5 e6;have hr6:=aI.bO (aI.cut hr) e6;have hpl:out.len=ps.length:=by have:=W.1;rw[KH]at this;omega
   have hol:ps.length<=40:=by
    have B:w.map (·.1)⊆List.range 40:=λj S=>by
     obtain⟨x,r,rfl⟩:=zE.1 S;obtain⟨c,l,E,_⟩:=(hI.o x).1 r;have:=(cX.1 E).1;exact zd.2 O
    have:=hI.n.length_le_of_subset B;rw[hB.1];simpa using this
   refine hrow6.app (ys:=od (k,s)) rfl rfl ?_ (λv hv=>Ha (l:=[(k,s)]) v (by simpa[fG]using hv)) ?_ ?_ mU λs' v7 hl7 e7 hr7=>?_
   ·intro j u hu;rw[add_lit,zH,hb6.cell];exact hu
   ·simp only;have:(out.len+1)*32<=41*32:=l5 O O;omega
   ·simp only;omega
   have hs7:=e7.1;have e57:Ext (λq=>(Q q/\¬D q)/\q<v'.size) v5 v7:=(aG.to e6).trans e7;refine hJ s' v7 ?_ ?_ ?_
   ·rw[e57.2 _ O λr=>by have:=hQ _ r.1.1;omega];exact e5.2 _ O λP=>hbs P.symm
   ·rw[e57.2 _ (by have:=V.map.lt;omega) λr=>hmF.2 r.1.1];exact e5.2 _ V.map.lt λP=>hbm P.symm
   refine⟨_,_,λq=>Q q/\q<v'.size\/(v'.size<=q/\q<z)\/v5.size<=q,λq=>D q/\q<v'.size\/(v'.size<=q/\q<z)/\q<v5.size,ps++[(k,s)],eF5.dW e57 λq g=>.inr (qY (hQ q g.1.1)),λq g=>?_,(eH.loc.bS h5 e57 λq hq5 g r=>?_).mono λq _ g=>?_,?_,⟨?_,λi p y K X=>?_⟩,λq g=>?_,M,hsub',hnd',S.snoc hB1 (λx r=>by
    obtain⟨_,_,_,_,_,_,h2⟩:=(hI.o x).1 r;exact h2) hr.fX hemp (λb hb r X=>by have:=r.2;have:=X.1;omega) k⟩
   ·rcases g with g|g|g
    ·exact hQ q g.1
    ·omega
    ·omega
   ·rcases g.1 with A|A|A
    ·exact A.1.2 r.1.1
    ·exact hnb q r.1.1 A
    ·have:=r.2;omega
   ·have hq5:=g.2;rcases g.1 with A|A|A
    ·exact⟨A.1.1,λr=>by
      rcases r with r|r|r
      ·exact A.1.2 r.1
      ·have:=A.2.1;omega
      ·omega⟩
    ·subst A;exact⟨hbF.1,λr=>by
      rcases r with r|r|r
      ·exact hbF.2 r.1
      ·omega
      ·omega⟩
    ·exact⟨.inr O,λr=>by
      rcases r with r|r|r<;>omega⟩
   ·rw[U7];have:fG [(k,s)]=od (k,s):=by simp[fG]
    rw[this];refine aI.mono hr7 λq _ g=>?_;rcases g with g|g
    ·exact⟨.inl ⟨g.1.1,g.2⟩,λhd=>by
      rcases hd with hd|hd
      ·exact g.1.2 hd.1
      ·omega⟩
    ·exact⟨.inr (.inr O),λhd=>by
      rcases hd with hd|hd<;>omega⟩
   ·rw[zO,zO,hB.1];rfl
   ·rcases kE i ps.length with hi|hi
    ·rw[zh hi]at K;rw[zh (by rw[←hB.1];exact hi)]at X;obtain⟨a1,a2,a3⟩:=hB6.2 i p y K X;exact⟨a1,aH.mono (aH.bS a2 e7 λq _ g r=>r.1.2 g.1) λq _ g=>.inl g,a3⟩
    ·rw[zt hi]at K;rw[zt (by rw[←hB.1];exact hi)]at X;have hi0:i-ps.length=0:=by
      have:=(cX.1 K).1;simp at this;omega
     rw[hi0]at K;rw[show i-w.length=0 by rw[←hB.1];exact hi0]at X;simp at K X;subst K;subst X;exact⟨rfl,aH.mono (aH.bS hr6.fX e7 λq _ g r=>by have:=r.2;have:=g.1;omega) λq _ g=>.inr g,bR.q8 hr⟩
   ·rcases g with g|g
    ·exact .inl ⟨hD q g.1,g.2⟩
    ·exact .inr (.inl g.1)
theorem NT (hso:GC)(h:eH U F Y tb bud ls){R:Sl->Hp->Prop}
 (hR:∀σ' s (Q:Rg),Ext F U σ'->(∀q,Q q->U.size<=q)->eH σ' (λq=>Grow F U q/\¬Q q) Y tb bud (Kc ZP tb ls)->iv s (Kg ZP tb ls) σ' Q->R s σ'):XE.c (aW Y.p) U R:=by
 refine XE.o ?_;unfold XE.v;exact Fc hso RY (λc _=>JJ c) h hR
theorem Ny (hso:GC)(h:eH U F Y tb bud ls){R:Sl->Hp->Prop}
 (hR:∀σ' s (Q:Rg),Ext F U σ'->(∀q,Q q->U.size<=q)->eH σ' (λq=>Grow F U q/\¬Q q) Y tb bud (Kc KU tb ls)->iv s (Kg KU tb ls) σ' Q->R s σ'):W0.c (aW Y.p) U R:=by
 refine W0.o ?_;unfold W0.v;exact Fc hso PQ LU h hR
end Go.Ar