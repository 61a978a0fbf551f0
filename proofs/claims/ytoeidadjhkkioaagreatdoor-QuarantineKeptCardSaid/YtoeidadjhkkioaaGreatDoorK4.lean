/- Texts joined. -/
import Derived.Test.YtoeidadjhkkioaaGreatDoorK3
set_option linter.unusedVariables false
set_option linter.unusedSimpArgs false
namespace Go.Vc
open Go
def yn (h:Hp)(it r:Nat):Nat:=
 match h[it]?,h[r]? with
 | some (.mapIter _ _ seen _),some (.map es _)=>(es.toList.filter λe=>!seen.contains e.born).length
 | _,_=>0
variable {U:Hp}{k:IntKind}{c:CK}{l todo:List (Int×c.T)}{cur:Option (Int×c.T)}{r it:Nat}
theorem It.num {h:Hp}(hi:It h it k c (some r) l todo cur):yn h it r=todo.length:=by
 obtain⟨s,d,a,g,b,m,w,j,p,i,u⟩:=hi;unfold yn;rw[g,b];have:=congrArg List.length i;simpa using this
theorem It.bT {h h':Hp}(hi:It h it k c (some r) l todo cur)(h1:h'[it]?=h[it]?)(h2:h'[r]?=h[r]?):It h' it k c (some r) l todo cur:=by
 obtain⟨i,d,b,g,j,a⟩:=hi;exact⟨i,d,b,h1.trans g,h2.trans j,a⟩
theorem D1 {A:aP}{body:Int->c.T->Hp->(Hp->Prop)->Prop}(hm:dM U r k c l)(I:List (Int×c.T)->Hp->Prop)
 (h0:∀v,v.size=U.size+1->aF U v->I l v)
 (hend:∀v,I [] v->A v)
 (hstep:∀todo n x v v' (J:aP),I todo v->(n,x)∈todo->Ka v v' U.size->U.size<v.size->(∀w,w[U.size]?=v'[U.size]?->w[r]?=v'[r]?->I (todo.filter λy=>!(y.1==n)) w->J w)->body n x v' J) :
 pF k c (some r) U λit v3=>X9 [] (λI=>I v3) λJ1 v4=>pE k c it v4 (A v4) λ_ _ v5=>po k c it v5 λkey1 val1=>body key1 val1 v5 J1:=by
 refine⟨l,hm,λv L G hi=>?_⟩;have N:aF U v:=⟨O,λb s _=>G b s⟩;refine Fz (λw=>∃todo d,It w U.size k c (some r) l todo d/\I todo w/\U.size<w.size) (λw=>yn w U.size r) ⟨l,none,hi,h0 v L N,O⟩ ?_;rintro w ⟨todo,d,g,B,j⟩;refine⟨rfl,some r,l,todo,d,g,λH=>?_,λn x C K M i=>?_⟩
 .subst H;exact hend w B
 .refine⟨rfl,some r,l,_,n,x,i,hstep todo n x w K _ B C M j λu z p m=>?_⟩;have a:=i.bT z p;refine⟨⟨_,_,a,m,?_⟩,?_⟩
  .obtain⟨P,E,D,F,_⟩:=a;exact(jT.1 F).1
  .rw[a.num,g.num];exact D5.2 ⟨(n,x),C,by simp⟩
theorem xp {a:CK}{x0:a.T}{A:a.T->Hp->Prop}{body:Int->c.T->a.T->Hp->(a.T->Hp->Prop)->Prop}(hm:dM U r k c l)(I:List (Int×c.T)->a.T->Hp->Prop)
 (h0:∀v,v.size=U.size+1->aF U v->I l x0 v)
 (hend:∀z v,I [] z v->A z v)
 (hstep:∀todo n x z v v' (J:a.T->Hp->Prop),I todo z v->(n,x)∈todo->Ka v v' U.size->U.size<v.size->(∀z' w,w[U.size]?=v'[U.size]?->w[r]?=v'[r]?->I (todo.filter λy=>!(y.1==n)) z' w->J z' w)->body n x z v' J) :
 pF k c (some r) U λit v3=>X9 [a] (λI=>I x0 v3) λJ1 z v4=>pE k c it v4 (A z v4) λ_ _ v5=>po k c it v5 λkey1 val1=>body key1 val1 z v5 J1:=by
 refine⟨l,hm,λv N K hi=>?_⟩;have Q:aF U v:=⟨O,λb B _=>K b B⟩;refine Qg (a:=a) (λz w=>∃todo g,It w U.size k c (some r) l todo g/\I todo z w/\U.size<w.size) (λ_ w=>yn w U.size r) ⟨l,none,hi,h0 v N Q,O⟩ ?_;rintro z w ⟨todo,g,i,D,m⟩;refine⟨rfl,some r,l,todo,g,i,λL=>?_,λn x E M P j=>?_⟩
 .subst L;exact hend z w D
 .refine⟨rfl,some r,l,_,n,x,j,hstep todo n x z w M _ D E P m λz' u C s p=>?_⟩;have d:=j.bT C s;refine⟨⟨_,_,d,p,?_⟩,?_⟩
  .obtain⟨R,G,F,H,_⟩:=d;exact(jT.1 H).1
  .rw[d.num,i.num];exact D5.2 ⟨(n,x),E,by simp⟩
end Go.Vc
namespace Go.Ar
open Go Go.Vc Go.Proofs
open Go.Bu (ZF)
variable {U:Hp}{F:Rg}{p q r:Nat}{sp:Sp}{l:List (Int×Sl)}{B:Nat->Nat}
theorem Qd {α:Type}{l:List (Int×α)}(hn:(l.map (·.1)).Nodup){n:Int}{x:α}(h:(n,x)∈l):bS l n=some x:=by
 induction l with
 | nil=>simp at h
 | cons y l ih=>
  rw[KV];simp only[zR,zr]at hn;rcases zW.1 h with h1|h1
  .subst h1;rw[zC rfl]
  .have:¬y.1=n:=λe=>hn.1 (zE.2 ⟨_,h1,e.symm⟩);rw[zB this];exact ih hn.2 h1
end Go.Ar
namespace Go.Bu
open Go Go.Vc Go.Proofs
variable {U:Hp}{p n sb:Nat}{S:Nat->Bool}{ms:List Nat}
def kJ (ms:List Nat):List Value:=ms.map λm=>Value.map (some m)
structure Part (B:Nat) (h:Hp) (p n:Nat) (j:Nat) (s:Sl) (ms:List Nat):Prop where
 len:ms.length=j
 sl:s.len=j
 hd:bY h p [.int .i64 n,.slice s.a s.len s.cap]
 own:Go.Vc.Own (λb=>B<=b/\b≠p/\b∉ms) h s 1 (kJ ms)
 new:∀m∈ms,B<=m/\m≠p/\m<h.size
 nd:ms.Nodup
theorem Part.done {B:Nat}{h:Hp}{j:Nat}{s:Sl}(hp:Part B h p n j s ms)(hB:B<=p)(hj:0<j)(n1:1<=n)(n2:n<=1024)(lo:2^j<=2*n)(hi:n<2^j)(jH:Bounded S n)
 (maps:∀k m,ms[k]?=some m->∃B:List (Int×Bool),dM h m .i64 .b B/\Keys S k B):∃sb,BH h p n S sb ms/\∀b,fp p sb ms b->B<=b:=by
 rcases hp.own.2 with⟨_,hl,_⟩|⟨sb,cs,⟨hq,hqp,hqm⟩,ha,hb,hle,hcl,ht⟩
 .have:=hp.sl;omega
 .refine⟨sb,⟨?_,?_,maps,?_,n1,n2,?_,?_,jH⟩,?_⟩
  .refine⟨s.cap,?_⟩;have:=hp.hd;rw[ha,hp.sl,←hp.len]at this;exact this
  .refine⟨cs.drop (kJ ms).length,?_⟩;have:kJ ms++cs.drop (kJ ms).length=cs:=by
    conv=>lhs;lhs;rw[←ht]
    exact oQ _ _
   show bY h sb (kJ ms++_);rw[this];exact hb
  .simp only[zr,zW,not_or];exact⟨⟨λe=>hqp e.symm,λa=>(hp.new p a).2.1 rfl⟩,hqm,hp.nd⟩
  .rw[hp.len];exact lo
  .rw[hp.len];exact hi
  .intro b hb;simp only[fp,zW]at hb;rcases hb with rfl|rfl|h
   .exact hB
   .exact hq
   .exact(hp.new b h).1
theorem Part.OC {B:Nat}{h:Hp}{j:Nat}{s:Sl}(hp:Part B h p n j s ms):cell h ⟨p,1,none⟩=some (.slice s.a s.len s.cap):=by rw[hp.hd.cell];rfl
theorem Part.bP {B:Nat}{h h':Hp}{j:Nat}{s:Sl}(hp:Part B h p n j s ms)(e:aF h h'):Part B h' p n j s ms:=
 ⟨hp.len,hp.sl,e.bV hp.hd id,hp.own.bP e,λm a=>⟨(hp.new m a).1,(hp.new m a).2.1,wH (hp.new m a).2.2 e.1⟩,hp.nd⟩
theorem Part.step {B:Nat}{h:Hp}{j m e t bytes:Nat}{s:Sl}{zs:List Value}{K:Sl->Hp->Prop}(hp:Part B h p n j s ms)(hj:j<=1000)(hbt:bytes<=1000)(hz:zs.length=1)(hm:B<=m)(hmp:m≠p)(hml:m<h.size)(hmn:m∉ms)(hms:¬H8 s m)
 (hpB:p<h.size) (hBh:B<=h.size)
 (hgo:∀s' h',Ext (H8 s) h h'->s'.len=j+1->bY h' p [.int .i64 n,.slice s.a s.len s.cap] →
  (∀h2,Ka h' h2 p->bY h2 p [.int .i64 n,.slice s'.a s'.len s'.cap]->Part B h2 p n (j+1) s' (ms++[m]))->K s' h') :
 App s 1 bytes e zs ⟨some ⟨h.size,0,none⟩,1,1⟩ (h.push (.cells #[.map (some m)] t (0,0))) K:=by
 have N:=hp.sl;have y:Go.Vc.Own (λb=>B<=b/\b≠p/\b∉ms++[m]) (h.push (.cells #[.map (some m)] t (0,0))) s 1 (kJ ms):=by
  have d:=hp.own;have h2:Go.Vc.Own (λb=>B<=b/\b≠p/\b∉ms++[m]) h s 1 (kJ ms):=by
   refine⟨d.1,d.2.imp id ?_⟩;rintro⟨b,cs,⟨q1,q2,q3⟩,ha,r⟩;refine⟨b,cs,⟨q1,q2,?_⟩,ha,r⟩;simp only[zJ,zN,not_or];exact⟨q3,λe=>hms ⟨0,by rw[ha,e]⟩⟩
  exact h2.bP (Ga _ _)
 have z:(h.push (.cells #[.map (some m)] t (0,0))).size=h.size+1:=by simp
 refine y.app (ys:=[.map (some m)]) ?_ hz rfl Wnt (by simp[dY]) ?_ ?_ nc λs' h' A E G L=>?_
 .intro b i;rw[z]at i;refine⟨O,O,?_⟩;simp only[zJ,zN,not_or];exact⟨λw=>by have:=(hp.new b w).2.2;omega,O⟩
 .simp only;have:(s.len+1)*bytes<=1001*1000:=mC O hbt;omega
 .simp only;omega
 .simp only at A;have g:Ext (H8 s) h h':=(Ga h _).to.trans E;have C:¬H8 s p:=λi=>(hp.own.jq i).1.2.1 rfl;refine hgo s' h' g O (g.bV hp.hd C) λh2 u D=>⟨by simp[hp.len],O,D,?_,?_,?_⟩
  .have:kJ (ms++[m])=kJ ms++[.map (some m)]:=by simp[kJ]
   rw[this];exact G.bT (Ext.eW (F:=(· = p)) u rfl) (λb M _ H=>M.2.1 H)
  .intro x hx;have J:h2.size=h'.size:=u.1;have:=g.1;rcases zJ.1 hx with d|d
   .have:=hp.new x d;exact⟨this.1,this.2.1,O⟩
   .simp at d;subst d;exact⟨hm,hmp,O⟩
  .rw[m9];refine⟨hp.nd,by simp,?_⟩;intro a ha b i;simp at i;subst i;rintro rfl;exact hmn ha
def iz:Nat->Bool:=λ_=>false
theorem Sy (k:Nat):Keys iz k []:=by
 refine⟨by simp,λq a=>?_⟩;have:=Ur a (Vl k q);simp[iz]at this
theorem uK (aG:Int){R:Option Addr->Int->Hp->Prop}(hbad:¬(1<=aG/\aG<=1024)->R none 1 U)
 (hR:∀(n:Nat),aG=(n:Int)->1<=n->n<=1024->∀σ' sb ms,aF U σ'->BH σ' U.size n iz sb ms->(∀b,fp U.size sb ms b->U.size<=b)->R (some ⟨U.size,0,none⟩) 0 σ'):Ky.c aG U R:=by
 refine Ky.o ?_;unfold Ky.v;refine bX.intro (cN (λg=>cF rfl (hbad O)) λg=>?_);refine cN (λh2=>hbad O) λh2=>?_;obtain⟨n,rfl⟩:=zc (show 0<=aG by omega);have L:1<=n:=O
 have M:n<=1024:=O
 unfold Nw;have e0:=Ga U (.cells #[.int .i64 (n:Int),.slice none 0 0] 52 (0,0));refine Qg (a:=bO) (λt h=>∃(j:Nat) (s:Sl) (ms:List Nat),t=((2^j:Nat):Int)/\2^j<=2*n/\aF U h/\U.size<h.size/\Part U.size h U.size n j s ms/\∀m∈ms,dM h m .i64 .b []) (λt _=>2*n+1-t.toNat)
  ⟨0,⟨none,0,0⟩,[],rfl,by simp;omega,Ext.push _ _ _,by simp,⟨rfl,rfl,bY.push _ _ _,Own.nil _ _ _,by simp,by simp⟩,by simp⟩ ?_
 rintro t h ⟨j,s,ms,rfl,D,K,N,d,w⟩;have hj:j<=11:=by
  apply Classical.byContradiction;intro hc;have:2^12<=2^j:=pc aB O;omega
 have Q:=lb j;refine cN (λhle=>?_) (λA=>?_)
 .refine bL ?_;rw[add_lit,zH];refine oL d.OC ?_;have e1:=Ga h (.map #[] 0);have W:(h.push (.map #[] 0)).size=h.size+1:=by simp
  have H:=d.bP e1;refine H.step (m:=h.size) O O rfl O O O (λy=>by have:=(d.new _ y).2.2;omega) (λr=>by have:=(d.own.jq r).2;omega) O O λZ h' B hl r u=>?_;refine bL (r.Rk aA λh2 z J=>?_);have C:=u h2 z J;have G:aF U h2:=by
   refine Ext.fresh (Ext.fresh (K.trans e1) B λi hi=>(d.own.jq hi).1.1) (Ext.eW (F:=(· = U.size)) z rfl) λi hi=>?_;rw[hi];exact zD _
  refine cT (m:=2^(j+1)) (by rw[mM];omega) (by rw[mM];omega) ⟨⟨j+1,Z,ms++[h.size],rfl,by rw[mM];omega,G,?_,C,?_⟩,by rw[mM];omega⟩
  .have:=z.1;have:=B.1;omega
  .intro m y;have qx:∀{m:Nat},dM (h.push (.map #[] 0)) m .i64 .b []->¬H8 s m->m≠U.size->dM h2 m .i64 .b []:=λP Y E=>H9 z (B.fX P Y) E;rcases zJ.1 y with g|g
   .exact qx (e1.fX (w m g) id) (λr=>(d.own.jq r).1.2.2 g) (d.new m g).2.1
   .simp at g;subst g;exact qx (dM.push _ _ _) (λr=>by have:=(d.own.jq r).2;omega) O
 .have p:0<j:=by
   rcases CF j with e|e
   .subst e;simp at A;omega
   .exact e
  obtain⟨sb,hB,V⟩:=d.done (S:=iz) (zD _) p L M D O (λx X=>by simp[iz]at X) λk m y=>⟨[],w m (zG y),Sy k⟩;exact hR n rfl L M h sb ms K hB V
end Go.Bu
namespace Go.Proofs
open Go.Vc
set_option maxRecDepth 100000
def Xv.h:Hn:=.q .o1 (.q (.cU (.seq [.op,.op,.op,.cZ true 5 (RI.ops 5),.op])) .l)
def Xv.v (a:R2)(b:Hp)(c:aO):Prop:=bX (λd e=>c d e) λf=>If (!a.isNone) (bG a 1 b λh=>f (!h.isNone) b) (f false b)
theorem Xv.o {a b c}(d:Xv.v a b c):Xv.c a b c:=Wa Tryz.func133 (x:=Xv.h) (R0 d)
def Kx.h:Hn:=.q .o2 (.q (.q .o3 .aJ) (.q .o3 (.q (.q (.cU (.seq [.op,.op,.op,.cZ false 3 (RI.ops 3),.op,.cZ false 2 [.op,.op],.op,.cZ false 2 [.op,.op]])) .aJ) (.q .o8 (.q .o9 (.q .o9 (.q (.q .o3 (.k (.loop [(61,.I)] (.q .o1 (.q (.c .l .l) (.q (.k (.q .o4 (.q .o7 (.q .o9 (.cU (.gM true [18,21] [] (.tk [0,1,2,3,4,5,6,9,10,11,12,13] (.all [(7,.all [(8,.all [(14,.all [(15,.take 16 (.take 17 (.all [(18,.take 19 (.take 20 (.all [(21,.done)])))])))])]),(14,.all [(8,.all [(15,.take 16 (.take 17 (.all [(18,.take 19 (.take 20 (.all [(21,.done)])))])))])])]),(14,.all [(7,.all [(8,.all [(15,.take 16 (.take 17 (.all [(18,.take 19 (.take 20 (.all [(21,.done)])))])))])])])])))))))) .o2)))))) (.q .o3 .l))))))))
def Kx.v (a:Sl)(b:R2)(c:Int)(d:Hp)(e:Option Addr->Int->Hp->Prop):Prop:=ZZ.c a d λf g=>If (!f) (e none 2 g) (X3.c b g λh i=>bX (λj k=>bX (λl m=>bX (λn o=>If n (e none 1 o) (Wo.c a o λp q=>QL.c q λr s=>Nw (.map #[] 0) s λt u=>aV #[.slice p.a p.len p.cap,.pointer b,.pointer none,.pointer none,.pointer r,.slice none 0 0,.slice none 0 0,.map (some t.block)] 199 u λv w=>Ky.c h w λx y z=>bW (some v) λaa=>aR aa 2 (.pointer x) z λab=>Vj.c h ab λac ad ae=>bW (some v) λaf=>aR af 3 (.pointer ac) ae λag=>X9 [bO] (λah=>ah 0 ag) λai (aj:Int) ak=>If (aj<((a.len:Nat):Int)) (Ix a.a a.len aj 3 λal=>aQ al 0 ak λam=>aQ al 1 ak λan=>aQ al 2 ak λao=>aV #[.I 0,.I 0,.I 0] 149 ak λap aq=>aR ap 0 (.I am) aq λar=>aR ap 1 (.I an) ar λau=>aR ap 2 (.I ao) au λav=>aQ ap 0 av λaw=>aQ ap 1 av λax=>aQ ap 2 av λay=>QJ.c aw ax ay av λaz a0 a1=>aQ ap 2 a1 λa2=>Qj.c a2 c a1 λa3 a4 a5=>Jn [] (λa6=>bM (aj+1) λa7=>ai a7 a6) λa8=>dT a5 λa9=>bW (some v) λba=>aT a9 ba 5 λbb=>bW (some v) λbc=>aT a9 bc 6 λbd=>(aV #[.pointer az] 202 a5 λbe bf=>And (a9 bf) <| (App bb 1 8 202 [.pointer none] ⟨some be,1,1⟩ bf λbg bh=>And (a9 bh) <| aV #[.pointer a3] 204 bh λbi bj=>And (a9 bj) <| App bd 1 8 204 [.pointer none] ⟨some bi,1,1⟩ bj λbk bl=>And (a9 bl) <|
 bW (some v) λbm=>aR bm 5 (.slice bg.a bg.len bg.cap) bl λbn=>bW (some v) λbo=>aR bo 6 (.slice bk.a bk.len bk.cap) bn λbp=>a8 bp) ∧ (aV #[.pointer a3] 204 bf λbq br=>And (a9 br) <| App bb 1 8 202 [.pointer none] ⟨some be,1,1⟩ br λbs bt=>And (a9 bt) <| App bd 1 8 204 [.pointer none] ⟨some bq,1,1⟩ bt λbu bv=>And (a9 bv) <| bW (some v) λbw=>aR bw 5 (.slice bs.a bs.len bs.cap) bv λbx=>bW (some v) λbz=>aR bz 6 (.slice bu.a bu.len bu.cap) bx λb0=>a8 b0)) ∧ (aV #[.pointer a3] 204 a5 λb1 b2=>And (a9 b2) <| aV #[.pointer az] 202 b2 λb3 b4=>And (a9 b4) <| App bb 1 8 202 [.pointer none] ⟨some b3,1,1⟩ b4 λb5 b6=>And (a9 b6) <| App bd 1 8 204 [.pointer none] ⟨some b1,1,1⟩ b6 λb7 b8=>And (a9 b8) <| bW (some v) λb9=>aR b9 5 (.slice b5.a b5.len b5.cap) b8 λca=>bW (some v) λcb=>aR cb 6 (.slice b7.a b7.len b7.cap) ca λcc=>a8 cc)) (e (some v) 0 ak))) λcd=>If l (cd true m) (cd (decide (c>8)) m)) λce=>If j (ce true k) (ce (decide (c<0)) k)) λcf=>If (h<32) (cf true i) (Nz 16 <| cf ((h.tmod 16) != 0) i))
theorem Kx.o {a b c d e}(f:Kx.v a b c d e):Kx.c a b c d e:=Wa Tryz.func154 (x:=Kx.h) (R0 f)
def WU.h:Hn:=.q .o2 (.q (.q .o4 (.q .o2 (.c (.q .o3 .l) .l))) (.q (.o 12) .l))
def WU.v (a:R2)(b:Int)(c:Hp)(d:Sl->Int->Hp->Prop):Prop:=Xh.c a b c λe f=>If (e != 0) (d ⟨none,0,0⟩ e f) (bF a 6 f λh=>Ix h.a h.len b 1 λi=>fZ i f λj=>WT.c j f λk l m=>d k l m)
theorem WU.o {a b c d}(e:WU.v a b c d):WU.c a b c d:=Wa Tryz.func169 (x:=WU.h) (R0 e)
def WZ.h:Hn:=.q .o2 (.q (.q .o4 (.q .o2 (.c (.q .o3 .l) .l))) (.q (.o 13) .l))
def WZ.v (a:R2)(b c:Int)(d:Hp)(e:Sl->Int->Hp->Prop):Prop:=Xh.c a b d λf g=>If (f != 0) (e ⟨none,0,0⟩ f g) (bF a 5 g λi=>Ix i.a i.len b 1 λj=>fZ j g λk=>Xt.c k c g λl m n=>e l m n)
theorem WZ.o {a b c d e}(f:WZ.v a b c d e):WZ.c a b c d e:=Wa Tryz.func171 (x:=WZ.h) (R0 f)
def Yr.h:Hn:=.q .o1 (.q (.q .o4 (.q .o2 .aJ)) (.q (.o 17) (.q (.q .o2 .aJ) (.q .gE .l))))
def Yr.v (a:R2)(b:Int)(c:Hp)(d:aN):Prop:=Xh.c a b c λe f=>If (e != 0) (d e f) (bF a 0 f λh=>Ix h.a h.len b 3 λi=>aQ i 1 f λj=>bM (b+1) λk=>Y3.c a j 1 k f λl m n=>If (m != 0) (d m n) (bF a 5 n λp=>Ix p.a p.len b 1 λq=>fZ q n λr=>Zc.c r l n λs t=>d s t))
theorem Yr.o {a b c d}(e:Yr.v a b c d):Yr.c a b c d:=Wa Tryz.func172 (x:=Yr.h) (R0 e)
def Xe.h:Hn:=.q .o2 (.q (.k (.q .o4 (.c .aL (.q (.cU (.seq [.op,.op,.op,.cZ false 2 [.op,.op],.op,.cZ false 2 [.op,.op],.op,.cZ false 2 [.op,.op],.op,.cZ false 5 (RI.ops 5),.op])) .aJ)))) (.q .o9 (.q (.q .o2 (.c (.q .o3 .l) .l)) (.q .o7 (.q .o3 .l)))))
def Xe.v (a:R2)(b c:Int)(d:Hp)(e:Int->Int->Hp->Prop):Prop:=Xv.c a d λf g=>If (!f) (e 0 5 g) (bX (λh i=>bX (λj k=>bX (λl m=>bX (λn o=>If n (e 0 1 o) (Y3.c a b c 41 o λp q r=>If (q != 0) (e 0 q r) (bJ a 7 r λt=>kS .i64 bO t p b r λu=>e p 0 u))) λv=>If l (v true m) (bM (c-1) λw=>v ((bits .and .i64 c w) != 0) m)) λx=>If j (x true k) (x (decide (c>16)) k)) λy=>If h (y true i) (y (decide (c<1)) i)) λz=>If (b<1) (z true g) (z (decide (b>64)) g))
theorem Xe.o {a b c d e}(f:Xe.v a b c d e):Xe.c a b c d e:=Wa Tryz.func174 (x:=Xe.h) (R0 f)
def Xf.h:Hn:=.q .o1 (.q (.q .o3 .aK) (.q (.o 11) (.q (.q .o2 .aK) (.q .o6 (.q .o6 .aM)))))
def Xf.v (a:R2)(b:Int)(c:Hp)(d:aN):Prop:=Xv.c a c λe f=>If (!e) (d 5 f) (bJ a 7 f λh=>Lk .i64 bO h b f λi=>If (!i.isSome) (d 8 f) (bJ a 7 f λk=>l5 .i64 bO k b f λl=>aV #[.I b,.I (i.getD 0)] 268 l λm n=>Yv.c a ⟨some m,1,1⟩ n λo=>d 0 o))
theorem Xf.o {a b c d}(e:Xf.v a b c d):Xf.c a b c d:=Wa Tryz.func182 (x:=Xf.h) (R0 e)
def Yv.h:Hn:=.q .o3 (.k (.loop [(8,.I)] (.q .o1 (.q (.c .l .l) (.q (.k (.q .o4 (.q (.cU (.tail 8 (RI.ops 8) [.op])) (.q (.cU (.tail 8 (RI.ops 8) [.op])) (.cU (.tail 8 (RI.ops 8) [.op])))))) .o2)))))
def Yv.v (a:R2)(b:Sl)(c:Hp)(d:aP):Prop:=X9 [bO] (λe=>e 0 c) λf (g:Int) h=>If (g<((b.len:Nat):Int)) (Ix b.a b.len g 2 λi=>aQ i 0 h λj=>aQ i 1 h λk=>aV #[.I 0,.I 0] 268 h λl m=>aR l 0 (.I j) m λn=>aR l 1 (.I k) n λo=>bG a 4 o λq=>aQ l 0 o λr=>aQ l 1 o λs=>X4.c q r s o λt u=>bG a 3 u λw=>aQ l 0 u λx=>aQ l 1 u λy=>XN.c w x y u λz aa=>bG a 2 aa λac=>aQ l 0 aa λad=>aQ l 1 aa λae=>Yl.c ac ad ae aa λaf ag=>bM (g+1) λah=>f ah ag) (d h)
theorem Yv.o {a b c d}(e:Yv.v a b c d):Yv.c a b c d:=Wa Tryz.func184 (x:=Yv.h) (R0 e)
def Xd.h:Hn:=.q .o1 (.q (.q .o4 (.q .o2 .aJ)) (.q (.o 14) (.q (.q .o2 .aJ) (.q .o3 .aM))))
def Xd.v (a:R2)(b:Int)(c:Sl)(d:Hp)(e:aN):Prop:=Xh.c a b d λf g=>If (f != 0) (e f g) (bF a 5 g λi=>Ix i.a i.len b 1 λj=>fZ j g λk=>Y9.c k c g λl m n=>If (m != 0) (e m n) (Yv.c a l n λo=>e 0 o))
theorem Xd.o {a b c d e}(f:Xd.v a b c d e):Xd.c a b c d e:=Wa Tryz.func194 (x:=Xd.h) (R0 f)
def Xh.h:Hn:=.q .o1 (.q (.k (.q .o4 (.c .aM (.q (.cU (.seq [.op,.op,.op,.cZ false 7 (RI.ops 7),.op])) .aK)))) .aM)
def Xh.v (a:R2)(b:Int)(c:Hp)(d:aN):Prop:=Xv.c a c λe f=>If (!e) (d 5 f) (bX (λg h=>If g (d 1 h) (d 0 h)) λi=>If (b<0) (i true f) (bF a 0 f λk=>i (decide (b≥((k.len:Nat):Int))) f))
theorem Xh.o {a b c d}(e:Xh.v a b c d):Xh.c a b c d:=Wa Tryz.func231 (x:=Xh.h) (R0 e)
def Y3.h:Hn:=.q .o2 (.q (.o 12) (.kx [(10,.I),(11,.I)] (.q .o2 (.c (.q .o1 (.q (.k (.loop [(12,.I)] (.q (.q .o5 (.c .l .l)) (.k .o3)))) (.q (.q .o4 .aJ) (.o 12)))) .l)) (.q (.q .o2 (.c (.q .o3 .l) .l)) (.q .o7 (.q .o8 (.q .o3 .l))))))
def Y3.v (a:R2)(b c d:Int)(e:Hp)(f:Int->Int->Hp->Prop):Prop:=bG a 2 e λh=>X1.c h b c e λi j k=>Jn [bO,bO] (λ(l:Int) (m:Int) n=>If (m != 0) (f 0 m n) (bG a 3 n λp=>XV.c p l b n λq r=>bG a 4 r λt=>Yx.c t l b d r λu v=>f l 0 v)) λw=>If (j==6) (X9 [bO] (λx=>x 16 k) λy (z:Int) aa=>If (z<(if c>b then c else b)) (bM (z*2) λab=>y ab aa) (Zd.c a z aa λac ad=>If (!ac) (f 0 6 ad) (bG a 2 ad λaf=>X1.c af b c ad λag ah ai=>w ag ah ai))) (w i j k)
theorem Y3.o {a b c d e f}(g:Y3.v a b c d e f):Y3.c a b c d e f:=Wa Tryz.func234 (x:=Y3.h) (R0 g)
def Za.h:Hn:=.q .o3 (.q (.q .o3 (.c (.q .o3 .l) .l)) (.q (.q .o2 (.c (.q .o3 .l) .l)) (.q .o8 (.q (.q .o2 (.c (.q .o3 .l) .l)) (.kx [] (.q .o2 (.c (.q .o5 (.k (.loop [] (.q (.cU (.seq [.it .i64 bO,.op])) (.q (.c .l .l) (.k (.q (.cU (.seq [.it .i64 bO,.op,.op,.op,.op])) (.q .o3 (.q (.cU (.seq [.op,.op,.op,.op,.cZ true 5 (RI.ops 5)])) (.c (.q .o5 .l) .l)))))))))) .l)) (.q (.o 15) (.q (.q .o2 (.c (.q .o4 .l) .l)) (.q .o6 .l))))))))
def Za.v (a:R2)(b:Int)(c:Hp)(d:Int->Int->Int->Hp->Prop):Prop:=Xv.c a c λe f=>If (!e) (d 0 0 5 f) (If (b<0) (d 0 0 8 f) (bG a 4 f λh=>Nz 256<|bM (b.tdiv 256) λi=>Zx.c h i f λj k=>If (j==0) (d 0 0 8 k) (Jn [] (λl=>bF a 5 l λn=>bM (j-1) λo=>Ix n.a n.len o 1 λp=>fZ p l λq=>YO.c q b l λr s t=>If (s != 0) (d 0 0 s t) (bM (j-1) λu=>d u r 0 t)) λv=>If (j==41) (bJ a 7 k λx=>pF .i64 bO x k λy z=>X9 [] (λaa=>aa z) λab ac=>pE .i64 bO y ac (v ac) (λad ae af=>po .i64 bO y af λag ah=>Nz 256<|bM (b.tdiv 256) λai=>bX (λaj ak=>If aj (bM (ag*256) λal=>d (-1) al 0 ak) (ab ak)) λam=>If (ag<=ai) (bM (ag+ah) λan=>am (decide (ai<an)) af) (am false af))) (v k))))
theorem Za.o {a b c d}(e:Za.v a b c d):Za.c a b c d:=Wa Tryz.func238 (x:=Za.h) (R0 e)
def W6.h:Hn:=.q .o2 (.q (.q .o4 (.q .o2 (.c (.q .o3 .l) .l))) (.q (.q (.o 11) .aJ) (.q (.q .o3 (.k (.loop [(32,.I)] (.q .o1 (.q (.c .l .l) (.q (.k (.q .o3 (.q (.o 14) (.q (.cU (.seq [.op,.op,.op,.cZ false 2 [.op,.op]])) .aJ)))) .o2)))))) (.q (.o 13) .l))))
def W6.v (a:R2)(b:Int)(c:Sl)(d:Hp)(e:Bool->Int->Hp->Prop):Prop:=Xh.c a b d λf g=>If (f != 0) (e false f g) (bF a 0 g λi=>Ix i.a i.len b 3 λj=>aQ j 2 g λk=>If (((c.len:Nat):Int) != k) (e false 1 g) (X9 [bO] (λl=>l 0 g) λm (n:Int) o=>If (n<((c.len:Nat):Int)) (Ix c.a c.len n 1 λp=>bN p o λq=>bF a 5 o λs=>Ix s.a s.len b 1 λt=>fZ t o λu=>Xp.c u q o λv w x=>bX (λy z=>If y (e false 8 z) (bM (n+1) λaa=>m aa z)) λab=>If (w != 0) (ab true x) (ab (!v) x)) (bF a 6 o λad=>Ix ad.a ad.len b 1 λae=>fZ ae o λaf=>Xr.c af c o λag ah ai=>e ag ah ai)))
theorem W6.o {a b c d e}(f:W6.v a b c d e):W6.c a b c d e:=Wa Tryz.func242 (x:=W6.h) (R0 f)
def Y6.h:Hn:=.q .o1 (.q (.cU (.seq [.op,.op,.op,.cZ true 7 (RI.ops 7),.op])) .l)
def Y6.v (a:R2)(b:Int)(c:Hp)(d:aO):Prop:=Xv.c a c λe f=>bX (λg h=>d g h) λi=>If e (bG a 3 f λk=>Yf.c k b f λl m=>i (decide (l>0)) m) (i false f)
theorem Y6.o {a b c d}(e:Y6.v a b c d):Y6.c a b c d:=Wa Tryz.func284 (x:=Y6.h) (R0 e)
def Zd.h:Hn:=.q .o1 (.q (.q .o2 (.k (.loop [(5,.I)] (.q (.q .o9 (.c .l .l)) (.q (.k (.q (.q .o8 (.c .l .l)) (.q (.q .o3 (.k (.loop [(6,.I)] (.q (.q .o6 (.c .l .l)) (.q (.k .o6) .o3))))) (.q .o7 .aM)))) .o4))))) .aM)
def Zd.v (a:R2)(b:Int)(c:Hp)(d:aO):Prop:=X9 [bO] (λe=>e b c) λf (g:Int) h=>bM (g+b) λi=>bG a 1 h λk=>X3.c k h λl m=>If (i<=l) (bG a 1 m λo=>Zw.c o g b m λp q=>If (p != 0) (bM (g+b) λr=>f r q) (Nz 16<|bM (g.tdiv 16) λs=>X9 [bO] (λt=>t s q) λu (v:Int) w=>bM (g+b) λx=>Nz 16<|bM (x.tdiv 16) λy=>If (v<y) (bG a 3 w λaa=>Yk.c aa v w λab ac=>bM (v+1) λad=>u ad ac) (bG a 2 w λaf=>Yl.c af g b w λag ah=>d true ah))) (d false m)
theorem Zd.o {a b c d}(e:Zd.v a b c d):Zd.c a b c d:=Wa Tryz.func287 (x:=Zd.h) (R0 e)
end Go.Proofs
namespace Go.Ar
open Go Go.Vc Go.Proofs
open Go.Bu (ZF Kj ZD)
inductive Lb where
 | hd|dI|free|om|own|dW|cS|runs
 | cG (k:Nat)
 | cR (k:Nat)
 deriving DecidableEq
structure Lay where
 p:Nat
 hs:Nat
 fr:Nat
 tr:Nat
 op:Nat
 rn:Nat
 dI:Sl
 dW:Sl
 cS:Sl
 fN:List Nat
 gC:List Nat
def k8 (Y:Lay):List Value:=[.slice Y.dI.a Y.dI.len Y.dI.cap,.pointer (some ⟨Y.hs,0,none⟩),.pointer (some ⟨Y.fr,0,none⟩),.pointer (some ⟨Y.tr,0,none⟩),.pointer (some ⟨Y.op,0,none⟩),.slice Y.dW.a Y.dW.len Y.dW.cap,.slice Y.cS.a Y.cS.len Y.cS.cap,.map (some Y.rn)]
def gK (tb:List cA):List Value:=tb.flatMap λc=>[.int .i64 (c.size:Int),.int .i64 (c.aG:Int),.int .i64 (c.batch:Int)]
def fR (l:List Nat):List Value:=l.map λb=>.pointer (some ⟨b,0,none⟩)
def iS (l:List (Nat×Nat)):List (Int×Int):=l.map λr=>((r.1:Int),(r.2:Int))
def tQ (p n:Nat)(S:Nat->Bool):Hp->Rg->Prop:=λU F=>∃sb ms,Go.Bu.BH U p n S sb ms/\∀b,Go.Bu.fp p sb ms b->F b
def mT (p:Nat)(st:List Nat):Hp->Rg->Prop:=λU F=>∃q,iv U p q st/\F p/\F q
def j4 (p:Option Nat)(c:Option cA)(ss:Option (List cH)):Hp->Rg->Prop:=λU F=>match p,c,ss with
 | some p,some c,some ss=>∃ps,fJ U F p c ps ss
 | _,_,_=>True
def ld (p:Option Nat)(c:Option cA)(room:Nat)(t:Option gQ):Hp->Rg->Prop:=λU F=>match p,c,t with
 | some p,some c,some t=>iV U F p c.batch room t
 | _,_,_=>True
def AC (A:AR)(Y:Lay)(T:Nat->Hp->Rg->Prop):Lb->Hp->Rg->Prop
 | .hd=>iB Y.p (k8 Y)
 | .dI=>cV Y.dI 3 (gK A.tb)
 | .free=>tQ Y.fr A.n A.S
 | .om=>mT Y.tr A.st
 | .own=>λU F=>jl U F Y.op A.ow
 | .dW=>bU Y.dW 1 (fR Y.fN)
 | .cS=>bU Y.cS 1 (fR Y.gC)
 | .runs=>jR Y.rn .i64 bO (iS A.runs)
 | .cG k=>j4 Y.fN[k]? A.tb[k]? A.cG[k]?
 | .cR k=>T k
def cM (A:AR)(Y:Lay)(k:Nat):Hp->Rg->Prop:=ld Y.gC[k]? A.tb[k]? A.room A.cR[k]?
theorem tQ.loc (p n:Nat)(S:Nat->Bool):dP (tQ p n S):=by
 rintro U σ' F G ⟨j,i,h,r⟩ w s;have d:∀b,Go.Bu.fp p j i b->b<U.size:=λb a=>by
  unfold Go.Bu.fp at a;rcases zW.1 a with h1|h1
  .obtain⟨c,g⟩:=h.hd;rw[h1];exact g.lt
  rcases zW.1 h1 with h2|h2
  .obtain⟨c,g⟩:=h.row;rw[h2];exact g.lt
  .obtain⟨k,x⟩:=zP h2;obtain⟨B,y,_⟩:=h.maps k b x;exact y.lt
 have e:Ext (λb=>¬Go.Bu.fp p j i b) U σ':=⟨w,λb a m=>(s b a (r b (Classical.not_not.1 m))).2⟩;exact⟨j,i,h.bT e λb a u=>u a,λb a=>(s b (d b a) (r b a)).1⟩
theorem mT.loc (p:Nat)(st:List Nat):dP (mT p st):=by
 rintro U σ' F G ⟨q,h,m,j⟩ r a;have e:Ext (λb=>b≠p/\b≠q) U σ':=⟨r,λb i s=>by
  by_cases h1:b=p
  .subst h1;exact(a b i m).2
  .have g:b=q:=Classical.byContradiction λg=>s ⟨h1,g⟩;subst g;exact(a b i j).2⟩
 exact⟨q,h.bT e (λd=>d.1 rfl) (λd=>d.2 rfl),(a p h.lt.1 m).1,(a q h.lt.2 j).1⟩
theorem j4.loc (p:Option Nat)(c:Option cA)(ss:Option (List cH)):dP (j4 p c ss):=by
 rintro U g F G h a b;unfold j4 at *;split
 .simp only at h;obtain⟨d,h⟩:=h;exact⟨d,fJ.loc _ _ _ _ h a b⟩
 .trivial
theorem ld.loc (p:Option Nat)(c:Option cA)(room:Nat)(t:Option gQ):dP (ld p c room t):=by
 rintro U d F G h a b;unfold ld at *;split
 .exact iV.loc _ _ _ _ h a b
 .trivial
theorem AC.loc {A:AR}{Y:Lay}{T:Nat->Hp->Rg->Prop}(hT:∀k,dP (T k)):∀i,dP (AC A Y T i)
 | .hd=>iB.loc _ _
 | .dI=>cV.loc _ _ _
 | .free=>tQ.loc _ _ _
 | .om=>mT.loc _ _
 | .own=>jl.loc
 | .dW=>bU.loc _ _ _
 | .cS=>bU.loc _ _ _
 | .runs=>jR.loc _ _ _ _
 | .cG k=>j4.loc _ _ _
 | .cR k=>hT k
theorem cM.loc {A:AR}{Y:Lay}(k:Nat):dP (cM A Y k):=ld.loc _ _ _ _
structure fC (A:AR) (Y:Lay):Prop where
 c:Y.fN.length=A.tb.length
 t:Y.gC.length=A.tb.length
 cG:A.cG.length=A.tb.length
 cR:A.cR.length=A.tb.length
 oe:1<=A.tb.length
 rJ:A.tb.length<=40
 n1:32<=A.n
 n2:A.n<=1024
 n3:A.n%16=0
 st:A.st.length=A.n
 room:A.room<=8
 ok:∀c∈A.tb,c.ok
structure dL (U:Hp) (F:Rg) (Y:Lay) (A:AR) (T:Nat->Hp->Rg->Prop):Prop where
 lay:fC A Y
 tl:∀k,dP (T k)
 sep:Sep (AC A Y T) U F
def AH (U:Hp)(F:Rg)(p hs:Nat)(A:AR):Prop:=∃Y:Lay,Y.p=p/\Y.hs=hs/\dL U F Y A (cM A Y)
variable {U:Hp}{F:Rg}{p hs:Nat}{A:AR}{Y:Lay}{T:Nat->Hp->Rg->Prop}
theorem dL.loc:dP λU F=>dL U F Y A T:=λU d F G h a b=>⟨h.lay,h.tl,Sep.loc (AC.loc h.tl) _ _ _ _ h.sep a b⟩
theorem AH.loc:dP λU F=>AH U F p hs A:=λU g F G ⟨Y,a,b,h⟩ d hs=>⟨Y,a,b,dL.loc _ _ _ _ h d hs⟩
theorem dL.bP {σ':Hp}(h:dL U F Y A T)(e:aF U σ'):dL σ' F Y A T:=dP.bP dL.loc h e
theorem AH.bP {σ':Hp}(h:AH U F p hs A)(e:aF U σ'):AH σ' F p hs A:=dP.bP AH.loc h e
theorem dL.hd (h:dL U F Y A T):bY U Y.p (k8 Y):=by
 obtain⟨G,b,d,a⟩:=h.sep.get .hd;exact a
theorem Uv (tb:List cA):(gK tb).length=tb.length*3:=by
 induction tb with
 | nil=>rfl
 | cons x l ih=>simp only[gK,pT,zM,zS,lh]at *;omega
theorem Ap {tb:List cA}{i:Nat}{c:cA}(h:tb[i]?=some c):(gK tb)[3*i]?=some (.int .i64 (c.size:Int))/\(gK tb)[3*i+1]?=some (.int .i64 (c.aG:Int))/\(gK tb)[3*i+2]?=some (.int .i64 (c.batch:Int)):=by
 induction tb generalizing i with
 | nil=>simp at h
 | cons x l ih=>
  have e:gK (x::l)=[.int .i64 (x.size:Int),.int .i64 (x.aG:Int),.int .i64 (x.batch:Int)]++gK l:=by simp[gK]
  rw[e];cases i with
  | zero=>simp at h;subst h;simp
  | succ i=>
   have:=ih (i:=i) (by simpa using h);rw[show 3*(i+1)=3*i+3 by omega];simpa using this
theorem dL.oU (h:dL U F Y A T):Y.dI.len=A.tb.length:=by
 obtain⟨G,b,a⟩:=h.sep.get .dI;have:=a.1;rw[Uv]at this;omega
theorem vo {s:Sl}{tb:List cA}(h:cV s 3 (gK tb) U F){k d:Nat}{c:cA}(hc:tb[k]?=some c)(hd:d<3){K:Int->Prop}(hK:K (if d=0 then c.size else if d=1 then c.aG else c.batch:Nat)) :
 Ix s.a s.len (k:Int) 3 λa=>gL .i64 (a.add d) U K:=by
 have i:=Ap hc;have j:(gK tb)[3*k+d]?=some (.int .i64 ((if d=0 then c.size else if d=1 then c.aG else c.batch:Nat):Int)):=by
  match d,hd with
  | 0,_=>exact i.1
  | 1,_=>exact i.2.1
  | 2,_=>exact i.2.2
 have r:=(cY.1 hc).1;obtain⟨b,o,p,g⟩:=h.cell j;have m:=h.1;rw[Uv]at m;rw[p];refine ix O O ?_;rw[add_lit,add_lit];refine oI ?_ hK;rw[show o+(k:Int).toNat*3+d=o+(3*k+d) by omega];exact g
theorem dL.xT (h:dL U F Y A T){k d:Nat}{c:cA}(hc:A.tb[k]?=some c)(hd:d<3){K:Int->Prop}(hK:K (if d=0 then c.size else if d=1 then c.aG else c.batch:Nat)) :
 Ix Y.dI.a Y.dI.len (k:Int) 3 λa=>gL .i64 (a.add d) U K:=by
 obtain⟨G,g,b⟩:=h.sep.get .dI;exact vo b hc hd hK
theorem BE {s:Sl}{l:List Nat}(h:cV s 1 (fR l) U F){k q:Nat}(hq:l[k]?=some q){K:Option Addr->Prop}(hK:K (some ⟨q,0,none⟩)):Ix s.a s.len (k:Int) 1 λa=>fZ a U K:=by
 have m:=(cY.1 hq).1;obtain⟨b,o,i,d⟩:=h.cell (j:=k) (v:=.pointer (some ⟨q,0,none⟩)) (by simp[fR,hq]);have g:=h.1;simp[fR]at g;rw[i];refine ix O O ?_;rw[add_lit];exact vN (by rw[show o+(k:Int).toNat*1=o+k by omega];exact d) hK
theorem dL.l6 (h:dL U F Y A T){k q:Nat}(hq:Y.fN[k]?=some q){K:Option Addr->Prop}(hK:K (some ⟨q,0,none⟩)):Ix Y.dW.a Y.dW.len (k:Int) 1 λa=>fZ a U K:=by
 obtain⟨G,d,b⟩:=h.sep.get .dW;exact BE (bU.fY b) hq hK
theorem dL.tn (h:dL U F Y A T){k q:Nat}(hq:Y.gC[k]?=some q){K:Option Addr->Prop}(hK:K (some ⟨q,0,none⟩)):Ix Y.cS.a Y.cS.len (k:Int) 1 λa=>fZ a U K:=by
 obtain⟨G,d,b⟩:=h.sep.get .cS;exact BE (bU.fY b) hq hK
theorem dL.at_ (h:dL U F Y A T){k:Nat}(hk:k<A.tb.length):∃c ss q t r,A.tb[k]?=some c/\A.cG[k]?=some ss/\Y.fN[k]?=some q/\A.cR[k]?=some t/\Y.gC[k]?=some r/\c.ok:=by
 have a:=h.lay.c;have d:=h.lay.t;have b:=h.lay.cG;have g:=h.lay.cR;exact⟨A.tb[k],A.cG[k],Y.fN[k],A.cR[k],Y.gC[k],by simp,by simp,by simp,by simp,by simp,h.lay.ok _ (ky hk)⟩
theorem Jp {k q:Nat}{c:cA}{ss:List cH}{G:Rg}(h1:Y.fN[k]?=some q)(h2:A.tb[k]?=some c)(h3:A.cG[k]?=some ss)(h:AC A Y T (.cG k) U G):∃ps,fJ U G q c ps ss:=by
 simp only[AC]at h;rw[h1,h2,h3]at h;exact h
theorem dL.cG (h:dL U F Y A T){k q:Nat}{c:cA}{ss:List cH}(h1:Y.fN[k]?=some q)(h2:A.tb[k]?=some c)(h3:A.cG[k]?=some ss):∃G ps,(∀b,G b->F b)/\fJ U G q c ps ss:=by
 obtain⟨G,d,a⟩:=h.sep.get (.cG k);obtain⟨ps,g⟩:=Jp h1 h2 h3 a;exact⟨G,ps,d,g⟩
theorem HG (h:dL U F Y A T){R:aO}(hR:R true U):Xv.c (aW Y.p) U R:=by
 refine Xv.o ?_;unfold Xv.v;exact bX.intro (cF rfl (bL (h.hd.rP rfl hR)))
theorem U1 (h:dL U F Y A T)(k:Int){R:aN}(h1:A.ck k=false->R 1 U)(h0:∀x:Nat,k=x->x<A.tb.length->R 0 U):Xh.c (aW Y.p) k U R:=by
 refine Xh.o ?_;unfold Xh.v;have i:=h.oU;have a:¬(0<=k/\k<A.tb.length)->R 1 U:=λg=>h1 (by unfold AR.ck;rw[←wh];exact zL g);refine HG h (cD rfl (bX.intro (cN (λd=>cF rfl (a O)) λd=>bL (h.hd.rS rfl (cN (λb=>?_) λb=>?_)))))
 .simp only at b;exact a O
 .simp only at b;exact h0 k.toNat O O
theorem SW (h:dL U F Y A T)(x:Int){R:aO}(hR:R (oT A x) U):Y6.c (aW Y.p) x U R:=by
 refine Y6.o ?_;unfold Y6.v;obtain⟨G,b,q,a,_⟩:=h.sep.get .om;refine HG h (bX.intro (cF rfl (bL (h.hd.rP rfl (RM a x ?_)))));have:decide (A6 A.st x>0)=oT A x:=by
  unfold A6 oT;by_cases hx:0<=x
  .by_cases hl:x<A.st.length
   .rw[zC ⟨hx,hl⟩,zI hx,r8,decide_eq_decide];omega
   .rw[zB O,zI hx,r8,zQ,zX O];rfl
  .rw[zB O,zL hx];rfl
 rw[this];exact hR
structure iT (A:AR):Prop where
 tW:∀r∈A.runs,∀s∈A.runs,∀x,r.1<=x->x<r.1+r.2->s.1<=x->x<s.1+s.2->r=s
 ya:∀x,x<1024->A.ow x=41->(sO A x).isSome=true
 cls:∀x,x<1024->A.ow x≠0->A.ow x≠41->A.ow x<=A.tb.length
 fit:∀r∈A.runs,r.1+r.2<=1024
theorem Bv (h:iT A){x:Nat}{r:Nat×Nat}(hr:r∈A.runs)(h1:r.1<=x)(h2:x<r.1+r.2):sO A x=some r:=by
 cases hf:sO A x with
 | none=>
  unfold sO at hf;rw[oD]at hf;have:=hf r hr;simp[h1,h2]at this
 | some s=>
  unfold sO at hf;have b:=tO hf;have a:=tY hf;simp at a;rw[h.tW r hr s b x h1 h2 a.1 a.2]
theorem Η (h:dL U F Y A T)(hr:iT A)(x:Int)(hx:iN x){R:Int->Int->Int->Hp->Prop}(h1:∀σ' k a,aF U σ'->Ht A x=some (k,a)->R k (a:Int) 0 σ')(h0:∀σ',aF U σ'->Ht A x=none->R 0 0 8 σ') :
 Za.c (aW Y.p) x U R:=by
 refine Za.o ?_;unfold Za.v;refine HG h (cD rfl (cN (λW=>h0 U (Ext.refl _ _) (by unfold Ht;rw[zC W])) λW=>bL (h.hd.rP rfl (nz aB ?_))));obtain⟨y,rfl⟩:=zc (show 0<=x by omega);have hy:y<=9223372036854775807:=by unfold iN at hx;omega
 have tp:((y:Int).tdiv 256)=((y/256:Nat):Int):=by rw[YU O];simp
 refine ar (by rw[tp];omega) (by rw[tp];omega) ?_;rw[tp];obtain⟨G,hG,hP⟩:=h.sep.get .own;refine NZ hP _ ?_;have eo:rR A.ow ((y/256:Nat):Int)=if y/256<1024 then A.ow (y/256)else 0:=by
  unfold rR;by_cases hl:y/256<1024
  .rw[zC O,zC hl];rfl
  .rw[zB O,zB hl]
 have g:Ht A (y:Int)=(let no:=if y/256<1024 then A.ow (y/256)else 0
  if no=0 then none else if no=41 then(sO A (y/256)).map λr=>(-1,r.1*256)else
  match A.tb[no-1]?,A.cG[no-1]? with
  | some c,some ss=>(rO c ss (y:Int)).map λa=>(((no-1:Nat):Int),a)
  | _,_=>none):=by
  unfold Ht;rw[zB W];rfl
 rw[eo];generalize hno:(if y/256<1024 then A.ow (y/256)else 0)=no at *
 simp only at g;rw[ye];refine cP (λX=>h0 U (Ext.refl _ _) (by rw[g,zC (by simpa using X)])) λX=>?_;have E:no≠0:=by simpa using X
 rw[zB E]at g;have C:y/256<1024:=by
  rcases kv (y/256) 1024 with h|h
  .exact h
  .rw[zB O]at hno;exact absurd hno.symm E
 rw[zC C]at hno;refine Jn.intro ?_;have e41:(((no:Nat):Int)==41)=(no==41):=mg no 41;rw[e41];refine cP (λc2=>?_) λc2=>?_
 .have j:no=41:=by simpa using c2
  subst j;rw[zC rfl]at g;obtain⟨r,N⟩:=pv.1 (hr.ya _ C hno);have w:=tO N;have D:=tY N;simp at D;obtain⟨G,hG,K⟩:=h.sep.get .runs;refine bL (h.hd.rM rfl ?_);refine D1 K.2 (λd v=>aF U v/\(∀z∈d,z∈iS A.runs)/\((r.1:Int),(r.2:Int))∈d) (λv hz e=>⟨e,λz hz=>hz,zE.2 ⟨r,w,rfl⟩⟩) (λv hv=>absurd hv.2.2 aA) ?_;rintro d n z v v' J ⟨e,b,B⟩ hm ho hlt2 hJ;have e':aF U v':=Ext.fresh e ho.ext λi hi=>by omega
  obtain⟨s,P,S⟩:=zE.1 (b _ hm);cases S;have hfit:=hr.fit s P;refine nz aB (ar O O ?_);refine bX.intro (cN (λc3=>ar O O (cN (λc4=>?_) λc4=>?_)) λc3=>cD rfl ?_)
  .have V:=Bv hr P (x:=y/256) O O;refine ar O O ?_;have:=h1 v' (-1) (s.1*256) e' (by rw[g,V];rfl);simpa using this
  .refine hJ v' rfl rfl ⟨e',λu Q=>b u (zK.1 Q).1,zK.2 ⟨B,?_⟩⟩;have:¬(r.1:Int)=(s.1:Int):=λe=>by
    have:=Bv hr w D.1 D.2;have e1:r.1=s.1:=O
    by_cases h2:r.2=0
    .omega
    by_cases h3:s.2=0
    .have:=K.2.nodup;have M:=Qd this (zE.2 ⟨r,w,rfl⟩);have L:=Qd this (zE.2 ⟨s,P,rfl⟩);rw[e1,L]at M;have:s.2=r.2:=by
      have:(s.2:Int)=(r.2:Int):=Option.some.inj M;omega
     omega
    .have:=hr.tW r w s P r.1 O O O O;subst this;omega
   simpa using this
  .refine hJ v' rfl rfl ⟨e',λu Q=>b u (zK.1 Q).1,zK.2 ⟨B,?_⟩⟩;have:¬(r.1:Int)=(s.1:Int):=λe=>by omega
   simpa using this
 .have j:no≠41:=by simpa using c2
  rw[zB j]at g;have hcl:=hr.cls _ C (by rw[hno];exact E) (by rw[hno];exact j);rw[hno]at hcl;obtain⟨c,ss,q,t,r,hc,H,hq,_,_,hok⟩:=h.at_ (k:=no-1) O;obtain⟨G,ps,hG,hC⟩:=h.cG hq hc H;rw[hc,H]at g;simp only at g;refine bL (h.hd.rS rfl (cT (m:=no-1) O (by have:=h.lay.rJ;omega) (h.l6 hq (MO hC _ hx (λa Z=>?_) λZ=>?_))))
  .refine cD rfl (cT (m:=no-1) O (by have:=h.lay.rJ;omega) (h1 U _ a (Ext.refl _ _) ?_));rw[g,Z];rfl
  .refine cF rfl (h0 U (Ext.refl _ _) ?_);rw[g,Z];rfl
end Go.Ar
namespace Go.Ar
open Go Go.Vc Go.Proofs
open Go.Bu (ZF Kj ZD)
open Classical in
theorem _root_.Go.Vc.Sep.ka {L:Type}{C:L->Hp->Rg->Prop}{U:Hp}{F:Rg}(hC:∀i,dP (C i))(h:Sep C U F)(i:L):∃G:Rg,(∀b,G b->F b)/\C i U G/\(∀j,j≠i->∃H:Rg,(∀b,H b->F b)/\(∀b,H b->¬G b)/\C j U H)/\∀(σ':Hp) (C':L->Hp->Rg->Prop) (G':Rg),
 (∀j,j≠i->C' j=C j)->Ext G U σ'->(∀b,G' b->G b\/U.size<=b)->C' i σ' G'->dP (C' i)->Sep C' σ' λb=>F b/\b<U.size/\¬G b\/G' b:=by
 obtain⟨ρ,h⟩:=h;refine⟨_,λb a=>a.1,h i,λj p=>⟨_,λb a=>a.1,λb m x=>p (m.2.symm.trans x.2),h j⟩,λσ' C' G' p e w hi u=>⟨λb=>if G' b then i else ρ b,λj=>?_⟩⟩
 by_cases hji:j=i
 .subst hji;exact u.mono hi λb _ a=>⟨.inr a,zC a⟩
 .rw[p j hji];refine hC j _ _ _ _ (h j) e.1 λb a s=>?_;have d:¬(F b/\ρ b=i):=λr=>hji (s.2.symm.trans r.2);have g:¬G' b:=λr=>by
   rcases w b r with m|m
   .exact d m
   .omega
  exact⟨⟨.inl ⟨s.1,a,d⟩,(zB g).trans s.2⟩,e.2 b a d⟩
variable {U:Hp}{F:Rg}{p hs:Nat}{A:AR}{Y:Lay}{T:Nat->Hp->Rg->Prop}
theorem dL.step (h:dL U F Y A T)(i:Lb):∃G:Rg,(∀b,G b->F b)/\AC A Y T i U G/\(∀j,j≠i->∃H:Rg,(∀b,H b->F b)/\(∀b,H b->¬G b)/\AC A Y T j U H)/\∀(σ':Hp) (A':AR) (Y':Lay) (T':Nat->Hp->Rg->Prop) (G' H:Rg),
 fC A' Y'->(∀k,dP (T' k))->(∀j,j≠i->AC A' Y' T' j=AC A Y T j)->Ext G U σ'->(∀b,G' b->G b\/U.size<=b)->AC A' Y' T' i σ' G'->(∀b,(F b/\b<U.size/\¬G b\/G' b)->H b)->dL σ' H Y' A' T':=by
 obtain⟨G,u,hi,hd,a⟩:=h.sep.ka (AC.loc h.tl) i;refine⟨G,u,hi,hd,λσ' A' Y' T' G' H p g m e w d s=>⟨p,g,?_⟩⟩;exact(Sep.loc (AC.loc g)).mono (a σ' _ G' m e w d (AC.loc g i)) λb _ r=>s b r
theorem GJ {U:Hp}{F G G':Rg}(hG:∀b,G b->F b)(hg:∀b,G' b->G b\/U.size<=b):∀b,(F b/\b<U.size/\¬G b\/G' b)->Grow F U b:=λb a=>by
 rcases a with a|a
 .exact .inl a.1
 .exact(hg b a).imp (hG b) id
theorem Am {U:Hp}{F G G':Rg}(hG:∀b,G b->F b)(hg:∀b,G' b->G b):∀b,(F b/\b<U.size/\¬G b\/G' b)->F b:=λb a=>by
 rcases a with a|a
 .exact a.1
 .exact hG b (hg b a)
theorem EJ {U:Hp}{F G:Rg}(hG:∀b,G b->F b):∀b,(F b/\b<U.size/\¬G b\/Cut G U b)->Cut F U b:=λb a=>by
 rcases a with a|a
 .exact⟨a.1,a.2.1⟩
 .exact⟨hG b a.1,a.2⟩
theorem IH {ow:Nat->Nat}:∀j,j≠Lb.own->AC {A with ow:=ow} Y T j=AC A Y T j:=by
 intro j hj;cases j<;>first|rfl|exact absurd rfl hj
theorem NG {st:List Nat}:∀j,j≠Lb.om->AC {A with st:=st} Y T j=AC A Y T j:=by
 intro j hj;cases j<;>first|rfl|exact absurd rfl hj
theorem B4 {S:Nat->Bool}:∀j,j≠Lb.free->AC {A with S:=S} Y T j=AC A Y T j:=by
 intro j hj;cases j<;>first|rfl|exact absurd rfl hj
theorem SQ {rs:List (Nat×Nat)}:∀j,j≠Lb.runs->AC {A with runs:=rs} Y T j=AC A Y T j:=by
 intro j hj;cases j<;>first|rfl|exact absurd rfl hj
theorem Woa {k:Nat}{ss:List cH}:∀j,j≠Lb.cG k->AC {A with cG:=A.cG.set k ss} Y T j=AC A Y T j:=by
 intro j hj;cases j<;>first|rfl|skip
 rename_i k';have a:k≠k':=λe=>hj (by rw[e]);simp only[AC];rw[zh a]
theorem fC.ow {ow:Nat->Nat}(h:fC A Y):fC {A with ow:=ow} Y:=⟨h.c,h.t,h.cG,h.cR,h.oe,h.rJ,h.n1,h.n2,h.n3,h.st,h.room,h.ok⟩
theorem fC.DF {S:Nat->Bool}(h:fC A Y):fC {A with S:=S} Y:=⟨h.c,h.t,h.cG,h.cR,h.oe,h.rJ,h.n1,h.n2,h.n3,h.st,h.room,h.ok⟩
theorem fC.sj {rs:List (Nat×Nat)}(h:fC A Y):fC {A with runs:=rs} Y:=⟨h.c,h.t,h.cG,h.cR,h.oe,h.rJ,h.n1,h.n2,h.n3,h.st,h.room,h.ok⟩
theorem fC.wJ {st:List Nat}(h:fC A Y)(hl:st.length=A.st.length):fC {A with st:=st} Y:=⟨h.c,h.t,h.cG,h.cR,h.oe,h.rJ,h.n1,h.n2,h.n3,hl.trans h.st,h.room,h.ok⟩
theorem fC.lC {k:Nat}{ss:List cH}(h:fC A Y):fC {A with cG:=A.cG.set k ss} Y:=⟨h.c,h.t,by simpa using h.cG,h.cR,h.oe,h.rJ,h.n1,h.n2,h.n3,h.st,h.room,h.ok⟩
theorem Jd (st:List Nat)(a m:Int)(v:Nat)(fr:List Nat):(UY st a m v fr).length=st.length:=by
 unfold UY;split<;>simp[Vn]
theorem WjZ (st:List Nat)(k:Int):(ji st k).length=st.length:=by
 unfold ji;split<;>simp[Vn]
theorem dL.Clear (h:dL U F Y A T)(a m:Nat)(ha:a<=1000000){R:aN}(hR:∀σ' t,Ext F U σ'->dL σ' (Grow F U) Y {A with ow:=jO A.ow a m 0} T->R t σ'):X4.c (aW Y.op) a m U R:=by
 obtain⟨G,i,hi,_,d⟩:=h.step .own;refine TY hi a m ha λσ' e j=>hR σ' _ (e.sub i) ?_;exact d σ' _ _ T (Grow G U) _ h.lay.ow h.tl IH e (λb g=>g) j (GJ i λb g=>g)
theorem dL.Set (h:dL U F Y A T)(a m:Nat)(ha:a<=1000000){no:Nat}(h1:1<=no)(h2:no<=1000){R:aN}(hR:∀σ' t,Ext F U σ'->dL σ' (Grow F U) Y {A with ow:=jO A.ow a m no} T->R t σ'):Yx.c (aW Y.op) a m no U R:=by
 obtain⟨G,i,hi,_,d⟩:=h.step .own;refine SO hi a m ha h1 h2 λσ' e j=>hR σ' _ (e.sub i) ?_;exact d σ' _ _ T (Grow G U) _ h.lay.ow h.tl IH e (λb g=>g) j (GJ i λb g=>g)
theorem dL.om (h:dL U F Y A T):∃G:Rg,(∀b,G b->F b)/\∃q,iv U Y.tr q A.st/\F q/\∀(σ':Hp) (st:List Nat),st.length=A.st.length->Ext (· = q) U σ'->iv σ' Y.tr q st->Ext F U σ'/\dL σ' F Y {A with st:=st} T:=by
 obtain⟨G,i,⟨q,p,j,g⟩,_,d⟩:=h.step .om;refine⟨G,i,q,p,i _ g,λσ' st r e m=>⟨e.sub λb a=>by subst a;exact i _ g,?_⟩⟩;exact d σ' _ _ T G _ (h.lay.wJ r) h.tl NG (e.sub λb a=>by subst a;exact g) (λb a=>.inl a) ⟨q,m,j,g⟩ (Am i λb a=>a)
theorem dL.xJ (h:dL U F Y A T)(a m:Int){R:aN}(hR:∀σ' t,Ext F U σ'->dL σ' F Y {A with st:=UY A.st a m 2 [1]} T->R t σ'):XN.c (aW Y.tr) a m U R:=by
 obtain⟨G,i,q,g,_,b⟩:=h.om;refine OV g a m λσ' e d=>?_;have:=b σ' _ (Jd _ _ _ _ _) e d;exact hR σ' _ this.1 this.2
theorem dL.Ro (h:dL U F Y A T)(a m:Int){R:aN}(hR:∀σ' t,Ext F U σ'->dL σ' F Y {A with st:=UY A.st a m 1 [2,3]} T->R t σ'):XV.c (aW Y.tr) a m U R:=by
 obtain⟨G,i,q,g,_,b⟩:=h.om;refine Nb g a m λσ' e d=>?_;have:=b σ' _ (Jd _ _ _ _ _) e d;exact hR σ' _ this.1 this.2
theorem dL.BC (h:dL U F Y A T)(k:Int){R:aN}(hR:∀σ' t,Ext F U σ'->dL σ' F Y {A with st:=ji A.st k} T->R t σ'):Yk.c (aW Y.tr) k U R:=by
 obtain⟨G,g,q,d,_,a⟩:=h.om;refine SZ d k λσ' e b=>?_;have:=a σ' _ (WjZ _ _) e b;exact hR σ' _ this.1 this.2
theorem dL.free (h:dL U F Y A T):∃sb ms,Go.Bu.BH U Y.fr A.n A.S sb ms/\∀(σ':Hp) (S:Nat->Bool),Ext (· ∈ ms) U σ'->Go.Bu.BH σ' Y.fr A.n S sb ms->Ext F U σ'/\dL σ' F Y {A with S:=S} T:=by
 obtain⟨G,j,⟨sb,ms,m,i⟩,_,d⟩:=h.step .free;have g:∀b,b∈ms->G b:=λb a=>i b (by unfold Go.Bu.fp;simp[a]);refine⟨sb,ms,m,λσ' S e p=>⟨e.sub λb a=>j b (g b a),?_⟩⟩;exact d σ' _ _ T G _ h.lay.DF h.tl B4 (e.sub g) (λb a=>.inl a) ⟨sb,ms,p,i⟩ (Am j λb a=>a)
theorem dL.xP (h:dL U F Y A T)(a m:Int){R:aN}(hR:∀σ' t,Ext F U σ'->dL σ' F Y {A with S:=Kj A.n A.S a m} T->R t σ'):Yl.c (aW Y.fr) a m U R:=by
 obtain⟨j,i,g,b⟩:=h.free;refine Go.Bu.sd g a m λσ' e d=>?_;have:=b σ' _ e d;exact hR σ' _ this.1 this.2
theorem dL.xH (h:dL U F Y A T)(a m:Int){R:Int->Int->Hp->Prop}(hR:∀σ',Ext F U σ'->dL σ' F Y {A with S:=Go.Bu.jb A.n A.S a m} T->R ((Go.Bu.jc A.n A.S a m:Nat):Int) (Go.Bu.jk A.n A.S a m) σ'):X1.c (aW Y.fr) a m U R:=by
 obtain⟨j,i,g,b⟩:=h.free;refine Go.Bu.lI g a m λσ' e d=>?_;have:=b σ' _ e d;exact hR σ' this.1 this.2
def rV (rs:List (Nat×Nat)):List Value:=rs.flatMap λr=>[.int .i64 (r.1:Int),.int .i64 (r.2:Int)]
theorem Ly (rs:List (Nat×Nat)):(rV rs).length=rs.length*2:=by
 induction rs with
 | nil=>rfl
 | cons x l ih=>simp only[rV,pT,zM,zS,lh]at *;omega
theorem Wn6 {l:List (Nat×Nat)}{i:Nat}{r:Nat×Nat}(h:l[i]?=some r):(rV l)[2*i]?=some (.int .i64 (r.1:Int))/\(rV l)[2*i+1]?=some (.int .i64 (r.2:Int)):=by
 induction l generalizing i with
 | nil=>simp at h
 | cons x l ih=>
  have e:rV (x::l)=[.int .i64 (x.1:Int),.int .i64 (x.2:Int)]++rV l:=by simp[rV]
  rw[e];cases i with
  | zero=>simp at h;subst h;simp
  | succ i=>
   have:=ih (i:=i) (by simpa using h);rw[show 2*(i+1)=2*i+2 by omega];simpa using this
theorem SY (c:cA)(l:List Nat):iU c l=rV (l.map λs=>(s,c.aG)):=by
 simp[iU,rV,List.flatMap_map]
theorem PV {s:Sl}{rs:List (Nat×Nat)}(h:cV s 2 (rV rs) U F){i:Nat}{r:Nat×Nat}(hr:rs[i]?=some r){K:Int->Int->Prop}(hK:K (r.1:Int) (r.2:Int)) :
 Ix s.a s.len (i:Int) 2 λa=>gL .i64 (a.add 0) U λu=>gL .i64 (a.add 1) U λw=>K u w:=by
 have j:=Wn6 hr;have hi:=(cY.1 hr).1;obtain⟨b,o,m,p⟩:=h.cell j.1;obtain⟨y,o1,d,g⟩:=h.cell j.2;rw[m]at d;cases d;have x:=h.1;rw[Ly]at x;rw[m];refine ix O O ?_;rw[add_lit];refine oI ?_ (oI ?_ hK)<;>rw[add_lit]
 .rw[show o+(i:Int).toNat*2+0=o+2*i by omega];exact p
 .rw[show o+(i:Int).toNat*2+1=o+(2*i+1) by omega];exact g
theorem dL.mono {G:Rg}(h:dL U F Y A T)(hs:∀b,b<U.size->F b->G b):dL U G Y A T:=dP.mono dL.loc h hs
theorem dL.cut (h:dL U F Y A T):dL U (Cut F U) Y A T:=dP.cut dL.loc h
theorem Mi (A:AR)(rs:List (Nat×Nat))(r:Nat×Nat):UK A (rs++[r])=UC (UK A rs) r:=by simp[UK]
theorem Ln (h:dL U F Y A T){sl:Sl}{rs:List (Nat×Nat)}{X:Rg}(hs:cV sl 2 (rV rs) U X)(hX:∀b,b<U.size->X b->¬F b)(hl:rs.length<=1000000)(hb:∀r∈rs,r.1<=1000000){R:aP}
 (hR:∀σ',Ext F U σ'->dL σ' (Grow F U) Y (UK A rs) T->R σ'):Yv.c (aW Y.p) sl U R:=by
 refine Yv.o ?_;unfold Yv.v;have Q:sl.len=rs.length:=by have:=hs.1;rw[Ly]at this;omega
 have M:cV sl 2 (rV rs) U (Cut X U):=aH.cut hs;refine Qg (a:=bO) (λ(t:Int) v=>∃i:Nat,t=(i:Int)/\i<=rs.length/\Ext F U v/\dL v (Grow F U) Y (UK A (rs.take i)) T) (λt _=>rs.length-t.toNat) ⟨0,rfl,O,Ext.refl _ _,by simpa[UK]using h.mono λb _ hb=>.inl hb⟩ ?_;rintro t v ⟨i,rfl,hi,e,E⟩;refine cN (λhlt=>?_) λhge=>?_
 .have u:i<rs.length:=O
  have y:rs[i]?=some rs[i]:=cW u;have N:=hb _ (ky u);have L:=aH.bT M e λb C y x=>hX b C y.1 x;refine PV L y ?_;have B:rs.take (i+1)=rs.take i++[rs[i]]:=by rw[kB,y];rfl
  generalize rs[i]=r at *;refine nw (cs:=[.int .i64 0,.int .i64 0]) λv4 hz4 e4 J=>J.s1 aA λv5 o5 b5=>b5.s1 aA λv6 o6 P=>?_;have s:aF v v6:=Ext.fresh (Ext.fresh e4 o5.ext λi hi=>O) o6.ext λi hi=>by omega
  have w:=E.cut.bP s;have Z:¬Cut (Grow F U) v v.size:=λx=>by have:=x.2;omega
  have g:bY v6 v.size [.int .i64 (r.1:Int),.int .i64 (r.2:Int)]:=P;have z6:v.size<v6.size:=P.lt;refine bL (w.hd.rP rfl (g.rI rfl (g.rI rfl (w.Clear r.1 r.2 N λv7 t7 W z=>?_))));have D:=W.bV g Z;have d:=z.mono (G:=λb=>Cut (Grow F U) v b\/v.size<b) λb _ hb=>by
   rcases hb with hb|hb
   .exact .inl hb
   .exact .inr O
  have K:¬(Cut (Grow F U) v v.size\/v.size<v.size):=λx=>by
   rcases x with h|h
   .exact Z h
   .omega
  refine bL (d.hd.rP rfl (D.rI rfl (D.rI rfl (d.xJ _ _ λv8 t8 S j=>?_))));have V:=S.bV D K;refine bL (j.hd.rP rfl (V.rI rfl (V.rI rfl (j.xP _ _ λv9 t9 e9 H=>?_))));have sub:∀b,(Cut (Grow F U) v b\/v.size<b)->Grow F U b:=λb hb=>by
   rcases hb with hb|hb
   .exact hb.1
   .exact .inr (by have:=e.1;omega)
  have ee:Ext F U v9:=((((e.trans (aF.to s)).jC (W.sub λb hb=>hb.1))).jC (S.sub sub)).jC (e9.sub sub);refine cT (m:=i+1) O O ⟨⟨i+1,rfl,O,ee,?_⟩,O⟩;rw[B,Mi];exact H.mono λb _ hb=>sub b hb
 .have:i=rs.length:=O
  subst this;rw[mi]at E;exact hR v e E
end Go.Ar
namespace Go.Proofs
open Go.Vc
set_option maxRecDepth 100000
def X6.h:Hn:=.q .o1 (.q (.q .o3 .aK) (.q .o1 (.q (.q .o5 (.k (.loop [(3,.I)] (.q (.cU (.seq [.it .i64 .p,.op])) (.q (.c .l .l) (.k (.q (.cU (.seq [.it .i64 .p,.op,.op,.op,.op])) (.oq 17)))))))) .aL)))
def X6.v (a:R2)(b:Hp)(c:aN):Prop:=Xu.c a b λd e=>If (!d) (c 0 e) (bJ a 2 e λg=>pF .i64 .p g e λh i=>X9 [bO] (λj=>j 0 i) λk (l:Int) m=>pE .i64 .p h m (c l m) (λn o p=>po .i64 .p h p λq r=>bF a 0 p λt=>Ix t.a t.len q 3 λu=>aQ u 0 p λv=>bF r 0 p λx=>bM (v*((x.len:Nat):Int)) λy=>bM (l+y) λz=>k z p))
theorem X6.o {a b c}(d:X6.v a b c):X6.c a b c:=Wa Tryz.func90 (x:=X6.h) (R0 d)
def Xu.h:Hn:=.q .o1 (.q (.cU (.seq [.op,.op,.op,.cZ true 5 (RI.ops 5),.op])) .l)
def Xu.v (a:R2)(b:Hp)(c:aO):Prop:=bX (λd e=>c d e) λf=>If (!a.isNone) (bJ a 2 b λh=>f (!h.isNone) b) (f false b)
theorem Xu.o {a b c}(d:Xu.v a b c):Xu.c a b c:=Wa Tryz.func132 (x:=Xu.h) (R0 d)
def Kz.h:Hn:=.q .o2 (.q (.k (.q .o4 (.c .aL (.q (.cU (.seq [.op,.op,.op,.cZ false 2 [.op,.op],.op])) .aJ)))) (.q .o8 .l))
def Kz.v (a:Sl)(b:Int)(c:Hp)(d:Option Addr->Int->Hp->Prop):Prop:=ZZ.c a c λe f=>If (!e) (d none 2 f) (bX (λg h=>If g (d none 1 h) (Wo.c a h λi j=>Nw (.map #[] 0) j λk l=>aV #[.slice i.a i.len i.cap,.I b,.map (some k.block)] 188 l λm n=>d (some m) 0 n)) λo=>If (b<0) (o true f) (o (decide (b>65536)) f))
theorem Kz.o {a b c d}(e:Kz.v a b c d):Kz.c a b c d:=Wa Tryz.func155 (x:=Kz.h) (R0 e)
def Yy.h:Hn:=.q .o2 (.q .o8 (.q (.q .o2 (.c (.q .o3 .l) .l)) (.q (.q .o6 (.c (.q (.q .o9 (.q .o6 (.c .o8 (.o 11)))) .aL) .l)) (.q .o7 (.q .o8 (.q .gE (.q .gE (.q .o3 .l))))))))
def Yy.v (a:R2)(b:Int)(c:Hp)(d:Int->Int->Hp->Prop):Prop:=XI.c a b c λe f g=>If (f != 0) (d 0 f g) (bF e 0 g λi=>If (((i.len:Nat):Int)==0) (bF a 0 g λk=>Ix k.a k.len b 3 λl=>aQ l 2 g λm=>bE e 1 g λo=>If (o<m) (bE e 1 g λq=>bM (q+1) λr=>bW e λs=>aR s 1 (.I r) g λt=>d 0 4 t) (bE e 1 g λv=>bM (v+m) λw=>bW e λx=>aR x 1 (.I (if 128<w then 128 else w)) g λy=>d 0 4 y)) (bF e 0 g λaa=>bM (((aa.len:Nat):Int)-1) λab=>bF e 0 g λad=>Ix ad.a ad.len ab 1 λae=>bN ae g λaf=>bF e 0 g λah=>fI ah 1 0 ab (ah.cap:Nat) λai=>bW e λaj=>aR aj 0 (.slice ai.a ai.len ai.cap) g λak=>bE e 2 ak λam=>bW e λan=>aR an 2 (.I (if ab<am then ab else am)) ak λao=>d af 0 ao))
theorem Yy.o {a b c d}(e:Yy.v a b c d):Yy.c a b c d:=Wa Tryz.func166 (x:=Yy.h) (R0 e)
def Yt.h:Hn:=.q .o2 (.q .o8 (.q (.q .o2 (.c (.q .o3 .l) .l)) (.q (.oq 15) .l)))
def Yt.v (a:R2)(b:Int)(c:Hp)(d:Int->Int->Hp->Prop):Prop:=XI.c a b c λe f g=>If (f != 0) (d 0 f g) (bE e 1 g λi=>bF a 0 g λk=>Ix k.a k.len b 3 λl=>aQ l 2 g λm=>d (if m<i then m else i) 0 g)
theorem Yt.o {a b c d}(e:Yt.v a b c d):Yt.c a b c d:=Wa Tryz.func168 (x:=Yt.h) (R0 e)
def Yj.h:Hn:=.q .o1 (.q .o8 (.q (.q .o2 .aJ) (.q .o3 (.q .o2 (.q .o4 .l)))))
def Yj.v (a:R2)(b:Int)(c:Sl)(d:Hp)(e:aN):Prop:=XI.c a b d λf g h=>If (g != 0) (e g h) (W4.c c h λi j=>Xj.c i j λk=>Xl.c f i k λl m=>e l m)
theorem Yj.o {a b c d e}(f:Yj.v a b c d e):Yj.c a b c d e:=Wa Tryz.func173 (x:=Yj.h) (R0 f)
def YZ.h:Hn:=.q .o2 (.q .o8 (.q (.q .o2 (.c (.q .o3 .l) .l)) (.q (.q .o5 (.q .o2 (.c (.q .o3 .l) .l))) (.q (.q (.oq 10) .aJ) (.q .o9 (.kx [] (.q .o6 (.c .o8 .l)) (.q (.o 11) .l)))))))
def YZ.v (a:R2)(b c:Int)(d:Hp)(e:Sl->Int->Hp->Prop):Prop:=XI.c a b d λf g h=>If (g != 0) (e ⟨none,0,0⟩ g h) (aV #[.I c] 3 h λi j=>Xl.c f ⟨some i,1,1⟩ j λk l=>If (k != 0) (e ⟨none,0,0⟩ k l) (bF f 0 l λn=>bE f 1 l λp=>If (((n.len:Nat):Int)<=p) (e ⟨none,0,0⟩ 0 l) (bF a 0 l λr=>Ix r.a r.len b 3 λs=>aQ s 2 l λt=>Jn [] (λu=>bF f 0 u λw=>Xs.c f (if((w.len:Nat):Int)<t then((w.len:Nat):Int)else t) u λx y=>e x 0 y) λz=>bE f 1 l λab=>If (ab<t) (bE f 1 l λad=>bM (ad+1) λae=>bW f λaf=>aR af 1 (.I ae) l λag=>z ag) (z l))))
theorem YZ.o {a b c d e}(f:YZ.v a b c d e):YZ.c a b c d e:=Wa Tryz.func176 (x:=YZ.h) (R0 f)
def Yp.h:Hn:=.q .o1 (.q (.cU (.gM false [] [(2,.one .b)] (.take 0 (.all [(1,.take 2 (.split 5 (.tk [3,5,6,7] (.all [(4,.all [(8,.tk [9,10,11] (.done))]),(8,.all [(4,.tk [9,10,11] (.done))])])) (.tk [3,4,5,6,7,8,9,10,11] (.done))))])))) .l)
def Yp.v (a:R2)(b:Hp)(c:aO):Prop:=Jn [.b] (λ(d:Bool) e=>c d e) λf=>Xu.c a b λg h=>If g (bW a λi=>(X6.c a h λj k=>aQ i 1 k λl=>f (decide (j>l)) k) ∧ (aQ i 1 h λm=>X6.c a h λn o=>f (decide (n>m)) o)) (f false h)
theorem Yp.o {a b c}(d:Yp.v a b c):Yp.c a b c:=Wa Tryz.func177 (x:=Yp.h) (R0 d)
def Xq.h:Hn:=.q .o1 (.q .o3 .l)
def Xq.v (a:R2)(b:Hp)(c:Sl->Hp->Prop):Prop:=XD.c a ⟨241,#[],#[]⟩ b λd e=>c d e
theorem Xq.o {a b c}(d:Xq.v a b c):Xq.c a b c:=Wa Tryz.func178 (x:=Xq.h) (R0 d)
def X0.h:Hn:=.q .o1 (.q .o3 .l)
def X0.v (a:R2)(b:Hp)(c:Sl->Hp->Prop):Prop:=XD.c a ⟨243,#[],#[]⟩ b λd e=>c d e
theorem X0.o {a b c}(d:X0.v a b c):X0.c a b c:=Wa Tryz.func183 (x:=X0.h) (R0 d)
def XI.h:Hn:=.q .o2 (.q (.q .o3 .aJ) (.q .o4 (.q (.q .o2 .aJ) (.q .o3 .l))))
def XI.v (a:R2)(b:Int)(c:Hp)(d:Option Addr->Int->Hp->Prop):Prop:=Xu.c a c λe f=>If (!e) (d none 5 f) (ZN.c a b f λg h=>If g.isNone (d none 1 h) (d g 0 h))
theorem XI.o {a b c d}(e:XI.v a b c d):XI.c a b c d:=Wa Tryz.func229 (x:=XI.h) (R0 e)
def Xl.h:Hn:=.q .o1 (.q (.q .o9 .aK) (.q (.o 11) .aM))
def Xl.v (a:R2)(b:Sl)(c:Hp)(d:aN):Prop:=bF a 0 c λf=>bM (((f.len:Nat):Int)+((b.len:Nat):Int)) λg=>If (g>256) (d 6 c) (bF a 0 c λi=>XC.c i c λj k=>App j 1 8 3 [.I 0] b k λl m=>bW a λn=>aR n 0 (.slice l.a l.len l.cap) m λo=>d 0 o)
theorem Xl.o {a b c d}(e:Xl.v a b c d):Xl.c a b c d:=Wa Tryz.func237 (x:=Xl.h) (R0 e)
def Xs.h:Hn:=.q .o1 (.q .o8 (.q (.o 11) (.q (.cU (.tail 13 (RI.ops 13) [.op])) .aL)))
def Xs.v (a:R2)(b:Int)(c:Hp)(d:Sl->Hp->Prop):Prop:=bF a 0 c λf=>fI f 1 0 b (f.cap:Nat) λg=>W4.c g c λh i=>bF a 0 i λk=>fI k 1 b (k.len:Nat) (k.cap:Nat) λl=>W4.c l i λm n=>bW a λo=>aR o 0 (.slice m.a m.len m.cap) n λp=>bE a 2 p λr=>bF a 0 p λt=>bW a λu=>aR u 2 (.I (if((t.len:Nat):Int)<r then((t.len:Nat):Int)else r)) p λv=>d h v
theorem Xs.o {a b c d}(e:Xs.v a b c d):Xs.c a b c d:=Wa Tryz.func239 (x:=Xs.h) (R0 e)
def XD.h:Hn:=.q .o1 (.q (.q .o3 .aK) (.q .o1 (.q (.q .o5 (.k (.loop [(5,.one .s)] (.q (.cU (.seq [.it .i64 .p,.op])) (.q (.c .l .l) (.k (.q (.cU (.seq [.it .i64 .p,.op,.op,.op,.op])) (.q (.o 12) (.q .o3 (.c .o7 .l)))))))))) (.q .o2 .aL))))
def XD.v (a:R2)(b:Fv)(c:Hp)(d:Sl->Hp->Prop):Prop:=Xu.c a c λe f=>If (!e) (d ⟨none,0,0⟩ f) (bJ a 2 f λh=>pF .i64 .p h f λi j=>X9 [.s] (λk=>k ⟨none,0,0⟩ j) λl (m:Sl) n=>pE .i64 .p i n (Qx.c m ⟨298,#[],#[]⟩ n λo=>d m o) (λp q r=>po .i64 .p i r λs t=>bF a 0 r λv=>Ix v.a v.len s 3 λw=>aQ w 2 r λx=>VP Tryz.prog b [.pointer t,.I x] [.one .s] r λy z=>If (((y.len:Nat):Int)>0) (aV #[.I s,.slice y.a y.len y.cap] 147 z λaa ab=>App m 2 32 147 [.I 0,.slice none 0 0] ⟨some aa,1,1⟩ ab λac ad=>l ac ad) (l m z)))
theorem XD.o {a b c d}(e:XD.v a b c d):XD.c a b c d:=Wa Tryz.func240 (x:=XD.h) (R0 e)
def XJ.h:Hn:=.q .o1 (.q .o9 (.kx [] (.q .o6 (.c (.o 12) .l)) (.q .o9 .aL)))
def XJ.v (a:R2)(b:Int)(c:Hp)(d:Sl->Hp->Prop):Prop:=bE a 2 c λf=>bM (f+1) λg=>Nz 2<|bM (g.tdiv 2) λh=>Xs.c a h c λi j=>Jn [] (λk=>bF a 0 k λm=>bW a λn=>aR n 2 (.I ((m.len:Nat):Int)) k λo=>d i o) λp=>bE a 1 j λr=>If (r>b) (bE a 1 j λt=>bM (t-b) λu=>bW a λv=>aR v 1 (.I (if b>u then b else u)) j λw=>p w) (p j)
theorem XJ.o {a b c d}(e:XJ.v a b c d):XJ.c a b c d:=Wa Tryz.func241 (x:=XJ.h) (R0 e)
def YP.h:Hn:=.q .o1 (.q .o8 .l)
def YP.v (a:R2)(b:Int)(c:Hp)(d:Sl->Hp->Prop):Prop:=bF a 0 c λf=>Xs.c a ((f.len:Nat):Int) c λg h=>d g h
theorem YP.o {a b c d}(e:YP.v a b c d):YP.c a b c d:=Wa Tryz.func243 (x:=YP.h) (R0 e)
def ZN.h:Hn:=.q .o1 (.q (.q (.cU (.seq [.op,.op,.op,.op,.cZ false 2 [.op,.op],.op,.cZ false 7 (RI.ops 7)])) .aK) (.kx [] (.q .o7 (.c .o8 .l)) (.q .o7 .l)))
def ZN.v (a:R2)(b:Int)(c:Hp)(d:Option Addr->Hp->Prop):Prop:=Xu.c a c λe f=>bX (λg h=>bX (λi j=>If i (d none j) (Jn [] (λk=>bJ a 2 k λm=>Lk .i64 .p m b k λn=>d (n.getD none) k) λo=>bW a λp=>bC p 2 j λq=>Lk .i64 .p q b j λr=>If ((r.getD none).isNone) (bJ a 2 j λt=>aV #[.slice none 0 0,.I 1,.I 0] 191 j λu v=>kS .i64 .p t b (some u) v λw=>o w) (o j))) λx=>If g (x true h) (bF a 0 h λz=>x (decide (b≥((z.len:Nat):Int))) h)) λaa=>If (!e) (aa true f) (aa (decide (b<0)) f)
theorem ZN.o {a b c d}(e:ZN.v a b c d):ZN.c a b c d:=Wa Tryz.func281 (x:=ZN.h) (R0 e)
end Go.Proofs
namespace Go.Ar
open Go Go.Vc Go.Proofs
theorem cV.sub {U:Hp}{F:Rg}{s:Sl}{sz:Nat}{xs:List Value}(h:cV s sz xs U F){lo hi mx:Nat}(h1:lo<=hi)(h2:hi<=s.len)(h3:hi<=mx) :
 cV ⟨if mx=lo then s.a else s.a.map (·.add (lo*sz)),hi-lo,mx-lo⟩ sz ((xs.drop (lo*sz)).take ((hi-lo)*sz)) U F:=by
 have i:=h.1;have e1:hi*sz<=s.len*sz:=mD _ h2;have e2:(hi-lo)*sz=hi*sz-lo*sz:=Nat.sub_mul _ _ _;have g:lo*sz<=hi*sz:=mD _ h1;refine⟨by rw[zY,kj];simp only;omega,?_⟩;by_cases hm:mx=lo
 .left;have:hi-lo=0:=O
  rw[this,wE,vS]
 .rcases h.2 with h0|⟨b,o,cs,hb,ha,hq,hc⟩
  .left;subst h0;simp
  .refine .inr ⟨b,o+lo*sz,cs,hb,?_,hq,λj d=>?_⟩
   .simp only[zB hm,ha,ze,add_lit]
   .rw[zY,kj]at d;rw[xR,hc _ O,zm,lK,zC O]
inductive u7 where
 | hd|dI|mp
 | li (k:Nat)
 deriving DecidableEq
structure hO where
 p:Nat
 m:Nat
 dI:Sl
 ps:List (Nat×Nat)
def iW (ps:List (Nat×Nat))(k:Nat):Option Nat:=(ps.find? λx=>x.1==k).map (·.2)
def jY (ps:List (Nat×Nat)):List (Int×Option Addr):=ps.map λx=>((x.1:Int),some ⟨x.2,0,none⟩)
def nu (s:Sl)(l:Li):List Value:=[.slice s.a s.len s.cap,.int .i64 (l.lim:Int),.int .i64 (l.low:Int)]
def iX (b:Nat)(l:Li):Hp->Rg->Prop:=λU F=>F b/\fP l/\∃s:Sl,bY U b (nu s l)/\cV s 1 (Wu l.os) U (λq=>F q/\q≠b)/\s.len<=s.cap
def qy (b:Option Nat)(l:Option Li):Hp->Rg->Prop:=λU F=>match b,l with
 | some b,some l=>iX b l U F
 | none,some l=>l=im
 | _,none=>True
def Ee (Y:hO)(bud:Nat):List Value:=[.slice Y.dI.a Y.dI.len Y.dI.cap,.int .i64 (bud:Int),.map (some Y.m)]
def CC (tb:List cA)(bud:Nat)(ls:List Li)(Y:hO):u7->Hp->Rg->Prop
 | .hd=>iB Y.p (Ee Y bud)
 | .dI=>cV Y.dI 3 (gK tb)
 | .mp=>jR Y.m .i64 .p (jY Y.ps)
 | .li k=>qy (iW Y.ps k) ls[k]?
theorem iX.loc (b:Nat)(l:Li):dP (iX b l):=by
 rintro U y F G ⟨m,u,s,g,x,p⟩ w a;have j:=a b g.lt m;obtain⟨e,r⟩:=g;exact⟨j.1,u,s,⟨e,j.2.trans r⟩,cV.loc _ _ _ _ _ _ _ x w λq i d=>⟨⟨(a q i d.1).1,d.2⟩,(a q i d.1).2⟩,p⟩
theorem qy.loc (b:Option Nat)(l:Option Li):dP (qy b l):=by
 intro U σ' F G h hz hs;unfold qy at *;split at h
 .exact iX.loc _ _ _ _ _ _ h hz hs
 .exact h
 .trivial
theorem CC.loc {tb:List cA}{bud:Nat}{ls:List Li}{Y:hO}:∀i,dP (CC tb bud ls Y i)
 | .hd=>iB.loc _ _
 | .dI=>cV.loc _ _ _
 | .mp=>jR.loc _ _ _ _
 | .li k=>qy.loc _ _
structure eO (U:Hp) (F:Rg) (Y:hO) (tb:List cA) (bud:Nat) (ls:List Li):Prop where
 oe:tb.length<=40
 ok:∀c∈tb,c.ok
 len:ls.length=tb.length
 keys:∀x∈Y.ps,x.1<tb.length
 sep:Sep (CC tb bud ls Y) U F
variable {U:Hp}{F G:Rg}{Y:hO}{tb:List cA}{bud:Nat}{ls:List Li}{b k:Nat}{l:Li}
theorem eO.loc:dP λU F=>eO U F Y tb bud ls:=λU d F G h a b=>⟨h.oe,h.ok,h.len,h.keys,Sep.loc CC.loc _ _ _ _ h.sep a b⟩
theorem eO.bP {σ':Hp}(h:eO U F Y tb bud ls)(e:aF U σ'):eO σ' F Y tb bud ls:=dP.bP eO.loc h e
theorem eO.hd (h:eO U F Y tb bud ls):bY U Y.p (Ee Y bud):=by
 obtain⟨G,b,a⟩:=h.sep.get .hd;exact a.2
theorem eO.jQ (h:eO U F Y tb bud ls):cV Y.dI 3 (gK tb) U F:=by
 obtain⟨G,d,a⟩:=h.sep.get .dI;exact aH.mono a λb _ a=>d b a
theorem eO.oU (h:eO U F Y tb bud ls):Y.dI.len=tb.length:=by
 have:=h.jQ.1;rw[Uv]at this;omega
theorem eO.map (h:eO U F Y tb bud ls):dM U Y.m .i64 .p (jY Y.ps):=by
 obtain⟨G,b,a⟩:=h.sep.get .mp;exact a.2
theorem D7 (ps:List (Nat×Nat))(k:Nat):bS (α:=Option Addr) (jY ps) (k:Int)=(iW ps k).map λb=>some ⟨b,0,none⟩:=by
 induction ps with
 | nil=>rfl
 | cons x l ih=>
  simp only[bS,jY,iW,zR,vH]at *;have e:(((x.1:Nat):Int)==(k:Int))=(x.1==k):=mg _ _;rw[e];cases x.1==k
  .exact ih
  .rfl
theorem Jv {ps:List (Nat×Nat)}(h:iW ps k=none):∀x∈ps,x.1≠k:=by
 unfold iW at h;simp only[sP,oD,zU]at h;exact h
theorem MH {ps:List (Nat×Nat)}(h:iW ps k=none)(b:Nat):cX (α:=Option Addr) (jY ps) (k:Int) (some ⟨b,0,none⟩)=jY (ps++[(k,b)]):=by
 unfold cX;rw[zB]
 .simp[jY]
 .simp only[jY,List.any_map,zy,Function.comp,zU,not_exists,not_and];intro x hx e;exact Jv h x hx O
theorem He {ps:List (Nat×Nat)}(h:iW ps k=none)(b j:Nat):iW (ps++[(k,b)]) j=if j=k then some b else iW ps j:=by
 have a:=Jv h;unfold iW at *;rw[List.find?_append];by_cases hj:j=k
 .subst hj;have:ps.find? (λx=>x.1==j)=none:=by simpa using h
  rw[this];simp
 .rw[zB hj];cases hf:ps.find? (λx=>x.1==j)with
  | none=>
   have:(k==j)=false:=by simpa using λe=>hj e.symm
   simp[this]
  | some x=>simp
theorem Jw {ps:List (Nat×Nat)}(hn:((jY ps).map (·.1)).Nodup)(h:(k,b)∈ps):iW ps k=some b:=by
 induction ps with
 | nil=>simp at h
 | cons x l ih=>
  simp only[jY,zR,zr]at hn;unfold iW;rw[vH];rcases zW.1 h with rfl|h
  .simp
  .have:(x.1==k)=false:=by
    have:x.1≠k:=λe=>hn.1 (zE.2 ⟨(((k:Nat):Int),some ⟨b,0,none⟩),zE.2 ⟨(k,b),h,rfl⟩,by rw[e]⟩);simpa using this
   rw[this];exact ih hn.2 h
theorem HE (h:eO U F Y tb bud ls){R:aO}(hR:R true U):Xu.c (aW Y.p) U R:=by
 refine Xu.o ?_;unfold Xu.v;exact bX.intro (cF rfl (bL (h.hd.rM rfl hR)))
theorem eO.xo (h:eO U F Y tb bud ls)(hb:iW Y.ps k=some b)(hl:ls[k]?=some l):∃G:Rg,(∀q,G q->F q)/\iX b l U G/\¬G Y.m ∧
 ∀(σ':Hp) (l':Li) (G':Rg),Ext G U σ'->(∀q,G' q->Grow G U q)->iX b l' σ' G'->Ext F U σ'/\eO σ' (λq=>F q/\q<U.size/\¬G q\/G' q) Y tb bud (ls.set k l'):=by
 have g:=(cY.1 hl).1;obtain⟨G,r,hi,d,a⟩:=h.sep.ka CC.loc (.li k);have hi:iX b l U G:=by
  simp only[CC,qy,hb,hl]at hi;exact hi
 have p:¬G Y.m:=by
  obtain⟨H,_,hd,i⟩:=d .mp (by intro e;cases e);exact hd _ i.1
 refine⟨G,r,hi,p,λσ' l' G' e w u=>⟨e.sub r,h.oe,h.ok,by rw[pH];exact h.len,h.keys,?_⟩⟩;refine a σ' (CC tb bud (ls.set k l') Y) G' (λj s=>?_) e w ?_ (CC.loc _)
 .cases j<;>try rfl
  rename_i m;have p:m≠k:=λe=>s (by rw[e]);simp only[CC,zh (Ne.symm p)]
 .simp only[CC,qy,hb,zO g];exact u
theorem eO.mono (h:eO U F Y tb bud ls)(hs:∀q,q<U.size->F q->G q):eO U G Y tb bud ls:=dP.mono eO.loc h hs
theorem eO.cut (h:eO U F Y tb bud ls):eO U (Cut F U) Y tb bud ls:=dP.cut eO.loc h
theorem eO.eX {v:Hp}(h:eO v (Grow F U) Y tb bud ls)(e0:Ext F U v)(hb:iW Y.ps k=some b)(hl:ls[k]?=some l):∃G:Rg,iX b l v G ∧
 ∀(σ':Hp) (l':Li) (G':Rg),Ext G v σ'->(∀q,G' q->Grow G v q)->iX b l' σ' G'->Ext F U σ'/\eO σ' (Grow F U) Y tb bud (ls.set k l'):=by
 obtain⟨G,p,m,_,a⟩:=h.xo hb hl;refine⟨G,m,λσ' l' G' e i g=>?_⟩;obtain⟨e1,j⟩:=a σ' l' G' e i g;refine⟨e0.jC e1,j.mono λq _ d=>?_⟩;have:=e0.1;rcases d with d|d
 .exact d.1
 .rcases i q d with h2|h2
  .exact p q h2
  .exact .inr O
theorem Wnn (h:eO U F Y tb bud ls)(hk:k<tb.length){R:Option Addr->Hp->Prop}(hR:∀σ' Y' b,Ext F U σ'->Y'.p=Y.p->iW Y'.ps k=some b->eO σ' (Grow F U) Y' tb bud ls->R (some ⟨b,0,none⟩) σ') :
 ZN.c (aW Y.p) (k:Int) U R:=by
 refine ZN.o ?_;unfold ZN.v;have w:k<ls.length:=by rw[h.len];exact hk
 have E:ls[k]?=some ls[k]:=cW w;generalize ls[k]=l at E;have M:=h.oU;refine HE h (bX.intro (cD rfl ?_));refine bX.intro (gA O (bL (h.hd.rS rfl ?_)));refine gA aC ?_;refine Jn.intro (bL (h.hd.rM rfl ⟨_,h.map,?_⟩));rw[D7];cases hf:iW Y.ps k with
 | some b=>
  refine cD rfl (bL (h.hd.rM rfl ⟨_,h.map,?_⟩));rw[D7,hf];exact hR U Y b (Ext.refl _ _) rfl hf (h.mono λq _ a=>.inl a)
 | none=>
  refine cF rfl (bL (h.hd.rM rfl (nw (cs:=[.slice none 0 0,.int .i64 1,.int .i64 0]) λv Q e C=>?_)));obtain⟨G,H,r,P,hd,hi,u,i⟩:=h.cut.sep.pf CC.loc .mp (.li k) (by intro e;cases e);have J:∀q,G q->F q:=λq a=>(r q a).1;have hi:jR Y.m .i64 .p (jY Y.ps) U G:=hi;have u:l=im:=by
   simp only[CC,qy,hf,E]at u;exact u
  have L:=hi.2.lt;have z:dM v Y.m .i64 .p (jY Y.ps):=e.fX hi.2 id;refine⟨Y.m,_,rfl,z,λv2 y s=>?_⟩;rw[MH hf]at s;have e2:Ext F U v2:=(aF.to e).only y (.inl (J _ hi.1));have B:Ext (λq=>G q\/H q) U v2:=(aF.to e).only y (.inl (.inl hi.1));have D:bY v2 U.size [.slice none 0 0,.int .i64 1,.int .i64 0]:=WF y C O;have d:eO v2 (Grow F U) {Y with ps:=Y.ps++[(k,U.size)]} tb bud ls:=by
   refine⟨h.oe,h.ok,h.len,λx g=>?_,?_⟩
   .rcases zJ.1 g with g|g
    .exact h.keys x g
    .simp only[zN]at g;subst g;exact hk
   refine(Sep.loc CC.loc).mono (i v2 (CC tb bud ls {Y with ps:=Y.ps++[(k,U.size)]}) G (· = U.size) (λj A K=>?_) B (λq a=>.inl (.inl a)) (λq a=>.inr O) (λq A K=>?_) ⟨hi.1,s⟩ ?_ CC.loc) λq _ a=>?_
   .cases j<;>first|rfl|exact absurd rfl A|skip
    rename_i m;have N:m≠k:=λe=>K (by rw[e]);simp only[CC,He hf,zB N]
   .have:=(r q A).2;omega
   .simp only[CC,He hf,zT,E,u,qy];exact⟨rfl,fP.nil,⟨none,0,0⟩,D,cV.nil _ _ _ _,zD _⟩
   .rcases a with a|a|a
    .exact .inl a.1.1
    .exact .inl (J q a)
    .exact .inr O
  refine bL (d.hd.rM rfl ⟨_,d.map,?_⟩);rw[D7,He hf,zC rfl];exact hR v2 {Y with ps:=Y.ps++[(k,U.size)]} U.size e2 rfl (by show iW (Y.ps++[(k,U.size)]) k=_;rw[He hf,zC rfl]) d
theorem Ao (h:eO U F Y tb bud ls)(hk:k<tb.length){R:Option Addr->Int->Hp->Prop}(hR:∀σ' Y' b,Ext F U σ'->Y'.p=Y.p->iW Y'.ps k=some b->eO σ' (Grow F U) Y' tb bud ls->R (some ⟨b,0,none⟩) 0 σ') :
 XI.c (aW Y.p) (k:Int) U R:=by
 refine XI.o ?_;unfold XI.v;exact HE h (cD rfl (Wnn h hk λσ' Y' b e g d a=>cD rfl (hR σ' Y' b e g d a)))
theorem bU.pw {s:Sl}{sz:Nat}{xs:List Value}(h:bU s sz xs U F):s.len<=s.cap:=by
 rcases h.2 with⟨q1,q2⟩|⟨_,_,_,_,_,q,_⟩
 .omega
 .exact q
theorem GF (h:iX b l U G){m:Nat}(hm:m<=l.os.length){R:Sl->Hp->Prop}
 (hR:∀s z σ',Ext (· = b) U σ'->U.size<=z->bU s 1 (Wu (l.os.take m)) σ' (λq=>U.size<=q/\q<z)->iX b (gO m l).2 σ' (λq=>q=b\/z<=q)->R s σ') :
 Xs.c (aW b) (m:Int) U R:=by
 refine Xs.o ?_;unfold Xs.v;obtain⟨X,a,s,E,C,Y⟩:=h;have W:s.len=l.os.length:=by have:=C.1;simp[Wu]at this;omega
 have D:=a.many;have L:=a.low;have p:=cV.sub C (lo:=0) (hi:=m) (mx:=s.cap) O O O;have e1:((Wu l.os).drop (0*1)).take ((m-0)*1)=Wu (l.os.take m):=by simp[Wu]
 rw[e1]at p;refine bL (E.rS rfl (jv (lo:=0) O aC aC (H6 p Ud aC λs1 M N y J=>?_)));have x:=y.bV E id;have K:=aH.bP C y;have j:=cV.sub K (lo:=m) (hi:=s.len) (mx:=s.cap) O O O;have e2:((Wu l.os).drop (m*1)).take ((s.len-m)*1)=Wu (l.os.drop m):=by
  rw[lP (by simp[Wu];omega)];simp[Wu]
 rw[e2]at j;refine bL (x.rS rfl (jv aC aC aC (H6 j Ud aC λs2 S B H i=>?_)));have F:=H.bV x id;refine bL (F.s1 (by simp[nu]) λv3 o3 g=>bL (g.rI rfl (bL (g.rS rfl (bL (g.s1 (by simp[nu]) λv4 o4 w=>?_))))));have d:Ext (· = b) S v4:=o3.ext.trans o4.ext;have V:=E.lt;have A:=y.1;have u:s2.len=l.os.length-m:=by rw[B];simp only;omega
 refine hR s1 M.size v4 ((aF.to (y.trans H)).trans d) A ?_ ⟨.inl rfl,Bh a,s2,?_,?_,bU.pw i⟩
 .refine aI.bT (aI.bP (aI.mono J (G:=λq=>U.size<=q/\q<M.size) λq r Q=>⟨Q,r⟩) H) d λq _ r P=>by omega
 .have:(if((s2.len:Nat):Int)<(l.low:Int)then((s2.len:Nat):Int)else(l.low:Int))=((min l.low (l.os.length-m):Nat):Int):=by rw[u];split<;>omega
  rw[this]at w;exact w
 .refine aH.mono (aH.bT i.fY d λq _ r P=>O) λq _ r=>⟨.inr r,O⟩
theorem M7 (h:iX b l U G){sl:Sl}{xs:List Int}{X:Rg}(hs:cV sl 1 (Wu xs) U X)(hx:xs≠[])(hfit:l.os.length+xs.length<=256){R:aN}
 (hR:∀σ',Ext (· = b) U σ'->iX b (eM xs l) σ' (λq=>q=b\/U.size<=q)->R 0 σ'):Xl.c (aW b) sl U R:=by
 refine Xl.o ?_;unfold Xl.v;obtain⟨H,i,s,g,d,J⟩:=h;have F:s.len=l.os.length:=by have:=d.1;simp[Wu]at this;omega
 have B:sl.len=xs.length:=by have:=hs.1;simp[Wu]at this;omega
 have z:=pB.2 hx;have x:eM xs l = {l with os:=l.os++xs}:=by unfold eM;rw[zB O]
 refine bL (g.rS rfl (cT (m:=l.os.length+xs.length) aC O (gA O (bL (g.rS rfl ?_)))));refine XC.o ?_;unfold XC.v;refine jv (lo:=0) aC aC aC ?_;have E:=g.lt;refine⟨Wu l.os,Wu xs,by simp[Wu];omega,by simp[Wu];omega,?_,hs.rd,Ud,?_,by simp only;omega,λp=>by simp only at p;omega,λy c r=>?_⟩
 .by_cases h0:s.len=0
  .have:l.os=[]:=CZ.1 O;rw[this];simp only[h0,zT];cases s.a<;>simp[Rd,Wu]
  .simp only[zB h0,wE];have:=d.rd;cases ha:s.a with
   | none=>rw[ha]at this;simpa[Rd]using this
   | some a=>rw[ha]at this;simpa[Rd,Addr.add_zero']using this
 .simp only;have:(s.len-0+sl.len)*8<=256*8:=mC O O;omega
 .refine nw λv K e u=>bL ((e.bV g id).s1 (by simp[nu]) λC o2 w=>?_);have A:l.os.length+xs.length<=c:=by simp only at r;omega
  refine hR C ((aF.to e).trans o2.ext) ?_;rw[x];have:=A8 (xs:=xs) i;rw[x]at this;refine⟨.inl rfl,this,⟨some ⟨U.size,0,none⟩,s.len-0+sl.len,c⟩,w,⟨by simp[Wu];omega,.inr ⟨U.size,0,_,⟨.inr (zD _),O⟩,rfl,(WF o2 u O).q,λj D=>?_⟩⟩,by simp only;omega⟩;simp only[Wu,zk,zM]at D;rw[zH,zl,←zl,zd (by simp[Wu];omega)];simp[Wu]
theorem TH (h:iX b l U G){sl:Sl}{xs:List Int}{X:Rg}(hs:cV sl 1 (Wu xs) U X)(hfit:¬l.os.length+xs.length<=256)(hxs:xs.length<=1000000){R:aN}
 (hR:R 6 U):Xl.c (aW b) sl U R:=by
 refine Xl.o ?_;unfold Xl.v;obtain⟨p,a,s,i,d,r⟩:=h;have g:s.len=l.os.length:=by have:=d.1;simp[Wu]at this;omega
 have j:sl.len=xs.length:=by have:=hs.1;simp[Wu]at this;omega
 have:=a.many;exact bL (i.rS rfl (cT (m:=l.os.length+xs.length) aC O (lV O hR)))
end Go.Ar
namespace Go.Ar
open Go Go.Vc Go.Proofs
variable {U:Hp}{F G:Rg}{Y:hO}{tb:List cA}{bud:Nat}{ls:List Li}{b k:Nat}{l:Li}{c:cA}
theorem eO.cls (h:eO U F Y tb bud ls)(hc:tb[k]?=some c):c.ok/\k<tb.length:=⟨h.ok c (zG hc),(cY.1 hc).1⟩
theorem iX.st {v:Hp}(h:iX b l U G){s:Sl}{l':Li}(ho:Ext (· = b) U v)(hb:bY v b (nu s l'))(hs:cV s 1 (Wu l'.os) U (λq=>G q/\q≠b))(hc:s.len<=s.cap)(ok:fP l'):iX b l' v G:=
 ⟨h.1,ok,s,hb,aH.bT hs ho λq _ a d=>a.2 d,hc⟩
theorem lI (h:eO U F Y tb bud ls)(hc:tb[k]?=some c)(hl:ls[k]?=some l){R:Int->Int->Hp->Prop}
 (hR:∀σ' Y',Ext F U σ'->Y'.p=Y.p->eO σ' (Grow F U) Y' tb bud (ls.set k (KM c l).2)->R ((KM c l).1.getD 0) (if(KM c l).1.isSome then 0 else 4) σ'):Yy.c (aW Y.p) (k:Int) U R:=by
 obtain⟨w,hk⟩:=h.cls hc;refine Yy.o ?_;unfold Yy.v;refine Ao h hk λv Y' b e hp hb W=>cD rfl ?_;obtain⟨G,hL,E⟩:=W.eX e hb hl;have B:=hL;obtain⟨S,i,s,g,D,r⟩:=hL;have M:=W.hd;rw[hp]at M;have Q:s.len=l.os.length:=by have:=D.1;simp[Wu]at this;omega
 have o1:=i.low;have o2:=i.many;have o3:=i.lim;have o4:=i.nQ;have a:=FU w i;have fin:∀v' G',Ext G v v'->(∀q,G' q->Grow G v q)->iX b (KM c l).2 v' G'->R ((KM c l).1.getD 0) (if(KM c l).1.isSome then 0 else 4) v':=λv' G' X hg P=>by
  obtain⟨e2,h2⟩:=E v' _ G' X hg P;exact hR v' Y' e2 hp h2
 unfold cA.ok at w;have y:∀{v':Hp},Ext (· = b) v v'->Ext G v v':=λX=>X.sub λq A=>by rw[A];exact S
 refine bL (g.rS rfl ?_);by_cases h0:l.os=[]
 .have e1:(KM c l).1=none:=by unfold KM;rw[h0];rfl
  have e2:(KM c l).2=if l.lim<c.batch then{l with lim:=l.lim+1}else{l with lim:=min (l.lim+c.batch) 128}:=by unfold KM;rw[h0];rfl
  rw[e1,e2]at fin;rw[e2]at a;refine cF (by simp[Q,h0]) (bL (M.rS rfl (vo W.jQ hc (d:=2) O ?_)));simp only[zB (show ¬(2=0) by omega),zB (show ¬(2=1) by omega)];refine bL (g.rI rfl (cN (λc1=>?_) λc1=>?_))
  .have z:l.lim<c.batch:=O
   rw[zC z]at fin a;refine bL (g.rI rfl (cT (m:=l.lim+1) O O (bL (g.s1 (by simp[nu]) λv' J j=>?_))));exact fin v' G (y J.ext) (λq A=>.inl A) (B.st J.ext j D r a)
  .have z:¬l.lim<c.batch:=O
   rw[zB z]at fin a;refine bL (g.rI rfl (cT (m:=l.lim+c.batch) O O (bL (g.s1 (by simp[nu]) λv' J j=>?_))));refine fin v' G (y J.ext) (λq A=>.inl A) (B.st J.ext ?_ D r a);have:(if(128:Int)<((l.lim+c.batch:Nat):Int)then(128:Int)else((l.lim+c.batch:Nat):Int))=((min (l.lim+c.batch) 128:Nat):Int):=by split<;>omega
   rw[this]at j;exact j
 .have aa:=pB.2 h0;obtain⟨x,Z⟩:∃x,l.os[l.os.length-1]?=some x:=⟨_,cW O⟩;have H:l.os.getLast?=some x:=by rw[List.getLast?_eq_getElem?];exact Z
  have e1:(KM c l).1=some x:=by unfold KM;rw[H]
  have e2:(KM c l).2 = {l with os:=l.os.dropLast,low:=min l.low (l.os.length-1)}:=by unfold KM;rw[H]
  rw[e1,e2]at fin;rw[e2]at a;refine cD (by simp only[mV];omega) ?_;refine bL (g.rS rfl (cT (m:=l.os.length-1) aC O (bL (g.rS rfl (D.mf Z (bL (g.rS rfl ?_)))))));have u:=cV.sub D (lo:=0) (hi:=l.os.length-1) (mx:=s.cap) O O O;have ed:((Wu l.os).drop (0*1)).take ((l.os.length-1-0)*1)=Wu l.os.dropLast:=by simp[Wu,AJ]
  rw[ed]at u;refine jv (lo:=0) O aC aC (bL (g.s1 (by simp[nu]) λv1 N K=>bL (K.rI rfl (bL (K.s1 (by simp[nu]) λv2 V L=>?_)))));have C:=N.ext.trans V.ext;refine fin v2 G (y C) (λq A=>.inl A) (B.st C ?_ u aC a);have:(if((l.os.length-1:Nat):Int)<(l.low:Int)then((l.os.length-1:Nat):Int)else(l.low:Int))=((min l.low (l.os.length-1):Nat):Int):=by split<;>omega
  rw[this]at L;exact L
theorem Wmg (h:eO U F Y tb bud ls)(hc:tb[k]?=some c)(hl:ls[k]?=some l){R:Int->Int->Hp->Prop}
 (hR:∀σ' Y',Ext F U σ'->Y'.p=Y.p->eO σ' (Grow F U) Y' tb bud ls->R ((qc c l:Nat):Int) 0 σ'):Yt.c (aW Y.p) (k:Int) U R:=by
 obtain⟨m,A⟩:=h.cls hc;refine Yt.o ?_;unfold Yt.v;refine Ao h A λv Y' b e u y g=>cD rfl ?_;obtain⟨G,x,j⟩:=g.eX e y hl;obtain⟨z,w,s,i,B,r⟩:=x;have a:=g.hd;rw[u]at a;refine bL (i.rI rfl (bL (a.rS rfl (vo g.jQ hc (d:=2) O ?_))));simp only[zB (show ¬(2=0) by omega),zB (show ¬(2=1) by omega)];have:(if(c.batch:Int)<(l.lim:Int)then(c.batch:Int)else(l.lim:Int))=((qc c l:Nat):Int):=by unfold qc;split<;>omega
 rw[this];exact hR v Y' e u g
theorem Wmr (l:List Int)(i:Nat)(h:i<l.length):l.reverse[i]?=l[l.length-1-i]? := by
 rw[List.getElem?_reverse h]
theorem O9 {s:Sl}{xs:List Int}(h:bU s 1 (Wu xs) U F)(hlen:xs.length<=1000000){R:aP}(hR:∀σ',Ext F U σ'->bU s 1 (Wu xs.reverse) σ' F->R σ'):Xj.c s U R:=by
 refine Xj.o ?_;unfold Xj.v;have S:s.len=xs.length:=by have:=h.1;simp[Wu]at this;omega
 let jn (i:Nat):List Int:=(List.range xs.length).map λj=>if j<i\/xs.length-i<=j then xs.getD (xs.length-1-j) 0 else xs.getD j 0
 have lg:∀i,(jn i).length=xs.length:=λi=>by simp[jn]
 have bS:∀i j,j<xs.length->(jn i)[j]?=some (if j<i\/xs.length-i<=j then xs.getD (xs.length-1-j) 0 else xs.getD j 0):=λi j g=>by simp[jn,g]
 have N:jn 0=xs:=by
  apply zt;intro j;by_cases g:j<xs.length
  .rw[bS 0 j g,zB O];simp[zQ,cW g]
  .rw[zX (by rw[lg];omega),zX O]
 have z:∀i,xs.length<=2*i+1->i<=xs.length->jn i=xs.reverse:=by
  intro i J G;apply zt;intro j;by_cases g:j<xs.length
  .rw[bS i j g,Wmr xs j g,zQ,zQ,cW (show xs.length-1-j<xs.length by omega),cW g];split
   .rfl
   .have:xs.length-1-j=j:=O
    simp only[this];rfl
  .rw[zX (by rw[lg];omega),zX aE]
 have step:∀i,2*i+1<xs.length->((jn i).set i (xs.getD (xs.length-1-i) 0)).set (xs.length-1-i) (xs.getD i 0)=jn (i+1):=by
  intro i hi;apply zt;intro j;by_cases g:j<xs.length
  .rw[bS (i+1) j g,nU,nU];simp only[pH,lg];by_cases e1:xs.length-1-i=j
   .subst e1;rw[zC rfl,zC O,zC O]
    congr 2;omega
   .rw[zB e1];by_cases e2:i=j
    .subst e2;rw[zC rfl,zC O,zC O]
    .rw[zB e2,bS i j g];by_cases e3:j<i\/xs.length-i<=j
     .rw[zC e3,zC O]
     .rw[zB e3,zB O]
  .rw[zX (by simp[lg];omega),zX (by rw[lg];omega)]
 refine vO ?_;rw[UA O O];refine UJ (a:=bO) (bb:=bO) (λ(i j:Int) v=>∃n:Nat,i=(n:Int)/\j=(xs.length:Int)-1-n/\n<=xs.length/\Ext F U v/\bU s 1 (Wu (jn n)) v F) (λi _ _=>xs.length-i.toNat) ⟨0,rfl,O,O,Ext.refl _ _,by rw[N];exact h⟩ ?_;rintro i j v ⟨n,rfl,rfl,X,ev,y⟩;refine cN (λL=>?_) λM=>?_
 .have A:2*n+1<xs.length:=O
  have D:(xs.length:Int)-1-n=((xs.length-1-n:Nat):Int):=O
  rw[D];have C:=bS n (xs.length-1-n) O;have E:=bS n n O;rw[zB O]at C E;rw[zQ]at C E;obtain⟨b,r⟩:∃b,s.a=some ⟨b,0,none⟩:=by
   rcases y.2 with⟨q1,q2⟩|⟨b,cs,_,B,_⟩
   .omega
   .exact⟨b,B⟩
  have p:∀u,bU s 1 (Wu (jn n)) u F->∀(j:Nat) (x:Int),(jn n)[j]?=some x->cell u (Addr.add ⟨b,0,none⟩ ((j:Int).toNat*1))=some (.int .i64 x):=λu w j x Q=>by
   obtain⟨K,o,B,P⟩:=w.fY.cell (j:=j) (v:=.int .i64 x) (by simp[Wu,Q]);rw[r]at B;cases B;rw[add_lit,show 0+(j:Int).toNat*1=0+j by omega];exact P
  rw[r];refine⟨λu=>bU s 1 (Wu (jn n)) u F,y,?_⟩;refine ix O O ⟨_,λu w=>p u w _ _ C,?_⟩;refine ix O O ⟨_,λu w=>p u w _ _ E,?_⟩;refine ix O O ?_;refine y.st (j:=n) (by simp[Wu,lg];omega) (λK d=>by rw[r]at d;cases d;rw[add_lit];simp) λV e1 J=>?_;refine ix O O ?_;refine J.st (j:=xs.length-1-n) (by simp[Wu,lg];omega) (λK d=>by rw[r]at d;cases d;rw[add_lit];simp) λW e2 G=>?_;refine cT (m:=n+1) O O (cT (m:=xs.length-1-n-1) O O ⟨⟨n+1,rfl,O,O,(ev.trans e1).trans e2,?_⟩,O⟩);rw[←step n A,zQ,zQ];have H:∀(l:List Int) (i:Nat) (x:Int),Wu (l.set i x)=(Wu l).set i (.int .i64 x):=λl i x=>by simp[Wu,wA]
  rw[H,H];exact G
 .rw[z n O O]at y;exact hR v ev y
theorem Mq (h:iX b l U G){sl:Sl}(hz:sl.len=0){R:aN}(hR:∀σ',Ext (· = b) U σ'->iX b l σ' G->R 0 σ'):Xl.c (aW b) sl U R:=by
 refine Xl.o ?_;unfold Xl.v;have B:=h;obtain⟨E,i,s,u,j,F⟩:=h;have w:s.len=l.os.length:=by have:=j.1;simp[Wu]at this;omega
 have A:=i.many;refine bL (u.rS rfl (cT (m:=l.os.length) aC O (gA O (bL (u.rS rfl ?_)))));refine XC.o ?_;unfold XC.v;refine jv (lo:=0) aC aC aC ?_;have d:=cV.sub j (lo:=0) (hi:=s.len) (mx:=s.len) O O O;have D:((Wu l.os).drop (0*1)).take ((s.len-0)*1)=Wu l.os:=by rw[w,lP (by simp[Wu])];simp
 rw[D]at d;have key:∀(g:Sl),cV g 1 (Wu l.os) U (λq=>G q/\q≠b)->g.len<=g.cap->bW (some ⟨b,0,none⟩) λr=>dG (r.add 0) (.slice g.a g.len g.cap) U λv2=>R 0 v2:=λg z y=>by
  refine bL (u.s1 (by simp[nu]) λv2 o2 x=>hR v2 o2.ext ?_);exact B.st (l':=l) (s:=g) o2.ext x z y i
 refine⟨Wu l.os,[],by simp[Wu];omega,by simp[hz],d.rd,by cases sl.a<;>simp[Rd],by simp,?_,by simp only;omega,λC=>?_,λp=>absurd (by simp only[hz];omega) p⟩
 .simp only[hz];have:(s.len-0+0)*8<=256*8:=mC O O;omega
 .simp only[hz,kr];cases ha:(if s.len=0 then s.a else s.a.map (·.add (0*1)))
  .rw[ha]at d;exact key ⟨none,s.len-0,s.len-0⟩ d (zD _)
  .rw[ha]at d;exact key ⟨some _,s.len-0,s.len-0⟩ d (zD _)
theorem Fb (h:iX b l U G){sl:Sl}{xs:List Int}{X:Rg}(hs:cV sl 1 (Wu xs) U X)(hfit:l.os.length+xs.length<=256){R:aN}
 (hR:∀σ',Ext (· = b) U σ'->iX b (eM xs l) σ' (Grow G U)->R 0 σ'):Xl.c (aW b) sl U R:=by
 by_cases hx:xs=[]
 .subst hx;have g:eM [] l=l:=by unfold eM;rw[zB (by simp only[lh]at hfit ⊢;omega)];simp
  refine Mq h (by have:=hs.1;simp[Wu]at this;omega) λσ' e a=>hR σ' e ?_;rw[g];exact(iX.loc _ _).mono a λq _ d=>.inl d
 .exact M7 h hs hx hfit λσ' e a=>hR σ' e ((iX.loc _ _).mono a λq _ d=>d.imp (λe=>by rw[e];exact h.1) id)
theorem Pr (h:eO U F Y tb bud ls)(hc:tb[k]?=some c)(hl:ls[k]?=some l){sl:Sl}{xs:List Int}{X:Rg}(hs:cV sl 1 (Wu xs) U X)(hX:∀q,X q->¬F q)(hfit:l.os.length+xs.length<=256){R:aN}
 (hR:∀σ' Y',Ext F U σ'->Y'.p=Y.p->eO σ' (Grow F U) Y' tb bud (ls.set k (eM xs.reverse l))->R 0 σ'):Yj.c (aW Y.p) (k:Int) sl U R:=by
 obtain⟨u,D⟩:=h.cls hc;have C:sl.len=xs.length:=by have:=hs.1;simp[Wu]at this;omega
 refine Yj.o ?_;unfold Yj.v;refine Ao h D λv Y' b e w z y=>cD rfl ?_;have j:=aH.bT hs e λq _ a=>hX q a;refine H6 j Ud O λs1 H x e1 r=>?_;refine O9 r O λv2 e2 m=>?_;have g:aF v v2:=Ext.fresh e1 e2 λq a=>a;obtain⟨G,s,d⟩:=(y.bP g).eX (e.trans (aF.to g)) z hl;refine Fb s m.fY aE λv3 A i=>?_;obtain⟨B,E⟩:=d v3 _ _ (A.sub λq a=>a▸s.1) (λq a=>a) i;exact hR v3 Y' B w E
theorem QN {α:Type}{ls:List α}{k:Nat}{l:α}(h:ls[k]?=some l):ls.set k l=ls:=by
 apply zt;intro j;by_cases hj:j=k
 .subst hj;rw[zO (cY.1 h).1,h]
 .rw[zh (Ne.symm hj)]
theorem Pk (h:eO U F Y tb bud ls)(hc:tb[k]?=some c)(hl:ls[k]?=some l)(x:Int){R:Sl->Int->Hp->Prop}
 (hR:∀σ' Y' s e (Q:Rg),Ext F U σ'->Y'.p=Y.p->(l.os.length+1<=256->e=0)->(∀q,Q q->U.size<=q)->bU s 1 (Wu (dO c x l).1) σ' Q->eO σ' (λq=>Grow F U q/\¬Q q) Y' tb bud (ls.set k (dO c x l).2)->R s e σ'):YZ.c (aW Y.p) (k:Int) x U R:=by
 obtain⟨aa,hk⟩:=h.cls hc;refine YZ.o ?_;unfold YZ.v;refine Ao h hk λv Y' b e hp hb h'=>cD rfl ?_;have hσv:=e.1;obtain⟨G,hG,hL,_,N⟩:=h'.xo hb hl;have hblt:b<v.size:=by obtain⟨_,_,s,hbk,_⟩:=hL;exact hbk.lt
 have u:=hL.1;have W:=hL.2.1;have hmany:=W.many;have r:∀(σ':Hp) (l':Li) (G':Rg),Ext G v σ'->(∀q,G' q->Grow G v q)->iX b l' σ' G'->Ext F U σ'/\eO σ' (λq=>Grow F U q/\q<v.size/\¬G q\/G' q) Y' tb bud (ls.set k l'):=λσ' l' G' e' hg hL'=>by
  obtain⟨e1,h1⟩:=N σ' l' G' e' hg hL';exact⟨e.jC e1,h1⟩
 have hin:∀{G':Rg} {q:Nat},(∀q,G' q->Grow G v q)->(Grow F U q/\q<v.size/\¬G q\/G' q)->Grow F U q:=λhg a=>by
  rcases a with a|a
  .exact a.1
  .rcases hg _ a with H|H
   .exact hG _ H
   .exact .inr O
 refine nw (cs:=[.int .i64 x]) λv1 hz1 e1 hb1=>?_;have L:=(iX.loc _ _).bP hL e1;have ab:cV ⟨some ⟨v.size,0,none⟩,1,1⟩ 1 (Wu [x]) v1 (· = v.size):=hb1.fY (o:=0) rfl (by simp[Wu]) (λj hj=>by
  simp only[Wu,zR,oC,zS,lh]at hj ⊢;rw[zH])
 by_cases hfit:l.os.length+1<=256
 .refine Fb L ab (by simpa using hfit) λv2 e2 C=>cD rfl ?_;have B:Ext G v v2:=(aF.to e1).trans (e2.sub λq a=>a▸u);have ac:∀q,Grow G v1 q->Grow G v q:=λq a=>a.imp id λS=>by omega
  obtain⟨eF2,H⟩:=r v2 _ _ B ac C;have i:(eM [x] l).os=l.os++[x]/\(eM [x] l).lim=l.lim/\(eM [x] l).low=l.low:=by unfold eM;rw[zB (by simp only[zS,lh];omega)];exact⟨rfl,rfl,rfl⟩
  have y:=C;obtain⟨_,ok2,s2,g,M,D⟩:=C;have hs2l:s2.len=l.os.length+1:=by have:=M.1;simp[Wu,i.1]at this;omega
  refine bL (g.rS rfl (bL (g.rI rfl ?_)));rw[i.2.1];refine cN (λc1=>?_) λc1=>?_
  .have E:l.os.length+1<=l.lim:=by simp only at c1;omega
   have w:dO c x l=([],eM [x] l):=by unfold dO;rw[zB O,zC E]
   refine hR v2 Y' _ 0 (λ_=>False) eF2 hp (λ_=>rfl) (λq a=>a.elim) (by rw[w];exact bU.nil _ _ _ _) ?_;rw[w];exact H.mono λq _ a=>⟨hin ac a,id⟩
  .have E:¬l.os.length+1<=l.lim:=by simp only at c1;omega
   have w:dO c x l=gO (min c.batch (l.os.length+1)) (mI c (eM [x] l)):=by unfold dO;rw[zB O,zB E]
   have ad:=H.hd;rw[hp]at ad;refine bL (ad.rS rfl (vo H.jQ hc (d:=2) O ?_));simp only[zB (show ¬(2=0) by omega),zB (show ¬(2=1) by omega)];refine Jn.intro ?_;have A:∀v3,Ext (· = b) v2 v3->iX b (mI c (eM [x] l)) v3 (Grow G v1)->bW (some ⟨b,0,none⟩) λa62=>jF (a62.add 0) v3 λK=>Xs.c (aW b) (if((K.len:Nat):Int)<(c.batch:Int)then((K.len:Nat):Int)else(c.batch:Int)) v3 λt67 v4=>R t67 0 v4:=by
    intro v3 e3 hL3;have V:=hL3;obtain⟨_,ok3,s3,Z,hs3,hcap3⟩:=hL3;have X:(mI c (eM [x] l)).os=l.os++[x]:=by unfold mI;split<;>exact i.1
    have P:s3.len=l.os.length+1:=by have:=hs3.1;simp[Wu,X]at this;omega
    refine bL (Z.rS rfl ?_);have em:(if((s3.len:Nat):Int)<(c.batch:Int)then((s3.len:Nat):Int)else(c.batch:Int))=((min c.batch (l.os.length+1):Nat):Int):=by rw[P];split<;>omega
    rw[em];refine GF V (by rw[X];simp;omega) λs z v4 e4 hz hr hL4=>?_;have e24:Ext (· = b) v2 v4:=e3.trans e4;have e04:Ext G v v4:=B.trans (e24.sub λq a=>a▸u);have hs23:=e3.1;have hs02:=B.1;obtain⟨eF4,h4⟩:=r v4 _ (λq=>q=b\/z<=q) e04 (λq a=>a.imp (λ(S:q=b)=>by rw[S];exact u) λ(S:z<=q)=>O) hL4;refine hR v4 Y' s 0 (λq=>v3.size<=q/\q<z) eF4 hp (λ_=>rfl) (λq a=>O) (by rw[w];exact hr) ?_;rw[w];refine h4.mono λq _ a=>⟨?_,λhQ=>?_⟩
    .rcases a with a|a|a
     .exact a.1
     .subst a;exact hG _ u
     .exact .inr O
    .rcases a with a|a|a<;>omega
   refine bL (g.rI rfl ?_);rw[i.2.1];refine cN (λc2=>?_) λc2=>?_
   .have c2':l.lim<c.batch:=O
    have eu:mI c (eM [x] l) = {eM [x] l with lim:=l.lim+1}:=by unfold mI;rw[i.2.1,zC c2']
    have J:=ER aa ok2;refine bL (g.rI rfl ?_);rw[i.2.1];have hl128:=W.lim;refine cT (m:=l.lim+1) O O (bL (g.s1 (by simp[nu]) λv3 o3 hb3=>A v3 o3.ext ?_));rw[eu]at J ⊢;exact y.st o3.ext hb3 M D J
   .have eu:mI c (eM [x] l)=eM [x] l:=by unfold mI;rw[i.2.1,zB O]
    exact A v2 (Ext.refl _ _) (by rw[eu];exact y)
 .refine TH L ab (by simpa using hfit) aA (cF rfl ?_);have w:dO c x l=([],l):=by unfold dO;rw[zC O]
  refine hR v1 Y' _ 6 (λ_=>False) (e.trans (aF.to e1)) hp (λS=>absurd S hfit) (λq a=>a.elim) (by rw[w];exact bU.nil _ _ _ _) ?_;rw[w,QN hl];exact(h'.bP e1).mono λq _ a=>⟨a,id⟩
end Go.Ar
namespace Go.Ar
open Go Go.Vc Go.Proofs
open Go.Bu (ZF Kj ZD)
variable {U:Hp}{F:Rg}{p hs:Nat}{A:AR}{Y:Lay}{T:Nat->Hp->Rg->Prop}
theorem dL.u6 (h:dL U F Y A T){k q:Nat}{c:cA}{ss:List cH}(h1:Y.fN[k]?=some q)(h2:A.tb[k]?=some c)(h3:A.cG[k]?=some ss) :
 ∃G:Rg,(∀b,G b->F b)/\(∃ps,fJ U G q c ps ss)/\(∀j,∃H:Rg,(∀b,H b->F b)/\(∀b,H b->¬G b)/\T j U H)/\∀(σ':Hp) (ss':List cH) (ps':List (Nat×Nat)) (G' H:Rg),
  Ext G U σ'->(∀b,G' b->G b\/U.size<=b)->fJ σ' G' q c ps' ss'->(∀b,(F b/\b<U.size/\¬G b\/G' b)->H b)->dL σ' H Y {A with cG:=A.cG.set k ss'} T:=by
 obtain⟨G,m,hi,hd,a⟩:=h.step (.cG k);have d:k<A.cG.length:=(cY.1 h3).1;refine⟨G,m,Jp h1 h2 h3 hi,λj=>hd (.cR j) (by intro e;cases e),λσ' ss' ps' G' H e p i g=>?_⟩;refine a σ' _ _ T G' H h.lay.lC h.tl Woa e p ?_ g;simp only[AC];rw[h1,h2,zO d];exact⟨ps',i⟩
theorem WbI (h:dL U F Y A T)(k m:Int){R:Sl->Int->Hp->Prop}(hR:∀s σ',Ext F U σ'->bU s 1 (ints (YB A k m)) σ' (λb=>U.size<=b)->dL σ' (Cut F U) Y (YV A k m) T->R s (Kc A k m) σ') :
 WZ.c (aW Y.p) k m U R:=by
 refine WZ.o ?_;unfold WZ.v;refine U1 h k (λj=>?_) λx J u=>?_
 .have e1:Kc A k m=1:=by unfold Kc;rw[j];rfl
  have e2:YV A k m=A:=by unfold YV;rw[e1];rfl
  have d:YB A k m=[]:=by unfold YB;rw[e1];rfl
  have:=hR ⟨none,0,0⟩ U (Ext.refl _ _) (by rw[d];exact bU.nil _ _ _ _) (by rw[e2];exact h.cut);rw[e1]at this;exact cF rfl this
 .subst J;have j:A.ck (x:Int)=true:=by unfold AR.ck;simp;omega
  obtain⟨c,ss,q,t,r,z,g,B,_,_,E⟩:=h.at_ u;obtain⟨G,D,⟨K,C⟩,_,a⟩:=h.u6 B z g;refine cD rfl (bL (h.hd.rS rfl (h.l6 B ?_)));by_cases hm:m<0
  .have e1:Kc A x m=1:=by unfold Kc;rw[j,zC rfl,zC hm]
   have e2:YV A x m=A:=by unfold YV;rw[e1];rfl
   have d:YB A x m=[]:=by unfold YB;rw[e1];rfl
   have:=hR ⟨none,0,0⟩ U (Ext.refl _ _) (by rw[d];exact bU.nil _ _ _ _) (by rw[e2];exact h.cut);rw[e1]at this;exact Wg4 C m hm this
  .have e1:Kc A x m=0:=by unfold Kc;rw[j,zC rfl,zB hm]
   have y:V1 A x m=KJ c m.toNat ss:=by unfold V1;simp only[dH];rw[z,g]
   have e2:YV A x m = {A with cG:=A.cG.set x (KJ c m.toNat ss).2}:=by unfold YV;rw[e1,zC rfl,y];rfl
   have d:YB A x m=(KJ c m.toNat ss).1:=by unfold YB;rw[e1,zC rfl,y]
   refine Pm C m O λs σ' e i w=>?_;have:=hR s σ' (e.sub D) (by rw[d];exact i) (by rw[e2];exact a σ' _ _ (Cut G U) _ e (λb H=>.inl H.1) w (EJ D));rw[e1]at this;exact this
theorem Sd {k:Nat}{f:gQ->gQ}:∀j,j≠Lb.cR k->AC {A with cR:=A.cR.modify k f} Y (cM {A with cR:=A.cR.modify k f} Y) j=AC A Y (cM A Y) j:=by
 intro j hj;cases j<;>first|rfl|skip
 rename_i k';have a:k≠k':=λe=>hj (by rw[e]);simp only[AC,cM];simp[uN,a]
theorem fC.j9 {k:Nat}{f:gQ->gQ}(h:fC A Y):fC {A with cR:=A.cR.modify k f} Y:=⟨h.c,h.t,h.cG,by simpa using h.cR,h.oe,h.rJ,h.n1,h.n2,h.n3,h.st,h.room,h.ok⟩
theorem dL.uA (h:dL U F Y A (cM A Y)){k q:Nat}{c:cA}{t:gQ}(h1:Y.gC[k]?=some q)(h2:A.tb[k]?=some c)(h3:A.cR[k]?=some t) :
 ∃G:Rg,(∀b,G b->F b)/\iV U G q c.batch A.room t/\∀(σ':Hp) (f:gQ->gQ) (G' H:Rg),
  Ext G U σ'->(∀b,G' b->G b\/U.size<=b)->iV σ' G' q c.batch A.room (f t)->(∀b,(F b/\b<U.size/\¬G b\/G' b)->H b)->dL σ' H Y {A with cR:=A.cR.modify k f} (cM {A with cR:=A.cR.modify k f} Y):=by
 obtain⟨G,m,hi,hd,a⟩:=h.step (.cR k);have d:iV U G q c.batch A.room t:=by
  simp only[AC,cM]at hi;rw[h1,h2,h3]at hi;exact hi
 refine⟨G,m,d,λσ' f G' H e p i g=>?_⟩;refine a σ' _ _ _ G' H h.lay.j9 (λj=>cM.loc j) Sd e p ?_ g;simp only[AC,cM];rw[h1,h2,List.getElem?_modify_eq,h3];exact i
theorem Np (h:dL U F Y A (cM A Y))(k:Int){R:Sl->Int->Hp->Prop}(hR:∀s σ',Ext F U σ'->(∀b,k9 s b->F b)->cV s 1 (Wu (YR A k)) σ' (k9 s)->s.len<=s.cap->dL σ' (λb=>F b/\¬k9 s b) Y (Z0 A k) (cM (Z0 A k) Y)->R s (QD A k) σ') :
 WU.c (aW Y.p) k U R:=by
 refine WU.o ?_;unfold WU.v;refine U1 h k (λB=>?_) λx N C=>?_
 .have e1:QD A k=1:=by unfold QD;rw[B];rfl
  have e2:Z0 A k=A:=by unfold Z0;rw[e1];rfl
  have u:YR A k=[]:=by unfold YR;rw[e1];rfl
  have:=hR ⟨none,0,0⟩ U (Ext.refl _ _) (λb d=>by obtain⟨a,g,_⟩:=d;cases g) (by rw[u];exact cV.nil _ _ _ _) (zD _) (by rw[e2];exact h.mono λb _ d=>⟨d,λ⟨a,g,_⟩=>by cases g⟩);rw[e1]at this;exact cF rfl this
 .subst N;have B:A.ck (x:Int)=true:=by unfold AR.ck;simp;omega
  obtain⟨c,Q,q,t,r,M,L,P,z,J,K⟩:=h.at_ C;obtain⟨G,E,H,m⟩:=h.uA J M z;refine cD rfl (bL (h.hd.rS rfl (h.tn J ?_)));by_cases d:t.bs=[]
  .have e1:QD A x=4:=by unfold QD;rw[B,zC rfl];simp only[dH];rw[z];simp[d]
   have e2:Z0 A x=A:=by unfold Z0;rw[e1];rfl
   have u:YR A x=[]:=by unfold YR;rw[e1];rfl
   have:=hR ⟨none,0,0⟩ U (Ext.refl _ _) (λb d=>by obtain⟨a,g,_⟩:=d;cases g) (by rw[u];exact cV.nil _ _ _ _) (zD _) (by rw[e2];exact h.mono λb _ d=>⟨d,λ⟨a,g,_⟩=>by cases g⟩);rw[e1]at this;exact MZ H d this
  .have e1:QD A x=0:=by unfold QD;rw[B,zC rfl];simp only[dH];rw[z];simp[d]
   have e2:Z0 A x = {A with cR:=A.cR.modify x gQ.rem}:=by unfold Z0;rw[e1,zC rfl];rfl
   have u:YR A x=t.bs.getLast?.getD []:=by unfold YR;rw[e1,zC rfl];simp only[dH];rw[z]
   refine M5 H d λs σ' e i j y D=>?_;have w:∀b,(F b/\b<U.size/\¬G b\/G b/\¬k9 s b)->F b/\¬k9 s b:=λb d=>by
    rcases d with d|d
    .exact⟨d.1,λhi=>d.2.2 (i b hi)⟩
    .exact⟨E b d.1,d.2⟩
   have:=hR s σ' (e.sub E) (λb d=>E b (i b d)) (by rw[u];exact j) y (by rw[e2];exact m σ' _ (λb=>G b/\¬k9 s b) _ e (λb d=>.inl d.1) D w);rw[e1]at this;exact this
theorem υ (h:dL U F Y A (cM A Y))(k:Int){sl:Sl}{xs:List Int}{X:Rg}(hs:cV sl 1 (Wu xs) U X)(hi:∀x∈xs,iN x){R:Bool->Int->Hp->Prop}(hR:∀σ',Ext F U σ'->dL σ' (Grow F U) Y (KH A k xs) (cM (KH A k xs) Y)->R (VR A k xs) (HY A k xs) σ') :
 W6.c (aW Y.p) k sl U R:=by
 refine W6.o ?_;unfold W6.v;have u:sl.len=xs.length:=by have:=hs.1;simp[Wu]at this;omega
 have no:∀e:Int,e≠0->HY A k xs=e->R false e U:=λe he C=>by
  have e3:VR A k xs=false:=by unfold VR;rw[zL O];rfl
  have e2:KH A k xs=A:=by unfold KH;rw[e3];rfl
  have:=hR U (Ext.refl _ _) (by rw[e2];exact h.mono λb _ g=>.inl g);rw[C,e3]at this;exact this
 refine U1 h k (λhk=>cF rfl (no 1 aB (by unfold HY;rw[hk];rfl))) λx P Q=>?_;subst P;have hk:A.ck (x:Int)=true:=by unfold AR.ck;simp;omega
 obtain⟨c,ss,q,t,r,N,E,hq,ht,hr,V⟩:=h.at_ Q;obtain⟨G1,ps,hG1,Z⟩:=h.cG hq N E;obtain⟨G,hG,hC,J⟩:=h.uA hr N ht;have M:HY A x xs=if xs.length=c.batch then(if xs.all (λx=>eD c ss x==some true)then 0 else 8)else 1:=by unfold HY;rw[hk,zC rfl];simp only[dH];rw[N,E]
 refine cD rfl (bL (h.hd.rS rfl (h.xT (d:=2) N O ?_)));simp only[zB (show ¬(2=0) by omega),zB (show ¬(2=1) by omega)];rw[rX];refine cP (λg=>?_) λg=>?_
 .have:¬xs.length=c.batch:=by rw[←u];simpa using g
  exact no 1 aB (by rw[M,zB this])
 have K:xs.length=c.batch:=by rw[←u];simpa using g
 rw[zC K]at M;have h32:c.batch<=32:=V.2.2.2.2.2.2.2;refine Qg (a:=bO) (λ(i:Int) v=>∃j:Nat,i=(j:Int)/\j<=xs.length/\v=U/\∀y∈xs.take j,eD c ss y=some true) (λi _=>xs.length-i.toNat) ⟨0,rfl,O,rfl,by simp⟩ ?_;rintro i v ⟨j,rfl,hj,rfl,s⟩;refine cN (λhlt2=>?_) λhge=>?_
 .have L:j<xs.length:=O
  have P:xs[j]?=some xs[j]:=cW L;have S:xs.take (j+1)=xs.take j++[xs[j]]:=by rw[kB,P];rfl
  have w:=ky L;generalize xs[j]=y at *;have H:eD c ss y≠some true->R false 8 v:=λhn=>no 8 aB (by
   rw[M,zB];intro ha;rw[kF]at ha;exact hn (by simpa using ha y w))
  refine hs.mf P (bL (h.hd.rS rfl (h.l6 hq (Lr Z _ (hi y w) (λb g=>?_) λg=>?_))))
  .refine bX.intro (cD rfl ?_);cases b
   .exact cF rfl (H (by rw[g];simp))
   .refine cD rfl (cT (m:=j+1) O O ⟨⟨j+1,rfl,O,rfl,λz hz=>?_⟩,O⟩);rw[S]at hz;rcases zJ.1 hz with C|C
    .exact s z C
    .simp at C;rw[C];exact g
  .exact bX.intro (cF rfl (cF rfl (H (by rw[g];simp))))
 .have:j=xs.length:=O
  subst this;rw[mi]at s;have B:HY A x xs=0:=by
   rw[M,zC];rw[kF];intro y hy;simp[s y hy]
  have D:VR A x xs=decide (t.bs.length<A.room):=by unfold VR;rw[B];simp only[dH];rw[ht];simp
  refine bL (h.hd.rS rfl (h.tn hr (Rv hC hs O (λhn=>absurd K hn) (λ_ hf=>?_) λ_ hf σ' e W=>?_)))
  .rw[zL O]at D;have e2:KH A x xs=A:=by unfold KH;rw[D];rfl
   have:=hR v (Ext.refl _ _) (by rw[e2];exact h.mono λb _ g=>.inl g);rw[B,D]at this;exact this
  .rw[zI O]at D;have e2:KH A x xs = {A with cR:=A.cR.modify x λt=>{t with bs:=t.bs++[xs]}}:=by unfold KH;rw[D,zC rfl];rfl
   have:=hR σ' (e.sub hG) (by rw[e2];exact J σ' (λt=>{t with bs:=t.bs++[xs]}) (Grow G v) _ e (λb g=>g) W (GJ hG λb g=>g));rw[B,D]at this;exact this
theorem fJ.Sr {q:Nat}{c:cA}{ps:List (Nat×Nat)}{ss:List cH}{G:Rg}(h:fJ U G q c ps ss):∀s∈ss,s.st<=1024:=by
 intro s hs;obtain⟨i,hi⟩:=zP hs;have b:=(cY.1 hi).1;have a:i<ps.length:=by rw[h.len];exact b
 have:=(h.sp _ _ _ (cW a) hi).fit;omega
theorem TF (h:dL U F Y A T)(k:Int){sl:Sl}{xs:List Int}(hi:∀x∈xs,iN x)(hl:xs.length<=1000000)(hcap:sl.len<=sl.cap)
 (hs:(∃X:Rg,cV sl 1 (Wu xs) U X/\∀b,b<U.size->X b->¬F b)\/∃j,∀H,T j U H->cV sl 1 (Wu xs) U H)
 {R:aN} (hR:∀σ',Ext F U σ'->dL σ' (Grow F U) Y (ZY A k xs) T->R (Kv A k xs) σ') :
 Xd.c (aW Y.p) k sl U R:=by
 refine Xd.o ?_;unfold Xd.v;have no:∀e:Int,e≠0->Kv A k xs=e->R e U:=λe he N=>by
  have e2:ZY A k xs=A:=by unfold ZY;rw[zB O]
  have:=hR U (Ext.refl _ _) (by rw[e2];exact h.mono λb _ d=>.inl d);rw[N]at this;exact this
 refine U1 h k (λZ=>cF rfl (no 1 aB (by unfold Kv;rw[Z];rfl))) λx hx E=>?_;subst hx;have Z:A.ck (x:Int)=true:=by unfold AR.ck;simp;omega
 obtain⟨c,g,q,t,r,Q,u,hq,_,_,hok⟩:=h.at_ E;obtain⟨G,K,⟨ps,V⟩,hd,C⟩:=h.u6 hq Q u;have hX:∃X:Rg,cV sl 1 (Wu xs) U X/\∀b,X b->¬G b:=by
  rcases hs with⟨X,N,h2⟩|⟨j,hj⟩
  .exact⟨Cut X U,aH.cut N,λb d hg=>h2 b d.2 d.1 (K b hg)⟩
  .obtain⟨H,_,D,hT⟩:=hd j;exact⟨H,hj H hT,D⟩
 obtain⟨X,P,W⟩:=hX;have M:Kv A x xs=iI c g xs:=by unfold Kv;rw[Z,zC rfl];simp only[dH];rw[Q,u]
 refine cD rfl (bL (h.hd.rS rfl (h.l6 hq (RL V P W hi hl hcap (λD=>?_) λh0 o σ1 e1 m J=>?_))))
 .refine cF (by simpa using D) (no _ D M)
 .refine cD rfl ?_;have eS:ZY A x xs=UK {A with cG:=A.cG.set x (cK (xs.foldl (fM c) g))} ((QW (xs.foldl (fM c) g)).map λs=>(s,c.aG)):=by
   unfold ZY;rw[M,zC h0];simp only[dH];rw[Q,u]
  have L:=C σ1 _ _ (Cut G U) _ e1 (λb d=>.inl d.1) J (EJ K);rw[SY]at m;have B:((QW (xs.foldl (fM c) g)).map λs=>(s,c.aG)).length<=1000000/\∀r∈((QW (xs.foldl (fM c) g)).map λs=>(s,c.aG)),r.1<=1000000:=by
   have i:∀(ys:List Int) (ls:List cH),((ys.foldl (fM c) ls).map (·.st))=ls.map (·.st):=by
    intro ys
    induction ys with
    | nil=>intro ls;rfl
    | cons y ys ih=>
     intro ls;rw[ry,ih];unfold fM;split
     .rename_i j hj;split
      .rename_i s a;split
       .simp only[wA];apply zt;intro z;rw[nU];by_cases w:j=z
        .subst w;rw[zC rfl];have:=(cY.1 a).1;rw[zC (by simpa using this)];simp[a,cH.put]
        .rw[zB w]
       .rfl
      .rfl
     .rfl
   have S:∀s∈QW (xs.foldl (fM c) g),s∈g.map (·.st):=by
    intro s a;rw[←i xs g];unfold QW at a;simp only[zE,zK]at a ⊢;obtain⟨z,w,rfl⟩:=a;exact⟨z,w.1,rfl⟩
   have ab:=V.qV;refine⟨?_,λr hr=>?_⟩
   .have:(QW (xs.foldl (fM c) g)).length<=(xs.foldl (fM c) g).length:=by
     unfold QW;rw[zk];exact pI _ _
    have h2:(xs.foldl (fM c) g).length=g.length:=by have:=congrArg List.length (i xs g);simpa using this
    rw[zk];omega
   .obtain⟨s,a,rfl⟩:=zE.1 hr;obtain⟨z,w,rfl⟩:=zE.1 (S s a);have:=V.Sr z w;simp only;omega
  refine Ln L m.fY (λb _ d hf=>by have:=hf.2;omega) B.1 B.2 λσ2 e2 aa=>?_;have:=hR σ2 ((e1.sub K).trans (e2.sub λb d=>d.1)) ?_
  .rw[M,h0]at this;exact this
  .rw[eS];exact aa.mono λb _ d=>by
    rcases d with d|d
    .exact .inl d.1
    .exact .inr (kD e1.1 d)
theorem MA (l:List (Nat×Nat))(x:Int):bS (iS l) x=(l.find? λr=>(r.1:Int)==x).map λr=>(r.2:Int):=by
 induction l with
 | nil=>rfl
 | cons r l ih=>
  have:iS (r::l)=((r.1:Int),(r.2:Int))::iS l:=rfl;rw[this,KV,vH,ih];by_cases h:(r.1:Int)=x
  .simp[h]
  .have:((r.1:Int)==x)=false:=by simpa using h
   rw[this,zB h]
theorem TW (l:List (Nat×Nat))(x:Int):cO (iS l) x=iS (l.filter λq=>!((q.1:Int)==x)):=by
 unfold cO iS;rw[xA];rfl
theorem Oy (l:List (Nat×Nat))(x m:Nat):cX (iS l) (x:Int) (m:Int)=iS (cC.mset2 l x m):=by
 unfold cX cC.mset2 iS;have e:(l.map λr=>((r.1:Int),(r.2:Int))).any (λy=>y.1==(x:Int))=l.any λr=>r.1==x:=by
  rw[List.any_map]
  congr 1
  funext r
  exact mg r.1 x
 rw[e];split
 .rw[lQ,lQ];apply kh;intro r _;simp only[Function.comp_def];rw[mg];split<;>rfl
 .simp
theorem dL.tE (h:dL U F Y A T):F Y.rn/\dM U Y.rn .i64 bO (iS A.runs)/\∀(σ':Hp) (rs:List (Nat×Nat)),Ka U σ' Y.rn->dM σ' Y.rn .i64 bO (iS rs)->dL σ' F Y {A with runs:=rs} T:=by
 obtain⟨G,j,⟨g,r⟩,_,a⟩:=h.step .runs;refine⟨j _ g,r,λσ' rs m p=>?_⟩;exact a σ' _ _ T G _ h.lay.sj h.tl SQ (m.ext.sub λb d=>by subst d;exact g) (λb d=>.inl d) ⟨g,p⟩ (Am j λb d=>d)
theorem RC (h:dL U F Y A T)(x:Int)(hf:∀r∈A.runs,r.1<=1000000){R:aN}(hR:∀σ',Ext F U σ'->dL σ' (Grow F U) Y (Kb A x) T->R (VB A x) σ') :
 Xf.c (aW Y.p) x U R:=by
 refine Xf.o ?_;unfold Xf.v;obtain⟨P,K,g⟩:=h.tE;refine HG h (cD rfl (bL (h.hd.rM rfl ⟨_,K,?_⟩)));rw[MA];cases hr:(A.runs.find? λr=>(r.1:Int)==x)with
 | none=>
  have e1:VB A x=8:=by unfold VB qX;rw[hr];rfl
  have e2:Kb A x=A:=by unfold Kb qX;rw[hr]
  have:=hR U (Ext.refl _ _) (by rw[e2];exact h.mono λb _ a=>.inl a);rw[e1]at this;exact cF rfl this
 | some r=>
  have e1:VB A x=0:=by unfold VB qX;rw[hr];rfl
  have e2:Kb A x=UC {A with runs:=A.runs.filter λq=>!((q.1:Int)==x)} r:=by unfold Kb qX;rw[hr]
  have y:=tO hr;have u:(r.1:Int)=x:=by simpa using tY hr
  refine cD rfl (bL (h.hd.rM rfl ⟨_,K,λs C _ H=>?_⟩));have o1:=C _ rfl;have d:dM s Y.rn .i64 bO (cO (iS A.runs) x):=H;rw[TW]at d;have B:=g s _ o1 d;simp only[ze,qL];refine nw (cs:=[.int .i64 x,.int .i64 (r.2:Int)]) λL Q m E=>?_;have G:=B.cut.bP m;have D:cV ⟨some ⟨s.size,0,none⟩,1,1⟩ 2 (rV [r]) L (· = s.size):=by
   refine⟨rfl,.inr ⟨_,0,_,rfl,rfl,E.q,λj S=>?_⟩⟩;have:rV [r]=[.int .i64 (r.1:Int),.int .i64 (r.2:Int)]:=rfl;rw[this,u,zH]
  refine Ln G D (λb _ a M=>by have:=M.2;omega) aA (λq J=>by simp at J;subst J;exact hf _ y) λv3 N w=>?_;have z:Ext F U v3:=(o1.ext.sub λb a=>by subst a;exact P).trans ((aF.to m).trans (N.sub λb a=>a.1));have:=hR v3 z (by
   rw[e2];exact w.mono λb _ a=>by
    rcases a with a|a
    .exact .inl a.1
    .exact .inr (by have:=o1.1;omega))
  rw[e1]at this;exact this
theorem VS (rs:List (Nat×Nat)):∀A:AR,(UK A rs).tb=A.tb/\(UK A rs).room=A.room/\(UK A rs).cR=A.cR/\(UK A rs).cG=A.cG/\(UK A rs).runs=A.runs/\(UK A rs).n=A.n:=by
 induction rs with
 | nil=>intro A;exact⟨rfl,rfl,rfl,rfl,rfl,rfl⟩
 | cons r rs ih=>intro A;exact ih (UC A r)
theorem UM (A:AR)(k:Int)(xs:List Int):(ZY A k xs).tb=A.tb/\(ZY A k xs).room=A.room/\(ZY A k xs).cR=A.cR/\(ZY A k xs).runs=A.runs/\(ZY A k xs).n=A.n:=by
 unfold ZY;split
 .split
  .exact⟨(VS _ _).1,(VS _ _).2.1,(VS _ _).2.2.1,(VS _ _).2.2.2.2.1,(VS _ _).2.2.2.2.2⟩
  .exact⟨rfl,rfl,rfl,rfl,rfl⟩
 .exact⟨rfl,rfl,rfl,rfl,rfl⟩
theorem gQ.oV (t:gQ):∀xs∈t.tick.bs,xs∈t.bs:=λxs h=>ur h
theorem VE {α:Type}{l:List α}{k:Nat}{t:α}{f:α->α}(h:l[k]?=some t):l.modify k f=l.set k (f t):=by
 apply zt;intro i;rw[nU,uN];by_cases hi:k=i
 .subst hi;have:=(cY.1 h).1;rw[zC rfl,zC this,h];simp
 .simp[hi]
def DN (A:AR)(Y:Lay)(k r:Nat)(c:cA)(t:gQ)(out:Sl)(sls:List Sl)(j:Nat):Hp->Rg->Prop:=
 if j=k then λU G=>iV U G r c.batch A.room t.tick/\cV out 1 (sls.map qP) U G/\r5 sls t.out U G else cM A Y j
theorem DN.loc {k r:Nat}{c:cA}{t:gQ}{out:Sl}{sls:List Sl}(j:Nat):dP (DN A Y k r c t out sls j):=by
 unfold DN;split
 .exact λU m F G ⟨d,g,i⟩ a b=>⟨iV.loc _ _ _ _ d a b,cV.loc _ _ _ _ _ _ _ g a b,r5.loc _ _ _ _ _ _ i a b⟩
 .exact cM.loc j
end Go.Ar
namespace Go.Bu
variable {n:Nat}{S:Nat->Bool}
theorem UF {m a k x:Nat}(h:Z4 n S m a k=some x):∃j,j<k/\m<=2^j/\a<=2^j/\(WW n S j).head?=some x/\∀i,i<j->m<=2^i->a<=2^i->WW n S i=[]:=by
 have xL:∀k,Z4 n S m a k=none->∀i,i<k->m<=2^i->a<=2^i->WW n S i=[]:=by
  intro k
  induction k with
  | zero=>intro _ i hi;omega
  | succ k ih=>
   intro hn i hi d b;rw[Z4]at hn;split at hn
   .cases hn
   .rename_i hn';by_cases e:i=k
    .subst e;rw[zC ⟨d,b⟩]at hn;simpa using hn
    .exact ih hn' i O d b
 induction k with
 | zero=>simp[Z4]at h
 | succ k ih=>
  rw[Z4]at h;split at h
  .rename_i y hy;cases h;obtain⟨j,d,b⟩:=ih hy;exact⟨j,O,b⟩
  .rename_i hn;split at h
   .rename_i hc;exact⟨k,O,hc.1,hc.2,h,xL k hn⟩
   .cases h
theorem HB {m a:Nat}:∀{k},Z4 n S m a k=none->∀i,i<k->m<=2^i->a<=2^i->WW n S i=[]
 | 0,_,i,hi,_,_=>by omega
 | k+1,hn,i,hi,h1,h2=>by
  rw[Z4]at hn;split at hn
  .cases hn
  .rename_i hn';by_cases e:i=k
   .subst e;rw[zC ⟨h1,h2⟩]at hn;simpa using hn
   .exact HB hn' i O h1 h2
theorem lj (hb:Bounded S n){m a x:Nat}(h:ZD n S m a=some x):x+m<=n/\∀y,x<=y->y<x+m->S y=true:=by
 obtain⟨j,_,r,_,g,_⟩:=UF h;have b:x∈WW n S j:=List.mem_of_head? g;obtain⟨q,rfl,d⟩:=(Kn hb).1 b;have:=Qc hb (Z1.1 d).1;exact⟨O,λy i p=>Ur d (QI.2 O)⟩
end Go.Bu
namespace Go.Ar
open Go Go.Vc Go.Proofs
open Go.Bu (ZF Kj ZD)
variable {U:Hp}{F H:Rg}{p hs:Nat}{A:AR}{sp:Sp}{Y:Lay}{T:Nat->Hp->Rg->Prop}
structure W2 (U:Hp) (F H:Rg) (Y:Lay) (A:AR) (T:Nat->Hp->Rg->Prop) (sp:Sp):Prop where
 a:dL U F Y A T
 s:dR U H Y.hs sp
 d:∀b,F b->¬H b
 g:Gl U
 o:jh F
 o2:jh H
def iY (F H:Rg):Rg:=λb=>F b\/H b
theorem W2.mh (h:W2 U F H Y A T sp){σ':Hp}{A':AR}(e:Ext F U σ')(ha:dL σ' F Y A' T):W2 σ' F H Y A' T sp:=
 ⟨ha,dP.bT dR.loc h.s e λb _ i a=>h.d b a i,h.d,h.g.bT e h.o,h.o,h.o2⟩
theorem W2.space (h:W2 U F H Y A T sp){σ':Hp}{sp':Sp}(e:Ext H U σ')(hs:dR σ' H Y.hs sp'):W2 σ' F H Y A T sp':=
 ⟨dP.bT dL.loc h.a e λb _ j i=>h.d b j i,hs,h.d,h.g.bT e h.o2,h.o,h.o2⟩
theorem W2.bP (h:W2 U F H Y A T sp){σ':Hp}(e:aF U σ'):W2 σ' F H Y A T sp:=⟨h.a.bP e,h.s.bP e,h.d,h.g.bP e,h.o,h.o2⟩
theorem W2.cut (h:W2 U F H Y A T sp):W2 U (Cut F U) (Cut H U) Y A T sp:=⟨h.a.cut,dP.cut dR.loc h.s,λb i j=>h.d b i.1 j.1,h.g,h.o.sub λb i=>i.1,h.o2.sub λb i=>i.1⟩
theorem W2.pV (h:W2 U F H Y A T sp){σ':Hp}{A':AR}(e:Ext F U σ')(ha:dL σ' (Grow F U) Y A' T):W2 σ' (Grow F U) (Cut H U) Y A' T sp:=
 ⟨ha,dP.bT dR.loc (dP.cut dR.loc h.s) e λb _ a j=>h.d b j a.1,λb a i=>by
  rcases a with a|a
  .exact h.d b a i.1
  .have:=i.2;omega,h.g.bT e h.o,h.o.grow h.g,h.o2.sub λb a=>a.1⟩
theorem W2.IB (h:W2 U F H Y A T sp){K:Option Addr->Prop}(hK:K (some ⟨Y.hs,0,none⟩)):fZ (Addr.add ⟨Y.p,0,none⟩ 1) U K:=h.a.hd.rP rfl hK
theorem Ig (st:List Nat)(a m:Nat):Hm st a (m+1)=ji (Hm st a m) ((a+m:Nat):Int):=by
 unfold Hm;rw[qN,zj,vX];rfl
theorem Rn {a m:Int}(h:fF sp a m≠0):gp sp a m=sp:=by unfold gp;rw[zB h]
theorem PT {size:Nat}(h1:1<=size)(h:∀j,1<=j->j*size+size<=sp.st.length->fF sp ((j*size:Nat):Int) (size:Int)≠0):dB sp size=none:=by
 unfold dB;rw[oD];intro x hx;obtain⟨j,d,rfl⟩:=zE.1 hx;rw[zg]at d;have b:(j+1)*size<=sp.st.length:=kD (mD size d) (A5 _ _);rw[zo,Nat.one_mul]at b;by_cases h0:j=0
 .subst h0;simp
 .have:=h j O b;have a:(fF sp ((j*size:Nat):Int) (size:Int)==0)=false:=by simpa only[mV]using this
  rw[a,uu];simp
theorem S4 {size j:Nat}(h1:1<=size)(h0:1<=j)(hf:j*size+size<=sp.st.length)(hm:fF sp ((j*size:Nat):Int) (size:Int)=0)(h:∀i,1<=i->i<j->fF sp ((i*size:Nat):Int) (size:Int)≠0):dB sp size=some (j*size):=by
 unfold dB;have m:j<sp.st.length/size:=by
  rw[Nat.lt_iff_add_one_le,Nat.le_div_iff_mul_le h1,zo,Nat.one_mul];exact hf
 have a:List.range (sp.st.length/size)=List.range j++(j::(List.range (sp.st.length/size-j-1)).map (j+1 + ·)):=by
  apply zt;intro i;rw[List.getElem?_append,AI];by_cases hi:i<j
  .rw[zC hi,nR O,nR hi]
  .rw[zB hi];by_cases hij:i=j
   .subst hij;rw[pY,yH,nR m]
   .rw[show i-j=(i-j-1)+1 by omega,Aq,zZ];by_cases hl:i<sp.st.length/size
    .rw[nR hl,nR O];simp only[ze]
     congr 1;omega
    .rw[zX (by rw[AI];omega),zX (by rw[AI];omega)];rfl
 rw[a,zj,List.find?_append];have b:((List.range j).map (· * size)).find? (λ(s:Nat)=>s != 0&&fF sp s size==0)=none:=by
  rw[oD];intro x hx;obtain⟨i,hi,rfl⟩:=zE.1 hx;rw[zg]at hi;by_cases h0:i=0
  .subst h0;simp
  .have:=h i O hi;have g:(fF sp ((i*size:Nat):Int) (size:Int)==0)=false:=by simpa only[mV]using this
   rw[g,uu];simp
 rw[b,zR,vH];have:(j*size != 0&&fF sp ((j*size:Nat):Int) (size:Int)==0)=true:=by
  rw[hm];have p:0<j*size:=Nat.mul_pos O O;have d:j*size≠0:=O
  simp[d]
 rw[this];rfl
theorem Oc (h:W2 U F H Y A T sp){size:Nat}(h1:size=16\/size=32\/size=64){R:aO}(h0:Hk A sp size=none->∀σ',Ext (iY F H) U σ'->W2 σ' F H Y A T sp->R false σ')
 (hR:∀A' sp',Hk A sp size=some (A',sp')->∀σ',Ext (iY F H) U σ'->W2 σ' F H Y A' T sp'->R true σ'):Zd.c (aW Y.p) (size:Int) U R:=by
 refine Zd.o ?_;unfold Zd.v;have hn2:sp.st.length<=1024:=by obtain⟨q,r,l,B,hh⟩:=h.s;exact hh.n2
 have Z:∀{a b:Hp},Ext H a b->Ext (iY F H) a b:=λe=>e.sub λb P=>.inr P;have ea:∀{a b:Hp},Ext F a b->Ext (iY F H) a b:=λe=>e.sub λb P=>.inl P;have d:∀j,j*size+size=(j+1)*size:=λj=>by rw[zo,Nat.one_mul]
 refine Qg (a:=bO) (λ(t:Int) v=>∃j:Nat,t=((j*size:Nat):Int)/\1<=j/\j*size<=1024+64/\Ext (iY F H) U v/\W2 v F H Y A T sp/\∀i,1<=i->i<j->i*size+size<=sp.st.length->fF sp ((i*size:Nat):Int) (size:Int)≠0) (λt _=>2000-t.toNat)
  ⟨1,O,zD _,O,Ext.refl _ _,h,λi h1 h2=>O⟩ ?_
 rintro t v ⟨j,rfl,hj,P,e,z,y⟩;refine cT (m:=j*size+size) O O (bL (z.IB (JY z.s (cN (λhlt=>?_) λhge=>?_))))
 .have hf:j*size+size<=sp.st.length:=O
  refine bL (z.IB (Nl z.s z.g z.o2 _ _ λv2 e2 J=>?_));refine cP (λV=>?_) λV=>?_
  .have L:fF sp ((j*size:Nat):Int) (size:Int)≠0:=by simpa using V
   rw[Rn L]at J;refine cT (m:=(j+1)*size) (by rw[←d];omega) (by rw[←d];omega) ⟨⟨j+1,rfl,O,by rw[←d];omega,e.trans (Z e2),z.space e2 J,λi x D E=>?_⟩,by rw[←d];omega⟩;by_cases hij:i=j
   .subst hij;exact L
   .exact y i x O E
  .have W:fF sp ((j*size:Nat):Int) (size:Int)=0:=by simpa using V
   have Q:=z.space e2 J;have M:∀i,i<j->i*size+size<=sp.st.length:=λi hi=>by
    have:(i+1)*size<=j*size:=mD _ hi;rw[d];omega
   have K:=S4 (sp:=sp) O hj hf W λi x D=>y i x D (M i D);have C:Hk A sp size=some ({A with st:=Hm A.st (j*size/16) (size/16),S:=Kj A.n A.S ((j*size:Nat):Int) size},gp sp ((j*size:Nat):Int) size):=by unfold Hk;rw[K]
   have hd16:(j*size)%16=0:=by
    rcases h1 with rfl|rfl|rfl
    .omega
    .omega
    .omega
   refine nz aB (cT (m:=j*size/16) (by rw[YU O];simp) O ?_);refine Qg (a:=bO) (λ(t:Int) w=>∃i:Nat,t=((j*size/16+i:Nat):Int)/\i<=size/16/\Ext (iY F H) U w/\W2 w F H Y {A with st:=Hm A.st (j*size/16) i} T (gp sp ((j*size:Nat):Int) size)) (λt _=>200-t.toNat)
    ⟨0,O,O,e.trans (Z e2),Q⟩ ?_
   rintro t w ⟨i,rfl,hi,ew,u⟩;refine cT (m:=j*size+size) O O (nz aB (cT (m:=(j*size+size)/16) (by rw[YU O];simp) O (cN (λaa=>?_) λhge2=>?_)))
   .refine bL (u.a.hd.rP rfl (u.a.BC _ λw2 t2 N G=>?_));refine cT (m:=j*size/16+(i+1)) O O ⟨⟨i+1,rfl,O,ew.trans (ea N),?_⟩,O⟩;rw[Ig];exact u.mh N G
   .have X:i=size/16:=O
    subst X;refine bL (u.a.hd.rP rfl (u.a.xP _ _ λw2 t2 N G=>?_));exact hR _ _ C w2 (ew.trans (ea N)) (u.mh N G)
 .have K:=PT (sp:=sp) (size:=size) O λi x E=>by
   by_cases hij:i<j
   .exact y i x hij E
   .have:j*size<=i*size:=mD _ O;omega
  have C:Hk A sp size=none:=by unfold Hk;rw[K]
  exact h0 C v e z
theorem Pu {m a:Nat}(h1:1<=m)(h2:m<=64)(ha:a=1\/a=2\/a=4\/a=8\/a=16):Go.Bu.fO (m:Int) (a:Int)=true:=by
 have b:Go.Bu.fB (a:Int)=true:=by rcases ha with rfl|rfl|rfl|rfl|rfl<;>decide
 unfold Go.Bu.fO;rw[b];simp only[vv,zF,zV];omega
theorem W2.take (h:W2 U F H Y A T sp){m a:Nat}(hok:Go.Bu.fO (m:Int) (a:Int)=true){R:Int->Int->Hp->Prop}(h0:ZD A.n A.S m a=none->∀σ',Ext F U σ'->W2 σ' F H Y A T sp->R 0 6 σ')
 (h1:∀x,ZD A.n A.S m a=some x->x+m<=A.n->∀σ',Ext F U σ'->W2 σ' F H Y {A with S:=Go.Bu.take A.S x (x+m)} T sp->R (x:Int) 0 σ'):X1.c (aW Y.fr) (m:Int) (a:Int) U R:=by
 have b:Go.Bu.Bounded A.S A.n:=by obtain⟨r,p,j,_⟩:=h.a.free;exact j.jH
 refine h.a.xH _ _ λσ' e i=>?_;have d:=h.mh e i;cases ht:ZD A.n A.S m a with
 | none=>
  have e1:Go.Bu.jk A.n A.S (m:Int) (a:Int)=6:=by unfold Go.Bu.jk;rw[hok,zC rfl];simp only[dH];rw[ht]
  have e2:Go.Bu.jc A.n A.S (m:Int) (a:Int)=0:=by unfold Go.Bu.jc;rw[hok,zC rfl];simp only[dH];rw[ht]
  have g:Go.Bu.jb A.n A.S (m:Int) (a:Int)=A.S:=by unfold Go.Bu.jb;rw[hok,zC rfl];simp only[dH];rw[ht]
  rw[e1,e2];rw[g]at d;exact h0 ht σ' e d
 | some x=>
  have e1:Go.Bu.jk A.n A.S (m:Int) (a:Int)=0:=by unfold Go.Bu.jk;rw[hok,zC rfl];simp only[dH];rw[ht]
  have e2:Go.Bu.jc A.n A.S (m:Int) (a:Int)=x:=by unfold Go.Bu.jc;rw[hok,zC rfl];simp only[dH];rw[ht]
  have g:Go.Bu.jb A.n A.S (m:Int) (a:Int)=Go.Bu.take A.S x (x+m):=by unfold Go.Bu.jb;rw[hok,zC rfl];simp only[dH];rw[ht]
  rw[e1,e2];rw[g]at d;exact h1 x ht (Go.Bu.lj b ht).1 σ' e d
theorem WlV {size:Nat}{A':AR}{sp':Sp}(h:Hk A sp size=some (A',sp')):A'.n=A.n:=by
 unfold Hk at h;split at h
 .cases h
 .cases h;rfl
def Fits (U:Hp)(F H F' H':Rg):Prop:=(∀b,F' b->Grow F U b)/\∀b,H' b->H b
theorem J7 (h:W2 U F H Y A T sp){m a no:Nat}(h1:1<=m)(h2:m<=64)(ha:a=1\/a=2\/a=4\/a=8\/a=16)(hn1:1<=no)(hn2:no<=1000){R:Int->Int->Hp->Prop}
 (h0:(dC A sp m a no).1=none->∀σ',Ext (iY F H) U σ'->W2 σ' F H Y (dC A sp m a no).2.1 T (dC A sp m a no).2.2->R 0 6 σ')
 (hR:∀x,(dC A sp m a no).1=some x->x+m<=A.n->∀σ' F' H',Fits U F H F' H'->Ext (iY F H) U σ'->W2 σ' F' H' Y (dC A sp m a no).2.1 T (dC A sp m a no).2.2->R (x:Int) 0 σ') :
 Y3.c (aW Y.p) (m:Int) (a:Int) (no:Int) U R:=by
 refine Y3.o ?_;unfold Y3.v;have E:=Pu h1 h2 ha;have es:∀{a b:Hp},Ext H a b->Ext (iY F H) a b:=λe=>e.sub λb j=>.inr j;have r:∀{a b:Hp},Ext F a b->Ext (iY F H) a b:=λe=>e.sub λb j=>.inl j;have fin:∀(v:Hp) (x:Nat) (A1:AR) (sp1:Sp),Ext (iY F H) U v->x+m<=A.n->W2 v F H Y {A1 with S:=Go.Bu.take A1.S x (x+m)} T sp1->dC A sp m a no=(some x,dU A1 x m no,sp1) →
  bW (some ⟨Y.p,0,none⟩) λZ=>fZ (Z.add 3) v λL=>XV.c L (x:Int) (m:Int) v λt55 s=>bW (some ⟨Y.p,0,none⟩) λN=>fZ (N.add 4) s λP=>Yx.c P (x:Int) (m:Int) (no:Int) s λt63 v3=>R (x:Int) 0 v3:=by
  intro v x A1 sp1 e hxm z y;have V:x<=1000000:=by have:=h.a.lay.n2;omega
  refine bL (z.a.hd.rP rfl (z.a.Ro _ _ λs t2 e2 aa=>?_));have g:=z.mh e2 aa;refine bL (g.a.hd.rP rfl (g.a.Set x m V hn1 hn2 λv3 t3 e3 X=>?_));have W:=g.pV e3 X;refine hR x (by rw[y]) hxm v3 (Grow F s) (Cut H s) ⟨λb j=>?_,λb j=>j.1⟩ ((e.trans (r e2)).trans (r e3)) (by rw[y];exact W);rcases j with j|j
  .exact .inl j
  .exact .inr (kD (e.trans (r e2)).1 j)
 refine bL (h.a.hd.rP rfl (h.take E (λG v e z=>?_) λx G C v e z=>?_))
 .refine Jn.intro (cF rfl ?_);have Q:(if(a:Int)>(m:Int)then(a:Int)else(m:Int))=((max m a:Nat):Int):=by
   by_cases hgt:(a:Int)>(m:Int)
   .rw[zC hgt];omega
   .rw[zB hgt];omega
  rw[Q];refine Qg (a:=bO) (λ(t:Int) w=>w=v/\(t=16\/t=32/\16<max m a\/t=64/\32<max m a)) (λt _=>100-t.toNat) ⟨rfl,.inl rfl⟩ ?_;rintro(t:Int) w ⟨rfl,hcase⟩;have ha16:a<=16:=O
  refine cN (λhlt=>?_) λhge=>?_
  .have:t=16\/t=32:=O
   rcases this with rfl|rfl
   .exact ar O O ⟨⟨rfl,O⟩,by decide⟩
   .exact ar O O ⟨⟨rfl,O⟩,by decide⟩
  .have M:t=((KD (max m a):Nat):Int):=by
    unfold KD;by_cases c1:max m a<=16
    .rw[zC c1];omega
    .rw[zB c1];by_cases c2:max m a<=32
     .rw[zC c2];omega
     .rw[zB c2];omega
   subst M;have K:KD (max m a)=16\/KD (max m a)=32\/KD (max m a)=64:=O
   refine Oc z K (λy σ' J u=>?_) λA' D y σ' J u=>?_
   .have d:dC A sp m a no=(none,A,sp):=by unfold dC;rw[G];simp only;rw[y]
    exact cF rfl (h0 (by rw[d]) σ' ((r e).trans J) (by rw[d];exact u))
   .refine cD rfl (bL (u.a.hd.rP rfl (u.take E (λB s e2 g=>?_) λx B C s e2 g=>?_)))
    .have d:dC A sp m a no=(none,A',D):=by unfold dC;rw[G];simp only;rw[y];simp only;rw[B]
     exact cF rfl (h0 (by rw[d]) s (((r e).trans J).trans (r e2)) (by rw[d];exact g))
    .have d:dC A sp m a no=(some x,dU A' x m no,D):=by unfold dC;rw[G];simp only;rw[y];simp only;rw[B]
     exact cD rfl (fin s x A' D (((r e).trans J).trans (r e2)) (by rw[←WlV y];exact C) g d)
 .have d:dC A sp m a no=(some x,dU A x m no,sp):=by unfold dC;rw[G]
  refine Jn.intro (cD rfl (cD rfl (fin v x A sp (r e) C z d)))
theorem Fits.refl:Fits U F H F H:=⟨λb a=>.inl a,λb a=>a⟩
theorem W2.mono {F' H':Rg}(h:W2 U F H Y A T sp)(hF:jh F')(hF2:∀b,b<U.size->F b->F' b)(hH:∀b,H' b->H b)(hH2:∀b,b<U.size->H b->H' b)(hd:∀b,F' b->¬H' b):W2 U F' H' Y A T sp:=
 ⟨h.a.mono hF2,dP.mono dR.loc h.s hH2,hd,h.g,hF,h.o2.sub hH⟩
theorem Ma (h:W2 U F H Y A T sp)(k:Int){R:aN}(hR:∀σ' F' H',Fits U F H F' H'->Ext (iY F H) U σ'->W2 σ' F' H' Y (cQ A sp k).1 T (cQ A sp k).2->R (Vy A sp k) σ') :
 Yr.c (aW Y.p) k U R:=by
 refine Yr.o ?_;unfold Yr.v;refine U1 h.a k (λE=>?_) λx hx K=>?_
 .have e1:Vy A sp k=1:=by unfold Vy;rw[E];rfl
  have e2:cQ A sp k=(A,sp):=by unfold cQ;rw[E];rfl
  have:=hR U F H Fits.refl (Ext.refl _ _) (by rw[e2];exact h);rw[e1]at this;exact cF rfl this
 .subst hx;have E:A.ck (x:Int)=true:=by unfold AR.ck;simp;omega
  obtain⟨c,V,q,t,r,J,z,hq,_,_,L⟩:=h.a.at_ K;have ht2:=h.a.lay.rJ;obtain⟨_,_,_,M,hp4,_⟩:=L;refine cD rfl (bL (h.a.hd.rS rfl (h.a.xT (d:=1) J O ?_)));simp only[zB (show ¬(1=0) by omega),zT];refine cT (m:=x+1) O O ?_;have X:Vy A sp x=match (dC A sp c.aG 1 (x+1)).1 with
   | some y=>oh c V y
   | none=>6:=by unfold Vy;rw[E,zC rfl];simp only[dH];rw[J,z];rfl
  have W:cQ A sp x=match dC A sp c.aG 1 (x+1)with
   | (some y,A',w)=>(if oh c V y=0 then{A' with cG:=A'.cG.set x (ir c V y)}else A',w)
   | (none,A',w)=>(A',w):=by unfold cQ;rw[E,zC rfl];simp only[dH];rw[J,z];rfl
  refine J7 (a:=1) h M O (.inl rfl) O O (λC σ' e u=>?_) λy C hyn σ' F' H' i e u=>?_
  .have:=hR σ' F H Fits.refl e;rw[X,W,C]at this;generalize dC A sp c.aG 1 (x+1)=g at *;obtain⟨g1,g2,g3⟩:=g;simp only at C;subst C;exact cF rfl (this u)
  .have B:(dC A sp c.aG 1 (x+1)).2.1.tb=A.tb/\(dC A sp c.aG 1 (x+1)).2.1.cG=A.cG:=by
    unfold dC;split
    .exact⟨rfl,rfl⟩
    .split
     .exact⟨rfl,rfl⟩
     .rename_i A1 sp1 hga;have:A1.tb=A.tb/\A1.cG=A.cG:=by
       unfold Hk at hga;split at hga
       .cases hga
       .cases hga;exact⟨rfl,rfl⟩
      split
      .exact this
      .exact this
   have s:=λσ' F' H'=>hR σ' F' H';rw[X,W]at s;generalize dC A sp c.aG 1 (x+1)=g at *;obtain⟨g1,A',w⟩:=g;simp only at C u B s;subst C;simp only at s;have hWc:=u;obtain⟨G,N,⟨ps,hC⟩,_,D⟩:=u.a.u6 hq (by rw[B.1];exact J) (by rw[B.2];exact z);have hn2:=h.a.lay.n2;refine cD rfl (bL (u.a.hd.rS rfl (u.a.l6 hq (Sg hC O (λh9 v e2=>?_) λZ v ps' e2 Q=>?_))))
   .have:=s v F' H' i (e.fS e2) (by rw[h9];exact u.bP e2);rw[h9]at this;exact this
   .have S:=D v _ _ (Grow G σ') _ e2 (λb j=>j) Q (GJ N λb j=>j);have P:=u.pV (e2.sub N) S;have:=s v (Grow F' σ') (Cut H' σ') ⟨λb j=>?_,λb j=>i.2 b j.1⟩ (e.dX (e2.sub N) λb j=>?_) (by rw[Z];exact P)
    .rw[Z]at this;exact this
    .rcases j with j|j
     .exact i.1 b j
     .exact .inr (kD e.1 j)
    .rcases i.1 b j with h1|h1
     .exact .inl (.inl h1)
     .exact .inr h1
theorem GB (A:AR)(sp:Sp)(m a no:Nat):(dC A sp m a no).2.1.tb=A.tb/\(dC A sp m a no).2.1.cG=A.cG/\(dC A sp m a no).2.1.cR=A.cR/\(dC A sp m a no).2.1.room=A.room/\(dC A sp m a no).2.1.runs=A.runs/\(dC A sp m a no).2.1.n=A.n:=by
 unfold dC;split
 .exact⟨rfl,rfl,rfl,rfl,rfl,rfl⟩
 .split
  .exact⟨rfl,rfl,rfl,rfl,rfl,rfl⟩
  .rename_i A1 sp1 hga;have:A1.tb=A.tb/\A1.cG=A.cG/\A1.cR=A.cR/\A1.room=A.room/\A1.runs=A.runs/\A1.n=A.n:=by
    unfold Hk at hga;split at hga
    .cases hga
    .cases hga;exact⟨rfl,rfl,rfl,rfl,rfl,rfl⟩
   split
   .exact this
   .exact this
theorem Mb:∀a:Nat,a<17->1<=a->((bits .and .i64 (a:Int) ((a:Int)-1) != 0) = !(a==1||(a==2||(a==4||(a==8||a==16))))):=by decide
theorem ν (h:W2 U F H Y A T sp)(m a:Int){R:Int->Int->Hp->Prop}(hR:∀σ' F' H',Fits U F H F' H'->Ext (iY F H) U σ'->W2 σ' F' H' Y (cC A sp m a).1 T (cC A sp m a).2->R ((QC A sp m a:Nat):Int) (Q3 A sp m a) σ') :
 Xe.c (aW Y.p) m a U R:=by
 refine Xe.o ?_;unfold Xe.v;have J:KR m a=false->R 0 1 U:=λu=>by
  have e1:Q3 A sp m a=1:=by unfold Q3;rw[u];rfl
  have e2:cC A sp m a=(A,sp):=by unfold cC;rw[u];rfl
  have e3:QC A sp m a=0:=by unfold QC;rw[u];rfl
  have:=hR U F H Fits.refl (Ext.refl _ _) (by rw[e2];exact h);rw[e1,e3]at this;exact this
 have d:¬(1<=m/\m<=64/\(a=1\/a=2\/a=4\/a=8\/a=16))->R 0 1 U:=λhn=>J (by
  rw[←rU];intro hp;unfold KR at hp;simp at hp;omega)
 refine HG h.a (cD rfl (bX.intro (cN (λX=>bX.intro (cF rfl (bX.intro (cF rfl (bX.intro (cF rfl (cF rfl (d O)))))))) λX=>?_)));refine bX.intro (cN (λc2=>bX.intro (cF rfl (bX.intro (cF rfl (cF rfl (d O)))))) λc2=>?_);refine bX.intro (cN (λc3=>bX.intro (cF rfl (cF rfl (d O)))) λc3=>?_);refine bX.intro (cN (λc4=>cF rfl (d O)) λc4=>ar O O ?_);obtain⟨y,rfl⟩:=zc (show 0<=m by omega);obtain⟨z,rfl⟩:=zc (show 0<=a by omega);rw[Mb z O O];refine cP (λE=>?_) λE=>?_
 .refine d (λhh=>?_);simp at E;omega
 .have hz:z=1\/z=2\/z=4\/z=8\/z=16:=by
   simp at E;omega
  have u:KR (y:Int) (z:Int)=true:=by
   unfold KR;simp;omega
  have P:Q3 A sp y z=if(dC A sp y z 41).1.isSome then 0 else 6:=by unfold Q3;rw[u,zC rfl];rfl
  have S:QC A sp y z=(dC A sp y z 41).1.getD 0:=by unfold QC;rw[u,zC rfl];rfl
  have N:cC A sp y z=match dC A sp y z 41 with
   | (some x,A',r)=>({A' with runs:=cC.mset2 A'.runs x y},r)
   | (none,A',r)=>(A',r):=by unfold cC;rw[u,zC rfl];rfl
  refine J7 (no:=41) h O O hz O O (λB σ' e w=>?_) λx B W σ' F' H' s e w=>?_
  .have:=hR σ' F H Fits.refl e;rw[P,N,S,B]at this;generalize dC A sp y z 41=g at *;obtain⟨V,g2,g3⟩:=g;simp only at B;subst B;exact cF rfl (this w)
  .have j:=λσ' F' H'=>hR σ' F' H';rw[P,N,S]at j;generalize dC A sp y z 41=g at *;obtain⟨V,A',r⟩:=g;simp only at B w j;subst B;simp only at j;obtain⟨Z,hm,C⟩:=w.a.tE;refine cD rfl (bL (w.a.hd.rM rfl ⟨_,_,rfl,hm,λv Q G=>?_⟩));have D:dM v Y.rn .i64 bO (cX (iS A'.runs) (x:Int) (y:Int)):=G;rw[Oy]at D;have M:=C v _ Q D;have e2:Ext F' σ' v:=Q.ext.sub λb K=>by subst K;exact Z
   have L:=w.mh e2 M;exact j v F' H' s (e.dX e2 λb K=>by
    rcases s.1 b K with h1|h1
    .exact .inl (.inl h1)
    .exact .inr h1) L
end Go.Ar
namespace Go.Proofs
open Go.Vc
set_option maxRecDepth 100000
end Go.Proofs
namespace Go.Ar
open Go Go.Vc Go.Proofs
variable {U:Hp}{Q:Rg}{key:Nat->Nat}
end Go.Ar
namespace Go.Ar
open Go Go.Vc Go.Proofs
variable {U:Hp}{F:Rg}{p q:Nat}{st:List Nat}
end Go.Ar
namespace Go.Ar
open Go Go.Vc Go.Proofs
open Go.Bu (ZF Kj ZD)
variable {U:Hp}{F H:Rg}{p hs:Nat}{A:AR}{sp:Sp}{Y:Lay}{T:Nat->Hp->Rg->Prop}
theorem dL.cR (h:dL U F Y A (cM A Y)){k q:Nat}{c:cA}{t:gQ}(h1:Y.gC[k]?=some q)(h2:A.tb[k]?=some c)(h3:A.cR[k]?=some t):∃G:Rg,(∀b,G b->F b)/\iV U G q c.batch A.room t:=by
 obtain⟨G,a,hi,_⟩:=h.uA h1 h2 h3;exact⟨G,a,hi⟩
def part {α:Type}(f:cA->α->Nat)(tb:List cA)(l:List α)(i:Nat):Nat:=(((tb.zip l).take i).map λx=>f x.1 x.2).sum
end Go.Ar
namespace Go.Ar
open Go Go.Vc Go.Proofs
variable {U:Hp}
theorem LX:∀(xs:List (Int×Int×Int)),wj xs=true↔∀(i:Nat) a b,xs[i]?=some a->xs[i+1]?=some b->a.1<b.1
 | []=>by simp[wj]
 | [x]=>by simp[wj]
 | x::y::l=>by
  have ih:=LX (y::l);show(decide (x.1<y.1)&&wj (y::l))=true↔_;rw[zF,ih,zV];constructor
  .rintro⟨h1,h2⟩ i a b g d;cases i with
   | zero=>simp at g d;subst g;subst d;exact h1
   | succ i=>exact h2 i a b (by simpa using g) (by simpa using d)
  .intro h;exact⟨h 0 x y rfl rfl,λi a b g d=>h (i+1) a b (by simpa using g) (by simpa using d)⟩
theorem QT (xs:List (Int×Int×Int)):QX xs=true↔1<=xs.length/\xs.length<=40/\(∀(i:Nat) t,xs[i]?=some t->U4 t.1 t.2.1 t.2.2=true)/\∀(i:Nat) a b,xs[i]?=some a->xs[i+1]?=some b->a.1<b.1:=by
 unfold QX;simp only[zF,zV,LX,kF];constructor
 .rintro⟨h1,h2,h3,h4⟩;exact⟨h1,h2,λi t d=>h3 t (zG d),h4⟩
 .rintro⟨h1,h2,h3,h4⟩;exact⟨h1,h2,λt d=>by obtain⟨i,hi⟩:=zP d;exact h3 i t hi,h4⟩
theorem A9 {s:Sl}{xs:List (Int×Int×Int)}(ha:iu U s xs){R:aO}(hR:∀σ',aF U σ'->R (QX xs) σ'):ZZ.c s U R:=by
 refine ZZ.o ?_;unfold ZZ.v;have S:∀σ',aF U σ'->¬(1<=xs.length/\xs.length<=40/\(∀(i:Nat) t,xs[i]?=some t->U4 t.1 t.2.1 t.2.2=true)/\∀(i:Nat) a b,xs[i]?=some a->xs[i+1]?=some b->a.1<b.1)->R false σ':=λσ' e hn=>by
  have:=hR σ' e;have hf:QX xs=false:=by rw[←rU,QT];exact hn
  rw[hf]at this;exact this
 have W:=ha.1;refine bX.intro (cN (λc1=>cF rfl (S U (Ext.refl _ _) λh=>O)) λc1=>?_);refine cN (λc2=>S U (Ext.refl _ _) λh=>O) λc2=>?_;refine Qg (a:=bO) (λ(t:Int) v=>∃i:Nat,t=(i:Int)/\i<=xs.length/\aF U v/\(∀(j:Nat) t,j<i->xs[j]?=some t->U4 t.1 t.2.1 t.2.2=true)/\∀(j:Nat) a b,j+1<i->xs[j]?=some a->xs[j+1]?=some b->a.1<b.1) (λt _=>xs.length-t.toNat)
  ⟨0,rfl,O,Ext.refl _ _,λj t h=>O,λj a b h=>O⟩ ?_
 rintro t v ⟨i,rfl,hi,e,Y,X⟩;have N:=Qv ha e;refine cN (λhlt=>?_) λhge=>?_
 .have M:i<xs.length:=O
  have A:xs[i]?=some xs[i]:=cW M;generalize xs[i]=r at A;obtain⟨x,y,z⟩:=r;refine Ax N A ?_;refine nw (cs:=[.int .i64 0,.int .i64 0,.int .i64 0]) λv2 hz2 e2 b2=>b2.s1 aA λv3 o3 b3=>b3.s1 aA λv4 o4 b4=>b4.s1 aA λv5 o5 J=>?_;have e5:aF v v5:=Ext.fresh (Ext.fresh (Ext.fresh e2 o3.ext λi hi=>O) o4.ext λi hi=>O) o5.ext λi hi=>by omega
  refine Jn.intro ⟨(· = v5),rfl,⟨x,λm E=>by rw[E,add_lit,J.cell];rfl,⟨y,λm E=>by rw[E,add_lit,J.cell];rfl,⟨z,λm E=>by rw[E,add_lit,J.cell];rfl,?_⟩⟩⟩⟩;refine Jh x y z λv7 Z=>?_;have w:=(Ext.trans e e5).trans Z;have G:(U4 x y z=false\/∃a,0<i/\xs[i-1]?=some a/\x<=a.1)->R false v7:=λQ=>S v7 w λH=>by
   rcases Q with Q|⟨a,K,hb1,hb2⟩
   .have:=H.2.2.1 i _ A;simp only at this;rw[Q]at this;cases this
   .have:=H.2.2.2 (i-1) a (x,y,z) hb1 (by rw[show i-1+1=i by omega];exact A);simp only at this;omega
  cases hc:U4 x y z
  .exact cF rfl (cF rfl (G (.inl hc)))
  .have next:(∀a,0<i->xs[i-1]?=some a->a.1<x)->Ar .i64 ((i:Int)+1) λg=>(∃i:Nat,g=(i:Int)/\i<=xs.length/\aF U v7/\(∀(j:Nat) t,j<i->xs[j]?=some t->U4 t.1 t.2.1 t.2.2=true)/\∀(j:Nat) a b,j+1<i->xs[j]?=some a->xs[j+1]?=some b->a.1<b.1)/\xs.length-g.toNat<xs.length-(i:Int).toNat:=by
    intro K;refine cT (m:=i+1) O O ⟨⟨i+1,rfl,O,w,λj t hj B=>?_,λj a b hj p d=>?_⟩,O⟩
    .by_cases hji:j=i
     .subst hji;rw[A]at B;cases B;exact hc
     .exact Y j t O B
    .by_cases hji:j+1=i
     .subst hji;rw[A]at d;cases d;exact K a O p
     .exact X j a b O p d
   refine cD rfl (cN (λK=>?_) λK=>cD rfl (next λa ko=>O))
   have u:xs[i-1]?=some (xs[i-1]' O):=cW _;generalize xs[i-1]' O=r at u;obtain⟨L,y',z'⟩:=r;have F:=Qv ha w;obtain⟨b,o,g1,g2,g3,g4,g5⟩:=F.2 (i-1) L y' z' u;have V:=Z.bV J id;refine cT (m:=i-1) O O ?_;rw[g1];refine ix O O ?_;have D:cell v7 ⟨b,o+(((i-1:Nat):Int)).toNat*3+0,none⟩=some (.int .i64 L):=by simpa using g3
   have fin:If (decide (x<=L)) (R false v7) (Ar .i64 ((i:Int)+1) λg=>(∃i:Nat,g=(i:Int)/\i<=xs.length/\aF U v7/\(∀(j:Nat) t,j<i->xs[j]?=some t->U4 t.1 t.2.1 t.2.2=true)/\∀(j:Nat) a b,j+1<i->xs[j]?=some a->xs[j+1]?=some b->a.1<b.1)/\xs.length-g.toNat<xs.length-(i:Int).toNat):=by
    refine cN (λP=>G (.inr ⟨_,O,u,P⟩)) λhgt=>next λa _ C=>?_
    rw[u]at C;cases C;simp only;omega
   rw[add_lit b o];exact⟨V.rI rfl (eA D fin),eA D (V.rI rfl fin)⟩
 .have:i=xs.length:=O
  subst this;have H:QX xs=true:=(QT xs).2 ⟨O,O,λi t B=>Y i t (cY.1 B).1 B,λi a b p d=>X i a b (cY.1 d).1 p d⟩;have:=hR v e;rw[H]at this;exact this
end Go.Ar
namespace Go.Ar
open Go Go.Vc Go.Proofs
open Go.Bu (ZF Kj ZD)
variable {U:Hp}{F H:Rg}{p hs:Nat}{A:AR}{sp:Sp}{Y:Lay}{T:Nat->Hp->Rg->Prop}
open Classical in
theorem _root_.Go.Vc.Sep.put {L:Type}{C C':L->Hp->Rg->Prop}{U:Hp}{F G:Rg}(hC:∀i,dP (C i))(h:Sep C U F)(i:L)(hd:∀b,G b->¬F b)(hj:∀j,j≠i->C' j=C j)(hi:C' i U G)(hL:dP (C' i)):Sep C' U λb=>F b\/G b:=by
 obtain⟨ρ,h⟩:=h;refine⟨λb=>if G b then i else ρ b,λj=>?_⟩
 by_cases hji:j=i
 .subst hji;exact hL.mono hi λb _ d=>⟨.inr d,zC d⟩
 .rw[hj j hji];refine(hC j).mono (h j) λb _ a=>⟨.inl a.1,?_⟩;show(if G b then i else ρ b)=j
  rw[zB λg=>hd b g a.1];exact a.2
def gI (A:AR)(Y:Lay)(T:Nat->Hp->Rg->Prop)(cs:List Value):Lb->Hp->Rg->Prop
 | .hd=>iB Y.p cs
 | i=>AC A Y T i
theorem gI.loc {cs:List Value}(hT:∀k,dP (T k)):∀i,dP (gI A Y T cs i)
 | .hd=>iB.loc _ _
 | .dI=>AC.loc (A:=A) (Y:=Y) hT .dI
 | .free=>AC.loc (A:=A) (Y:=Y) hT .free
 | .om=>AC.loc (A:=A) (Y:=Y) hT .om
 | .own=>AC.loc (A:=A) (Y:=Y) hT .own
 | .dW=>AC.loc (A:=A) (Y:=Y) hT .dW
 | .cS=>AC.loc (A:=A) (Y:=Y) hT .cS
 | .runs=>AC.loc (A:=A) (Y:=Y) hT .runs
 | .cG k=>AC.loc (A:=A) (Y:=Y) hT (.cG k)
 | .cR k=>AC.loc (A:=A) (Y:=Y) hT (.cR k)
theorem MK:gI A Y T (k8 Y)=AC A Y T:=by
 funext i;cases i<;>rfl
theorem IE {cs:List Value}(hT:∀k,dP (T k))(h:Sep (gI A Y T cs) U F)(hlen:A.cG.length<=Y.fN.length)(hl:Y.fN.length<=40){vb cp ty:Nat}(hb:bY U vb [.pointer (some ⟨cp,0,none⟩)])(hvb:¬F vb){K:Sl->Hp->Prop}
 (hK:∀s' σ',Ext F U σ'->Sep (gI A {Y with dW:=s',fN:=Y.fN++[cp]} T cs) σ' (Grow F U)->K s' σ'):App Y.dW 1 8 ty [.pointer none] ⟨some ⟨vb,0,none⟩,1,1⟩ U K:=by
 obtain⟨G,d,hi,_,a⟩:=h.ka (gI.loc hT) .dW;have hi:bU Y.dW 1 (fR Y.fN) U G:=hi;have g:Y.dW.len=Y.fN.length:=by have:=hi.1;simp[fR]at this;omega
 refine hi.app (ys:=[.pointer (some ⟨cp,0,none⟩)]) rfl rfl ?_ (by simp[dY]) aC aC nc λs' σ' p e m=>hK s' σ' (e.sub d) ?_
 .intro j u hu;rw[add_lit,zH,hb.cell];exact hu
 refine(Sep.loc (gI.loc hT)).mono (a σ' (gI A {Y with dW:=s',fN:=Y.fN++[cp]} T cs) (Grow G U) (λj i=>?_) e (λb hb=>hb) ?_ (gI.loc hT _)) λb _ hb=>GJ d (λb hb=>hb) b hb
 .cases j<;>first|rfl|exact absurd rfl i|skip
  rename_i k;show j4 (Y.fN++[cp])[k]? A.tb[k]? A.cG[k]?=j4 Y.fN[k]? A.tb[k]? A.cG[k]?;rcases kv k Y.fN.length with h1|h1
  .rw[zd h1]
  .have:A.cG[k]?=none:=zX O;rw[this]
   funext U F
   unfold j4;cases(Y.fN++[cp])[k]?<;>cases Y.fN[k]?<;>cases A.tb[k]?<;>rfl
 .show bU s' 1 (fR (Y.fN++[cp])) σ' (Grow G U);have:fR (Y.fN++[cp])=fR Y.fN++[.pointer (some ⟨cp,0,none⟩)]:=by simp[fR]
  rw[this];exact m
theorem WhP (hlen:A.cR.length<=Y.gC.length)(tp:Nat)(s':Sl):cM A {Y with cS:=s',gC:=Y.gC++[tp]}=cM A Y:=by
 funext k
 unfold cM;simp only;rcases kv k Y.gC.length with h1|h1
 .rw[zd h1]
 .have:A.cR[k]?=none:=zX O;rw[this]
  funext U F
  unfold ld;cases(Y.gC++[tp])[k]?<;>cases Y.gC[k]?<;>cases A.tb[k]?<;>rfl
theorem Lc {cs:List Value}(h:Sep (gI A Y (cM A Y) cs) U F)(hlen:A.cR.length<=Y.gC.length)(hl:Y.gC.length<=40){vb tp ty:Nat}(hb:bY U vb [.pointer (some ⟨tp,0,none⟩)])(hvb:¬F vb){K:Sl->Hp->Prop}
 (hK:∀s' σ',Ext F U σ'->Sep (gI A {Y with cS:=s',gC:=Y.gC++[tp]} (cM A {Y with cS:=s',gC:=Y.gC++[tp]}) cs) σ' (Grow F U)->K s' σ'):App Y.cS 1 8 ty [.pointer none] ⟨some ⟨vb,0,none⟩,1,1⟩ U K:=by
 have d:∀k,dP (cM A Y k):=λk=>cM.loc k;obtain⟨G,g,hi,_,a⟩:=h.ka (gI.loc d) .cS;have hi:bU Y.cS 1 (fR Y.gC) U G:=hi;have i:Y.cS.len=Y.gC.length:=by have:=hi.1;simp[fR]at this;omega
 refine hi.app (ys:=[.pointer (some ⟨tp,0,none⟩)]) rfl rfl ?_ (by simp[dY]) aC aC nc λs' σ' p e r=>hK s' σ' (e.sub g) ?_
 .intro j u hu;rw[add_lit,zH,hb.cell];exact hu
 rw[WhP hlen];refine(Sep.loc (gI.loc d)).mono (a σ' (gI A {Y with cS:=s',gC:=Y.gC++[tp]} (cM A Y) cs) (Grow G U) (λj m=>?_) e (λb hb=>hb) ?_ (gI.loc d _)) λb _ hb=>GJ g (λb hb=>hb) b hb
 .cases j<;>first|rfl|exact absurd rfl m
 .show bU s' 1 (fR (Y.gC++[tp])) σ' (Grow G U);have:fR (Y.gC++[tp])=fR Y.gC++[.pointer (some ⟨tp,0,none⟩)]:=by simp[fR]
  rw[this];exact r
theorem FT {cs:List Value}(hT:∀k,dP (T k))(h:Sep (gI A Y T cs) U F){i:Nat}{v:Value}(hi:i<cs.length){K:aP}(hK:∀σ',Ext F U σ'->Sep (gI A Y T (cs.set i v)) σ' F->K σ'):dG (Addr.add ⟨Y.p,0,none⟩ i) v U K:=by
 obtain⟨G,m,d,_,g⟩:=h.ka (gI.loc hT) .hd;have d:iB Y.p cs U G:=d;refine d.2.s1 O λσ' o b=>hK σ' (o.ext.sub λb a=>by subst a;exact m _ d.1) ?_;rw[zH]at b;refine(Sep.loc (gI.loc hT)).mono (g σ' (gI A Y T (cs.set i v)) G (λj r=>?_) (o.ext.sub λb a=>by subst a;exact d.1) (λb a=>.inl a) ⟨d.1,b⟩ (gI.loc hT _)) λb _ a=>Am m (λb a=>a) b a;cases j<;>first|rfl|exact absurd rfl r
theorem mR {cs:List Value}(h:Sep (gI A Y T cs) U F):bY U Y.p cs/\F Y.p:=by
 obtain⟨G,a,d,b⟩:=h.get .hd;exact⟨b,a _ d⟩
theorem Wnj {cs:List Value}{i cp tp:Nat}{c:cA}{ss:List cH}{t:gQ}{ps:List (Nat×Nat)}{Gc Gt:Rg}(h:Sep (gI A Y (cM A Y) cs) U F)(hlc:A.cG.length=i)(hlt:A.cR.length=i)(hcp:Y.fN[i]?=some cp)(htp:Y.gC[i]?=some tp)(hc:A.tb[i]?=some c)
 (hC:fJ U Gc cp c ps ss) (hTf:iV U Gt tp c.batch A.room t) (d1:∀b,Gc b->¬F b) (d2:∀b,Gt b->¬F b) (d3:∀b,Gc b->¬Gt b) :
 Sep (gI {A with cG:=A.cG++[ss],cR:=A.cR++[t]} Y (cM {A with cG:=A.cG++[ss],cR:=A.cR++[t]} Y) cs) U λb=>(F b\/Gc b)\/Gt b:=by
 have p:∀k,dP (cM A Y k):=λk=>cM.loc k;have u:Sep (gI {A with cG:=A.cG++[ss]} Y (cM A Y) cs) U λb=>F b\/Gc b:=by
  refine h.put (gI.loc p) (.cG i) d1 (λj d=>?_) ?_ (gI.loc p _)
  .cases j<;>first|rfl|skip
   rename_i k;have m:k≠i:=λe=>d (by rw[e]);show j4 Y.fN[k]? A.tb[k]? (A.cG++[ss])[k]?=j4 Y.fN[k]? A.tb[k]? A.cG[k]?;rcases kv k i with h2|h2
   .rw[zd O]
   .have g:(A.cG++[ss])[k]?=none:=zX (by rw[zM,sC];omega);have r:A.cG[k]?=none:=zX O;rw[g,r]
  .show j4 Y.fN[i]? A.tb[i]? (A.cG++[ss])[i]? U Gc;rw[hcp,hc,zp O,hlc,pY];exact⟨ps,hC⟩
 refine u.put (gI.loc p) (.cR i) (λb s a=>?_) (λj d=>?_) ?_ (gI.loc (λk=>cM.loc k) _)
 .rcases a with a|a
  .exact d2 b s a
  .exact d3 b a s
 .cases j<;>first|rfl|skip
  rename_i k;have m:k≠i:=λe=>d (by rw[e]);show ld Y.gC[k]? A.tb[k]? A.room (A.cR++[t])[k]?=ld Y.gC[k]? A.tb[k]? A.room A.cR[k]?;rcases kv k i with h2|h2
  .rw[zd O]
  .have g:(A.cR++[t])[k]?=none:=zX (by rw[zM,sC];omega);have r:A.cR[k]?=none:=zX O;rw[g,r]
 .show ld Y.gC[i]? A.tb[i]? A.room (A.cR++[t])[i]? U Gt;rw[htp,hc,zp O,hlt,pY];exact hTf
open Classical in
noncomputable def jG {L:Type}(C:L->Hp->Rg->Prop)(S:L->Prop)(i:L):Hp->Rg->Prop:=if S i then C i else yO
theorem jG.loc {L:Type}{C:L->Hp->Rg->Prop}{S:L->Prop}(hC:∀i,dP (C i))(i:L):dP (jG C S i):=by
 unfold jG;split
 .exact hC i
 .exact yO.loc
theorem jG.put {L:Type}{C:L->Hp->Rg->Prop}{S:L->Prop}{F G:Rg}(hC:∀i,dP (C i))(h:Sep (jG C S) U F)(i:L)(hd:∀b,G b->¬F b)(hi:C i U G):Sep (jG C λj=>S j\/j=i) U λb=>F b\/G b:=by
 refine h.put (jG.loc hC) i hd (λj a=>?_) ?_ (jG.loc hC i)
 .unfold jG;by_cases hS:S j
  .rw[zC (.inl hS),zC hS]
  .rw[zB (λh=>hS (h.resolve_right a)),zB hS]
 .unfold jG;rw[zC (.inr rfl)];exact hi
theorem jG.all {L:Type}{C:L->Hp->Rg->Prop}{S:L->Prop}{F:Rg}(h:Sep (jG C S) U F)(hS:∀i,S i):Sep C U F:=by
 have:jG C S=C:=by
  funext i;unfold jG;rw[zC (hS i)]
 rw[this]at h;exact h
theorem jG.one {L:Type}{C:L->Hp->Rg->Prop}(S:L->Prop)(l:L)(h:∀i,S i->C i U λ_=>False):Sep (jG C S) U λ_=>False:=by
 refine⟨λ_=>l,λi=>?_⟩;have:(λ(b:Nat)=>False/\l=i)=λ_=>False:=by funext b;simp
 rw[this];unfold jG;by_cases hS:S i
 .rw[zC hS];exact h i hS
 .rw[zB hS];trivial
theorem OZ {tb:List cA}:∀v∈gK tb,dY v=true:=by
 intro v hv;simp only[gK,List.mem_flatMap]at hv;obtain⟨c,_,a⟩:=hv;simp at a;rcases a with rfl|rfl|rfl<;>rfl
theorem Gj {s:Sl}{xs:List (Int×Int×Int)}(ha:iu U s xs)(hv:QX xs=true){i:Nat}{c:cA}(hc:(xs.map QG)[i]?=some c):xs[i]?=some ((c.size:Int),(c.aG:Int),(c.batch:Int))/\c.ok:=by
 rw[zZ,oy]at hc;obtain⟨⟨x,y,z⟩,j,rfl⟩:=hc;obtain⟨c,a,m,g,d,b⟩:=Bf (((QT xs).1 hv).2.2.1 i _ j);simp only at g d b;rw[m,j,g,d,b];exact⟨rfl,a⟩
theorem Uo {s:Sl}{xs:List (Int×Int×Int)}(ha:iu U s xs)(hv:QX xs=true){R:Sl->Hp->Prop}(hR:∀s' σ',aF U σ'->cV s' 3 (gK (xs.map QG)) σ' (λb=>U.size<=b)->R s' σ'):Wo.c s U R:=by
 refine Wo.o ?_;unfold Wo.v;have F:=(QT xs).1 hv;have z:=ha.1;have w:0<(xs.map QG).length:=by rw[zk];omega
 have D:(xs.map QG)[0]?=some (xs.map QG)[0]:=cW w;obtain⟨L,d,a,_⟩:=ha.2 0 _ _ _ (Gj ha hv D).1;refine cD (by rw[a];rfl) (nw (cs:=[]) λv K e1 H=>?_);have x:=Qv ha e1;refine(bU.nil v (λb=>U.size<=b) 3 (some ⟨U.size,0,none⟩)).app (ys:=gK (xs.map QG)) rfl (by rw[Uv,zk];omega) ?_ OZ aC aC O λs' C A G g=>hR s' C (Ext.fresh e1 G λi hi=>hi) ?_
 .rw[a];intro j u hu;have r:=(cY.1 hu).1;rw[Uv,zk]at r;have hi:j/3<(xs.map QG).length:=by rw[zk];omega
  have p:(xs.map QG)[j/3]?=some (xs.map QG)[j/3]:=cW hi;generalize (xs.map QG)[j/3]=c at p;have m:=Ap p;obtain⟨b,o,y,_,E,B,J⟩:=x.2 (j/3) _ _ _ (Gj ha hv p).1;rw[a]at y;cases y;rw[add_lit];rcases(by omega:j=3*(j/3)\/j=3*(j/3)+1\/j=3*(j/3)+2)with hj|hj|hj
  .rw[hj]at hu;rw[m.1]at hu;cases hu;rw[show d+j=d+j/3*3 by omega];exact E
  .rw[hj]at hu;rw[m.2.1]at hu;cases hu;rw[show d+j=d+j/3*3+1 by omega];exact B
  .rw[hj]at hu;rw[m.2.2]at hu;cases hu;rw[show d+j=d+j/3*3+2 by omega];exact J
 .rw[tg]at g;refine aH.mono g.fY λb _ m=>?_;rcases m with h|h
  .exact h
  .omega
def fH (n room:Nat)(tb:List cA):AR:={n:=n,room:=room,tb:=tb,S:=Go.Bu.iz,st:=List.replicate n 0,ow:=λ_=>0,cG:=List.replicate tb.length [],cR:=List.replicate tb.length ⟨0,[]⟩,runs:=[]}
def jo (n room:Nat)(tb:List cA)(i:Nat):AR:={fH n room tb with cG:=List.replicate i [],cR:=List.replicate i ⟨0,[]⟩}
def lr (xs:List (Int×Int×Int))(n:Nat)(room:Int):Int:=if QX xs then(if 32<=n/\n%16=0/\0<=room/\room<=8 then 0 else 1)else 2
def S0:Lb->Prop
 | .dW | .cS | .cG _ | .cR _=>True
 | _=>False
theorem E9 {i cp tp:Nat}{c:cA}{ss:List cH}{t:gQ}{ps:List (Nat×Nat)}{Gc Gt:Rg}{dW cS:Sl}(hpos:Y.fN.length=i/\Y.gC.length=i)
 (h:Sep (gI A {Y with dW:=dW,cS:=cS,fN:=Y.fN++[cp],gC:=Y.gC++[tp]} (cM A {Y with dW:=dW,cS:=cS,fN:=Y.fN++[cp],gC:=Y.gC++[tp]}) (k8 Y)) U F)
 (hlc:A.cG.length=i) (hlt:A.cR.length=i) (hc:A.tb[i]?=some c) (hC:fJ U Gc cp c ps ss) (hTf:iV U Gt tp c.batch A.room t) (d1:∀b,Gc b->¬F b) (d2:∀b,Gt b->¬F b) (d3:∀b,Gc b->¬Gt b) {K:aP}
 (hK:∀σ' Y',Ext F U σ'->Y'.p=Y.p->Y'.hs=Y.hs->Y'.fN.length=i+1->Y'.gC.length=i+1->Sep (gI {A with cG:=A.cG++[ss],cR:=A.cR++[t]} Y' (cM {A with cG:=A.cG++[ss],cR:=A.cR++[t]} Y') (k8 Y')) σ' (λb=>(F b\/Gc b)\/Gt b)->K σ') :
 bW (some ⟨Y.p,0,none⟩) λa93=>dG (a93.add 5) (.slice dW.a dW.len dW.cap) U λv25=>bW (some ⟨Y.p,0,none⟩) λa95=>dG (a95.add 6) (.slice cS.a cS.len cS.cap) v25 K:=by
 have r:∀k,dP (cM A {Y with dW:=dW,cS:=cS,fN:=Y.fN++[cp],gC:=Y.gC++[tp]} k):=λk=>cM.loc k;refine bL (FT (Y:={Y with dW:=dW,cS:=cS,fN:=Y.fN++[cp],gC:=Y.gC++[tp]}) r h (i:=5) (by simp[k8]) λy e1 s=>bL (FT (Y:={Y with dW:=dW,cS:=cS,fN:=Y.fN++[cp],gC:=Y.gC++[tp]}) r s (i:=6) (by simp[k8]) λw e2 u=>?_));have m:=(fJ.loc (c:=c) (ps:=ps) (ss:=ss) (p:=cp)).bT ((fJ.loc (c:=c) (ps:=ps) (ss:=ss) (p:=cp)).bT hC e1 λb _ d g=>d1 b d g) e2 λb _ d g=>d1 b d g;have j:=(iV.loc (p:=tp) (batch:=c.batch) (room:=A.room) (t:=t)).bT ((iV.loc (p:=tp) (batch:=c.batch) (room:=A.room) (t:=t)).bT hTf e1 λb _ d g=>d2 b d g) e2 λb _ d g=>d2 b d g;have x:=Wnj (cp:=cp) (tp:=tp) u hlc hlt (by simp only;rw[zp O,hpos.1,pY];rfl) (by simp only;rw[zp O,hpos.2,pY];rfl) hc m j d1 d2 d3;exact hK w {Y with dW:=dW,cS:=cS,fN:=Y.fN++[cp],gC:=Y.gC++[tp]} (e1.trans e2) rfl rfl (by simp[hpos.1]) (by simp[hpos.2]) x
theorem rQ {cs:List Value}{σ':Hp}(hT:∀k,dP (T k))(h:Sep (gI A Y T cs) U F)(e:aF U σ'):Sep (gI A Y T cs) σ' F:=(Sep.loc (gI.loc hT)).bP h e
theorem LD {cs:List Value}(hT:∀k,dP (T k))(h:Sep (gI A Y T cs) U F):Sep (gI A Y T cs) U (Cut F U):=(Sep.loc (gI.loc hT)).cut h
theorem PR (n room:Nat)(tb:List cA)(i:Nat):({jo n room tb i with cG:=(jo n room tb i).cG++[[]],cR:=(jo n room tb i).cR++[⟨0,[]⟩]}:AR)=jo n room tb (i+1):=by
 unfold jo;simp only[←BV]
theorem SG (n room:Nat)(tb:List cA):jo n room tb tb.length=fH n room tb:=rfl
theorem Me {i cp tp:Nat}{c:cA}{ss:List cH}{t:gQ}{ps:List (Nat×Nat)}{Gc Gt:Rg}{z:Nat}(hF:∀b,F b->z<=b/\b<U.size)(hpos:Y.fN.length=i/\Y.gC.length=i)(hi:i<40)
 (h:Sep (gI A Y (cM A Y) (k8 Y)) U F) (hlc:A.cG.length=i) (hlt:A.cR.length=i) (hc:A.tb[i]?=some c) (hC:fJ U Gc cp c ps ss) (hTf:iV U Gt tp c.batch A.room t) (d1:∀b,Gc b->¬F b/\z<=b/\b<U.size) (d2:∀b,Gt b->¬F b/\z<=b/\b<U.size) (d3:∀b,Gc b->¬Gt b) {J4:aP}
 (hK:∀σ' Y',Ext F U σ'->Y'.p=Y.p->Y'.hs=Y.hs->Y'.fN.length=i+1->Y'.gC.length=i+1->Sep (gI {A with cG:=A.cG++[ss],cR:=A.cR++[t]} Y' (cM {A with cG:=A.cG++[ss],cR:=A.cR++[t]} Y') (k8 Y')) σ' (λb=>z<=b)->J4 σ') :
 dT U λS=>bW (some ⟨Y.p,0,none⟩) λa80=>gF S .s (a80.add 5) λ(t82:Sl)=>bW (some ⟨Y.p,0,none⟩) λa87=>gF S .s (a87.add 6) λ(t89:Sl)=>
  (Nw (.cells #[.pointer (some ⟨cp,0,none⟩)] 202 (0,0)) U λn84 v21=>And (S v21) <|
   (App t82 1 8 202 [.pointer none] ⟨some n84,1,1⟩ v21 λt85 v22=>And (S v22)<|Nw (.cells #[.pointer (some ⟨tp,0,none⟩)] 204 (0,0)) v22 λn91 v23=>And (S v23)<|App t89 1 8 204 [.pointer none] ⟨some n91,1,1⟩ v23 λt92 v24=>And (S v24) <|
   bW (some ⟨Y.p,0,none⟩) λa93=>dG (a93.add 5) (.slice t85.a t85.len t85.cap) v24 λv25=>bW (some ⟨Y.p,0,none⟩) λa95=>dG (a95.add 6) (.slice t92.a t92.len t92.cap) v25 λv26=>J4 v26) ∧
   (Nw (.cells #[.pointer (some ⟨tp,0,none⟩)] 204 (0,0)) v21 λn911 v27=>And (S v27)<|App t82 1 8 202 [.pointer none] ⟨some n84,1,1⟩ v27 λt851 v28=>And (S v28)<|App t89 1 8 204 [.pointer none] ⟨some n911,1,1⟩ v28 λt921 v29=>And (S v29) <|
   bW (some ⟨Y.p,0,none⟩) λa931=>dG (a931.add 5) (.slice t851.a t851.len t851.cap) v29 λv30=>bW (some ⟨Y.p,0,none⟩) λa951=>dG (a951.add 6) (.slice t921.a t921.len t921.cap) v30 λv31=>J4 v31)) ∧
  (Nw (.cells #[.pointer (some ⟨tp,0,none⟩)] 204 (0,0)) U λn912 v32=>And (S v32)<|Nw (.cells #[.pointer (some ⟨cp,0,none⟩)] 202 (0,0)) v32 λn841 v33=>And (S v33) <|
  App t82 1 8 202 [.pointer none] ⟨some n841,1,1⟩ v33 λt852 v34=>And (S v34)<|App t89 1 8 204 [.pointer none] ⟨some n912,1,1⟩ v34 λt922 v35=>And (S v35) <|
  bW (some ⟨Y.p,0,none⟩) λa932=>dG (a932.add 5) (.slice t852.a t852.len t852.cap) v35 λv36=>bW (some ⟨Y.p,0,none⟩) λa952=>dG (a952.add 6) (.slice t922.a t922.len t922.cap) v36 λv37=>J4 v37):=by
 have G:∀k,dP (cM A Y k):=λk=>cM.loc k;have ad:=fJ.loc (c:=c) (ps:=ps) (ss:=ss) (p:=cp);have Z:=iV.loc (p:=tp) (batch:=c.batch) (room:=A.room) (t:=t);refine⟨λm=>bY m Y.p (k8 Y),(mR h).1,bL ⟨Y.dW,λm hm=>by rw[add_lit,hm.cell];rfl,bL ⟨Y.cS,λm hm=>by rw[add_lit,hm.cell];rfl,?_⟩⟩⟩;have D:∀(w:Hp) (F1:Rg) (b1 b2:Nat),aF U w->(∀b,F1 b->F b)->Sep (gI A Y (cM A Y) (k8 Y)) w F1->bY w b1 [.pointer (some ⟨cp,0,none⟩)]->bY w b2 [.pointer (some ⟨tp,0,none⟩)]->U.size<=b1->U.size<=b2 →
  App Y.dW 1 8 202 [.pointer none] ⟨some ⟨b1,0,none⟩,1,1⟩ w λt85 v28=>And (bY v28 Y.p (k8 Y))<|App Y.cS 1 8 204 [.pointer none] ⟨some ⟨b2,0,none⟩,1,1⟩ v28 λt92 v29=>And (bY v29 Y.p (k8 Y)) <|
   bW (some ⟨Y.p,0,none⟩) λa93=>dG (a93.add 5) (.slice t85.a t85.len t85.cap) v29 λv30=>bW (some ⟨Y.p,0,none⟩) λa95=>dG (a95.add 6) (.slice t92.a t92.len t92.cap) v30 λv31=>J4 v31:=by
  intro w F1 b1 b2 ew hF1 hw hb1 hb2 hz1 hz2;have x:∀b,F1 b->z<=b/\b<U.size:=λb d=>hF b (hF1 b d);have hsw:=ew.1;refine IE G hw O O hb1 (λg=>by have:=x _ g;omega) λs1 v28 J V=>?_;have R:=(mR V).1;have N:Sep (gI A {Y with dW:=s1,fN:=Y.fN++[cp]} (cM A {Y with dW:=s1,fN:=Y.fN++[cp]}) (k8 Y)) v28 (Grow F1 w):=V;refine⟨R,?_⟩;have c28:Sep (gI A {Y with dW:=s1,fN:=Y.fN++[cp]} (cM A {Y with dW:=s1,fN:=Y.fN++[cp]}) (k8 Y)) v28 (λb=>F1 b\/w.size<=b):=N;have X:=J.bV hb2 λg=>by have:=x _ g;omega
  have hb2lt:=hb2.lt;refine Lc c28 aC aC X (λg=>by
   rcases g with g|g
   .have:=x _ g;omega
   .omega) λs2 v29 ah W=>?_
  refine⟨(mR W).1,?_⟩;have E:∀b,(F1 b\/w.size<=b)->F b\/U.size<=b:=λb d=>by
   rcases d with d|d
   .exact .inl (hF1 b d)
   .exact .inr O
  have j:Ext F U v29:=((aF.to ew).trans (J.sub hF1)).dX ah E;have aa:=ad.bT hC j λb _ d g=>(d1 b d).1 g;have ab:=Z.bT hTf j λb _ d g=>(d2 b d).1 g;have hs28:=J.1;refine E9 (F:=Grow (λb=>F1 b\/w.size<=b) v28) hpos W hlc hlt hc aa ab (λb d g=>?_) (λb d g=>?_) d3 λw2 Y' e2 p1 p2 p3 p4 h2=>?_
  .have:=d1 b d;rcases g with(g|g)|g
   .exact this.1 (hF1 b g)
   .omega
   .omega
  .have:=d2 b d;rcases g with(g|g)|g
   .exact this.1 (hF1 b g)
   .omega
   .omega
  .refine hK w2 Y' (j.dX e2 λb d=>?_) p1 p2 p3 p4 ((Sep.loc (gI.loc (λk=>cM.loc k))).mono h2 λb _ d=>?_)
   .rcases d with(d|d)|d
    .exact .inl (hF1 b d)
    .exact .inr O
    .exact .inr O
   .have hz0:z<=U.size:=by have:=(d1 _ hC.fp);omega
    rcases d with(((d|d)|d)|d)|d
    .exact(x b d).1
    .omega
    .omega
    .exact(d1 b d).2.1
    .exact(d2 b d).2.1
 have S0:∀{w:Hp},aF U w->bY w Y.p (k8 Y):=λe=>e.bV (mR h).1 id;refine⟨nw (cs:=[.pointer (some ⟨cp,0,none⟩)]) λv21 z21 u Q=>⟨S0 u,?_,?_⟩,nw (cs:=[.pointer (some ⟨tp,0,none⟩)]) λv32 z32 y b32=>⟨S0 y,nw (cs:=[.pointer (some ⟨cp,0,none⟩)]) λv33 z33 C b33=>⟨S0 (Ext.trans y C),?_⟩⟩⟩
 .-- row,box,row
  have h21:=rQ G h u;refine IE G h21 O O Q (λg=>by have:=hF _ g;omega) λs1 v22 P K=>⟨(mR K).1,?_⟩;have ae:Sep (gI A {Y with dW:=s1,fN:=Y.fN++[cp]} (cM A {Y with dW:=s1,fN:=Y.fN++[cp]}) (k8 Y)) v22 (Grow F v21):=K;have ai:=LD (λk=>cM.loc k) ae;refine nw (cs:=[.pointer (some ⟨tp,0,none⟩)]) λv23 z23 H ag=>?_;have af:=rQ (λk=>cM.loc k) ai H;refine⟨(mR af).1,Lc af aC aC ag (λg=>by have:=g.2;omega) λs2 v24 e24 L=>⟨(mR L).1,?_⟩⟩;have hs22:=P.1;have hs23:=H.1;have r:∀b,Cut (Grow F v21) v22 b->F b\/U.size<=b:=λb d=>by
   rcases d.1 with h|h
   .exact .inl h
   .exact .inr O
  have j:Ext F U v24:=((((aF.to u).trans P).fS H)).dX e24 r;have M:=ad.bT hC j λb _ d g=>(d1 b d).1 g;have ac:=Z.bT hTf j λb _ d g=>(d2 b d).1 g;refine E9 (F:=Grow (Cut (Grow F v21) v22) v23) hpos L hlc hlt hc M ac (λb d g=>?_) (λb d g=>?_) d3 λw2 Y' e2 p1 p2 p3 p4 h2=>?_
  .have:=d1 b d;rcases g with g|g
   .rcases g.1 with g|g
    .exact this.1 g
    .omega
   .omega
  .have:=d2 b d;rcases g with g|g
   .rcases g.1 with g|g
    .exact this.1 g
    .omega
   .omega
  .refine hK w2 Y' (j.dX e2 λb d=>?_) p1 p2 p3 p4 ((Sep.loc (gI.loc (λk=>cM.loc k))).mono h2 λb _ d=>?_)
   .rcases d with d|d
    .exact r b d
    .exact .inr O
   .have hz0:z<=U.size:=by have:=(d1 _ hC.fp);omega
    rcases d with((d|d)|d)|d
    .rcases r b d with h|h
     .exact(hF b h).1
     .omega
    .omega
    .exact(d1 b d).2.1
    .exact(d2 b d).2.1
 .-- box,row,row
  refine nw (cs:=[.pointer (some ⟨tp,0,none⟩)]) λv27 z27 B b27=>⟨S0 (Ext.trans u B),?_⟩;exact D v27 F U.size v21.size (Ext.trans u B) (λb d=>d) (rQ G (rQ G h u) B) (B.bV Q id) b27 (zD _) O
 .exact D v33 F v32.size U.size (Ext.trans y C) (λb d=>d) (rQ G (rQ G h y) C) b33 (C.bV b32 id) O (zD _)
theorem yX {P:Hp->Rg->Prop}(hl:dP P){a:Nat}(h:P U λb=>a<=b):P U λb=>a<=b/\b<U.size:=hl.mono h λb g d=>⟨d,g⟩
theorem WnB {n room:Nat}{tb:List cA}(h1:32<=n)(h2:n<=1024)(h3:n%16=0)(h4:room<=8)(h5:1<=tb.length)(h6:tb.length<=40)(h7:∀c∈tb,c.ok)(hc:Y.fN.length=tb.length)(ht:Y.gC.length=tb.length):fC (fH n room tb) Y:=
 ⟨hc,ht,by simp[fH],by simp[fH],h5,h6,h1,h2,h3,by simp[fH],h4,h7⟩
theorem κ {s:Sl}{xs:List (Int×Int×Int)}(ha:iu U s xs)(hS:dR U H hs sp)(room:Int){R:Option Addr->Int->Hp->Prop}
 (h0:lr xs sp.st.length room≠0->∀σ',aF U σ'->R none (lr xs sp.st.length room) σ')
 (h1:lr xs sp.st.length room=0->∀σ' Y,aF U σ'->Y.hs=hs->dL σ' (λb=>U.size<=b) Y (fH sp.st.length room.toNat (xs.map QG)) (cM (fH sp.st.length room.toNat (xs.map QG)) Y)->R (some ⟨Y.p,0,none⟩) 0 σ') :
 Kx.c s (some ⟨hs,0,none⟩) room U R:=by
 refine Kx.o ?_;unfold Kx.v;have hn2:sp.st.length<=1024:=by obtain⟨q,r,l,B,h⟩:=hS;exact h.n2
 refine A9 ha λv e=>?_;cases hv:QX xs
 .have e1:lr xs sp.st.length room=2:=by unfold lr;rw[hv];rfl
  have:=h0 (by rw[e1];decide) v e;rw[e1]at this;exact cF rfl this
 have eE:lr xs sp.st.length room=if 32<=sp.st.length/\sp.st.length%16=0/\0<=room/\room<=8 then 0 else 1:=by unfold lr;rw[hv,zC rfl]
 refine cD rfl (JY (hS.bP e) ?_);have E:¬(32<=sp.st.length/\sp.st.length%16=0/\0<=room/\room<=8)->R none 1 v:=λhn=>by
  rw[zB hn]at eE;have:=h0 (by rw[eE];decide) v e;rw[eE]at this;exact this
 have tm:(((sp.st.length:Nat):Int).tmod 16)=((sp.st.length%16:Nat):Int):=by rw[Ki O];simp
 refine bX.intro (cN (λc1=>bX.intro (cF rfl (bX.intro (cF rfl (cF rfl (E O)))))) λc1=>nz aB ?_);rw[tm,No];refine bX.intro (cP (λc2=>bX.intro (cF rfl (cF rfl (E (λh=>by have:=h.2.1;simp[this]at c2))))) λc2=>?_);have c2':sp.st.length%16=0:=by simpa using c2
 refine bX.intro (cN (λc3=>cF rfl (E O)) λc3=>cN (λc4=>E O) λc4=>?_);obtain⟨V,rfl⟩:=zc (show 0<=room by omega);rw[zC O]at eE;have h1:=h1 eE;simp only[dH]at h1;have hva:=(QT xs).1 hv;have N:=Qv ha e;have hn1:32<=sp.st.length:=O
 generalize sp.st.length=n at *;have hlen:s.len=(xs.map QG).length:=by rw[zk];exact ha.1
 have aa:∀{σ':Hp} {i:Nat} {c:cA},iu σ' s xs->(xs.map QG)[i]?=some c->xs[i]?=some ((c.size:Int),(c.aG:Int),(c.batch:Int))/\c.ok:=λh S=>Gj h hv S;have J:1<=(xs.map QG).length/\(xs.map QG).length<=40:=by rw[zk];omega
 refine Uo N hv λdI v5 e5 htab=>Mz λW op e6 hop hP=>ub λA z7 e7 hm=>?_;generalize htbd:xs.map QG=tb at *;refine nw (cs:=[.slice dI.a dI.len dI.cap,.pointer (some ⟨hs,0,none⟩),.pointer none,.pointer none,.pointer (some ⟨op,0,none⟩),.slice none 0 0,.slice none 0 0,.map (some W.size)]) λv8 z8 e8 b8=>?_;refine Go.Bu.uK _ (λg=>absurd ⟨O,O⟩ g) λn' hn' _ _ v9 sb ms e9 hB hfp=>?_;have hnn:n=n':=O
 subst hnn;have b9:=e9.bV b8 id;refine bL (b9.s1 aA λX gE b10=>Wl1 O O c2' λQ tp tq M htp htq hTk=>bL ((M.bV b10 id).s1 aA λv12 K b12=>?_));have s5:=e5.1;have s6:=e6.1;have s9:=e9.1;have s10:=gE.1;have s11:=M.1;have s12:=K.1;have hb8:=b8.lt;have x9:Ext (· = A.size) v9 v12:=(gE.ext.trans (aF.to M)).trans K.ext;have x5:Ext (· = A.size) v5 v12:=(aF.to (Ext.trans (Ext.trans (Ext.trans e6 e7) e8) e9)).trans x9;have x6:Ext (· = A.size) W v12:=(aF.to (Ext.trans (Ext.trans e7 e8) e9)).trans x9;have x7:Ext (· = A.size) A v12:=(aF.to (Ext.trans e8 e9)).trans x9;have x11:Ext (· = A.size) Q v12:=K.ext;have p1:=aH.bT (yX aH htab) x5 λb _ g d=>by omega
 have p2:=(jl.loc (p:=op) (ow:=λ_=>0)).bT (yX jl.loc hP) x6 λb _ g d=>by omega
 have p3:dM v12 W.size .i64 bO []:=x7.fX (hm _ _) O;have p5:tQ v8.size n Go.Bu.iz v12 (λb=>v8.size<=b/\b<v9.size):=(tQ.loc _ _ _).bT (yX (tQ.loc _ _ _) ⟨sb,ms,hB,hfp⟩) x9 λb _ g d=>by omega
 have p6:mT tp (List.replicate n 0) v12 (λb=>X.size<=b/\b<Q.size):=(mT.loc _ _).bT (yX (mT.loc _ _) ⟨tq,hTk,htp,htq⟩) x11 λb _ g d=>by omega
 let Y0:Lay:={p:=A.size,hs:=hs,fr:=v8.size,tr:=tp,op:=op,rn:=W.size,dI:=dI,dW:=⟨none,0,0⟩,cS:=⟨none,0,0⟩,fN:=[],gC:=[]}
 have b12':bY v12 A.size (k8 Y0):=b12
 let Cf:=gI (jo n V tb 0) Y0 (cM (jo n V tb 0) Y0) (k8 Y0)
 have u:∀i,dP (Cf i):=gI.loc λk=>cM.loc k;have q0:Sep (jG Cf S0) v12 λ_=>False:=jG.one S0 .hd λi hi=>by
  cases i<;>first|exact hi.elim|exact bU.nil _ _ _ _|exact trivial
 have q1:=jG.put u q0 .dI (G:=λb=>v.size<=b/\b<v5.size) (λb g d=>d) p1;have q2:=jG.put u q1 .own (G:=λb=>v5.size<=b/\b<W.size) (λb g d=>by
  rcases d with d|d
  .exact d
  .omega) p2
 have q3:=jG.put u q2 .runs (G:=λb=>b=W.size) (λb g d=>by
  rcases d with(d|d)|d
  .exact d
  .omega
  .omega) ⟨rfl,p3⟩
 have q4:=jG.put u q3 .hd (G:=λb=>b=A.size) (λb g d=>by
  rcases d with((d|d)|d)|d
  .exact d
  .omega
  .omega
  .omega) ⟨rfl,b12'⟩
 have q5:=jG.put u q4 .free (G:=λb=>v8.size<=b/\b<v9.size) (λb g d=>by
  rcases d with(((d|d)|d)|d)|d
  .exact d
  .omega
  .omega
  .omega
  .omega) p5
 have q6:=jG.put u q5 .om (G:=λb=>X.size<=b/\b<Q.size) (λb g d=>by
  rcases d with((((d|d)|d)|d)|d)|d
  .exact d
  .omega
  .omega
  .omega
  .omega
  .omega) p6
 have q7:Sep Cf v12 λb=>v.size<=b:=by
  refine(Sep.loc u).mono (jG.all q6 λi=>?_) λb _ d=>?_
  .cases i<;>simp[S0]
  .rcases d with(((((d|d)|d)|d)|d)|d)|d
   .exact d.elim
   .omega
   .omega
   .omega
   .omega
   .omega
   .omega
 have e12:aF v v12:=Ext.fresh e5 x5 λi hi=>by omega
 have szv:=e.1;refine Qg (a:=bO) (λ(t:Int) w=>∃(i:Nat) (Y:Lay),t=(i:Int)/\i<=tb.length/\Y.p=A.size/\Y.hs=hs/\Y.fN.length=i/\Y.gC.length=i/\aF v w/\Sep (gI (jo n V tb i) Y (cM (jo n V tb i) Y) (k8 Y)) w (λb=>v.size<=b)) (λt _=>tb.length-t.toNat)
  ⟨0,Y0,rfl,O,rfl,rfl,rfl,rfl,e12,q7⟩ ?_
 rintro t w ⟨i,Y,rfl,hi,hYp,hYh,hYc,ab,ew,y⟩;refine cN (λhlt=>?_) λhge=>?_
 .have hi':i<tb.length:=O
  have S:tb[i]?=some tb[i]:=cW hi';generalize tb[i]=c at S;have haw:=Qv N ew;obtain⟨hxi,hok⟩:=aa haw S;refine Ax haw hxi ?_;refine nw (cs:=[.int .i64 0,.int .i64 0,.int .i64 0]) λv14 hz14 e14 b14=>b14.s1 aA λv15 o15 b15=>b15.s1 aA λv16 o16 b16=>b16.s1 aA λv17 o17 b17=>?_;have P:aF w v17:=Ext.fresh (Ext.fresh (Ext.fresh e14 o15.ext λi hi=>O) o16.ext λi hi=>O) o17.ext λi hi=>by omega
  have x:bY v17 w.size [.int .i64 (c.size:Int),.int .i64 (c.aG:Int),.int .i64 (c.batch:Int)]:=b17;refine x.rI rfl (x.rI rfl (x.rI rfl (SI hok λv18 cp C hcp1 hcp2 hCe=>?_)));have b18:=C.bV x id;obtain⟨_,_,_,_,_,_,Z,hbt2⟩:=id hok;refine b18.rI rfl (Oe Z hbt2 O λv19 tp2 D htp1 htp2 hTf=>Jn.intro ?_);have s14:=P.1;have s18:=C.1;have s19:=D.1;have sw:=ew.1;have hT:∀k,dP (cM (jo n V tb i) Y k):=λk=>cM.loc k;have h19:=rQ hT (rQ hT (rQ hT (LD hT y) P) C) D;have L:=hCe.bP D;rw[←hYp];refine Me (F:=Cut (λb=>v.size<=b) w) (z:=v.size) (ss:=[]) (t:=⟨0,[]⟩) (λb g=>⟨g.1,by have:=g.2;omega⟩) ⟨hYc,ab⟩ O h19 (by simp[jo]) (by simp[jo]) S L hTf (λb g=>?_) (λb g=>?_) (λb g hb2=>O) λw2 Y' e2 y1 y2 y3 y4 h2=>?_
  .subst g;exact⟨λd=>by have:=d.2;omega,O,O⟩
  .subst g;exact⟨λd=>by have:=d.2;omega,O,O⟩
  .rw[PR]at h2;exact cT (m:=i+1) O O ⟨⟨i+1,Y',rfl,O,y1,y2.trans hYh,y3,y4,Ext.fresh (Ext.trans (Ext.trans (Ext.trans ew P) C) D) e2 λb g=>g.1,h2⟩,O⟩
 .have:i=tb.length:=O
  subst this;rw[SG,MK]at y;have hl:fC (fH n V tb) Y:=WnB hn1 hn2 c2' O J.1 J.2 (λc S=>by
   obtain⟨j,hj⟩:=zP S;exact(aa N hj).2) hYc ab
  have:=h1 w Y (Ext.trans e ew) hYh ⟨hl,λk=>cM.loc k,(Sep.loc (AC.loc λk=>cM.loc k)).mono y λb _ g=>kD szv g⟩;rw[hYp]at this;exact this
end Go.Ar
namespace Go.Vc
open Go
variable {U:Hp}{F:Rg}{s:Sl}{sz:Nat}{xs:List Value}
def dN (s:Sl)(sz:Nat)(xs:List Value):Hp->Rg->Prop:=λh F=>xs.length=s.len*sz/\(s.len=0/\s.cap=0\/∃b o cs,F b/\s.a=some ⟨b,o,none⟩/\bY h b cs/\s.len<=s.cap/\cs.length=o+s.cap*sz/\(cs.drop o).take xs.length=xs)
theorem dN.loc (s:Sl)(sz:Nat)(xs:List Value):dP (dN s sz xs):=λU g F G h d a=>by
 refine⟨h.1,h.2.imp id ?_⟩;rintro⟨b,o,cs,hq,ha,⟨e,he⟩,r⟩;have:=a b (bY.lt ⟨e,he⟩) hq;exact⟨b,o,cs,this.1,ha,⟨e,this.2.trans he⟩,r⟩
theorem dN.nil (h:Hp)(F:Rg)(sz:Nat)(a:Option Addr):dN ⟨a,0,0⟩ sz [] h F:=⟨by simp,.inl ⟨rfl,rfl⟩⟩
theorem bU.o (h:bU s sz xs U F):dN s sz xs U F:=⟨h.1,h.2.imp id λ⟨b,i,j,p,g,a,d,m⟩=>⟨b,0,i,j,p,g,a,O,by simpa using m⟩⟩
theorem dN.fY (h:dN s sz xs U F):cV s sz xs U F:=by
 refine⟨h.1,?_⟩;rcases h.2 with⟨hl,_⟩|⟨b,o,cs,hq,ha,hb,_,_,ht⟩
 .left;have:=h.1;rw[hl]at this;simpa using this
 .refine .inr ⟨b,o,cs,hq,ha,hb.q,λj a=>?_⟩;rw[←ht,zm,lK,zC a]
theorem dN.cap (h:dN s sz xs U F):s.len<=s.cap:=by
 rcases h.2 with⟨q1,q2⟩|⟨_,_,_,_,_,_,q,_⟩
 .omega
 .exact q
theorem dN.app {x:Sl}{bytes e:Nat}{zs ys:List Value}{K:Sl->Hp->Prop}(ho:dN s sz xs U F)(hz:zs.length=sz)
 (hy:ys.length=x.len*sz) (hr:Rd U x.a ys) (h1:∀v∈ys,dY v=true) (hb:(s.len+x.len)*bytes<=2^46) (hc:s.len+x.len<=2^62)
 (hx:0<x.len) (hK:∀s' h',s'.len=s.len+x.len->Ext F U h'->dN s' sz (xs++ys) h' (Grow F U)->K s' h'):App s sz bytes e zs x U K:=by
 refine⟨xs,ys,ho.1,hy,ho.fY.rd,hr,h1,hb,hc,λg=>?_,λr c j=>?_⟩
 .rcases ho.2 with⟨hl,hcap⟩|⟨b,o,cs,hQ,ha,hk,hle,hcl,ht⟩
  .omega
  .rw[ha];simp only;rw[add_lit];have u:(s.len+x.len)*sz<=s.cap*sz:=mD _ g;rw[zo]at u;have d:=ho.1;refine V9 hk O λh' i p=>hK _ h' rfl (Ext.eW i hQ) ⟨?_,.inr ⟨b,o,_,.inl hQ,rfl,p,g,?_,?_⟩⟩
   .simp[d,hy,zo]
   .simp;omega
   .rw[zM,d,kr];have e1:(cs.take (o+s.len*sz)++ys++cs.drop (o+s.len*sz+ys.length)).drop o=(cs.drop o).take (s.len*sz)++(ys++cs.drop (o+s.len*sz+ys.length)):=by
     rw[zl,List.drop_append_of_le_length (by rw[zY];omega),List.drop_take]
     congr 2;omega
    have m:(cs.drop o).take (s.len*sz)=xs:=by rw[←d];exact ht
    rw[e1,m,←zl,pA aE,lP aE]
 .refine hK _ _ rfl (Ext.push _ _ _) ⟨by simp[ho.1,hy,zo],.inr ⟨U.size,0,xs++ys++(List.replicate (c-(s.len+x.len)) zs).flatten,.inr (zD _),rfl,⟨e,by simp⟩,j,?_,?_⟩⟩
  .simp only[zM,wV,wB,yl,ho.1,hy,hz,←zo];rw[zH];congr 1;omega
  .rw[yQ,pA aA,lP aA]
theorem dN.Cw {x:Sl}{bytes e:Nat}{zs:List Value}{K:Sl->Hp->Prop}(ho:dN s sz xs U F)(hx:x.len=0)(hb:s.len*bytes<=2^46)(hc:s.len<=2^62)(hK:dN ⟨s.a,s.len,s.cap⟩ sz xs U F->K ⟨s.a,s.len,s.cap⟩ U):App s sz bytes e zs x U K:=by
 have d:=ho.cap;refine⟨xs,[],ho.1,by simp[hx],ho.fY.rd,by cases x.a<;>simp[Rd],by simp,by rw[hx];exact hb,O,λg=>?_,λb=>absurd O b⟩
 rw[hx];have:=hK ho;cases ha:s.a<;>(rw[ha]at this;exact this)
theorem dN.from (h:dN s sz xs U F){lo:Nat}(h1:lo<=s.len):dN ⟨if s.cap=lo then s.a else s.a.map (·.add (lo*sz)),s.len-lo,s.cap-lo⟩ sz (xs.drop (lo*sz)) U F:=by
 have d:=h.1;refine⟨by rw[kj,d,Nat.sub_mul],?_⟩;rcases h.2 with⟨q1,q2⟩|⟨b,o,cs,hq,ha,hb,hle,hcl,ht⟩
 .left;simp only;omega
 .by_cases hm:s.cap=lo
  .left;simp only;omega
  .refine .inr ⟨b,o+lo*sz,cs,hq,by simp only[zB hm,ha,ze,add_lit],hb,by simp only;omega,?_,?_⟩
   .have:lo*sz<=s.cap*sz:=mD _ O;rw[hcl,Nat.sub_mul];omega
   .rw[kj]
    conv=>rhs;rw[←ht]
    rw[List.drop_take,List.drop_drop]
end Go.Vc
namespace Go.Ar
open Go Go.Vc Go.Proofs
variable {U:Hp}{F G:Rg}{Y:hO}{tb:List cA}{bud:Nat}{ls:List Li}{b k:Nat}{l:Li}{c:cA}
theorem NI {s:Sl}{xs:List (Int×Int×Int)}(ha:iu U s xs)(dD:Int){R:Option Addr->Int->Hp->Prop}(h0:QX xs=false->∀σ',aF U σ'->R none 2 σ')
 (h1:QX xs=true->¬(0<=dD/\dD<=65536)->∀σ',aF U σ'->R none 1 σ')
 (h2:QX xs=true->0<=dD->dD<=65536->∀σ' Y,aF U σ'->eO σ' (λq=>U.size<=q) Y (xs.map QG) dD.toNat (List.replicate (xs.map QG).length im)->R (some ⟨Y.p,0,none⟩) 0 σ') :
 Kz.c s dD U R:=by
 refine Kz.o ?_;unfold Kz.v;refine A9 ha λv e=>?_;cases hv:QX xs
 .exact cF rfl (h0 hv v e)
 refine cD rfl (bX.intro (cN (λz=>cF rfl (h1 hv O v e)) λz=>cN (λu=>h1 hv O v e) λu=>?_));have j:=Qv ha e;have y:=(QT xs).1 hv;refine Uo j hv λdI b e1 g=>ub λd D e2 B=>nw (cs:=[.slice dI.a dI.len dI.cap,.int .i64 dD,.map (some b.size)]) λv3 E m x=>?_;have s1:=e1.1;have s0:=e.1;refine h2 hv O O v3 ⟨d.size,b.size,dI,[]⟩ (((e.trans e1).trans e2).trans m) ⟨by rw[zk];omega,λc w=>?_,by simp,by simp,?_⟩
 .obtain⟨i,hi⟩:=zP w;exact(Gj j hv hi).2
 .refine⟨λq=>if q=d.size then .hd else if q=b.size then .mp else .dI,λi=>?_⟩
  cases i with
  | hd=>
   refine⟨⟨by show U.size<=d.size;omega,by simp⟩,?_⟩;have:((dD.toNat:Nat):Int)=dD:=O
   simp only[Ee,this];exact x
  | mp=>
   refine⟨⟨by show U.size<=b.size;omega,?_⟩,m.fX (B .i64 .p) id⟩;show(if b.size=d.size then u7.hd else if b.size=b.size then u7.mp else u7.dI)=.mp
   rw[zB O,zC rfl]
  | dI=>
   have A:=aH.bP (aH.bP (aH.mono g (G:=λq=>v.size<=q/\q<b.size) λq r C=>⟨C,r⟩) e2) m;refine aH.mono A λq _ r=>⟨O,?_⟩;show(if q=d.size then u7.hd else if q=b.size then u7.mp else u7.dI)=.dI
   rw[zB O,zB O]
  | li k=>
   simp only[CC,qy,iW,List.find?_nil,Option.map_none];cases hk:(List.replicate (xs.map QG).length im)[k]? with
   | none=>trivial
   | some l=>simp only[mY]at hk;split at hk<;>simp_all
def kH (f:Nat->Nat)(l:List (Int×Option Addr)):Nat:=(l.map λx=>f x.1.toNat).sum
theorem JN (f:Nat->Nat):∀{l:List (Int×Option Addr)} {n:Int} {x:Option Addr},(l.map (·.1)).Nodup->(n,x)∈l->kH f l=f n.toNat+kH f (l.filter λy=>!(y.1==n))
 | [],_,_,_,h=>by simp at h
 | y::l,n,x,hn,h=>by
  simp only[zR,zr]at hn;rcases zW.1 h with h1|h1
  .subst h1;have:l.filter (λy=>!(y.1==n))=l:=by
    rw[qG];intro z hz;have:z.1≠n:=λe=>hn.1 (zE.2 ⟨z,hz,e⟩);simpa using this
   rw[vE aA,this];simp[kH]
  .have a:y.1≠n:=λe=>hn.1 (zE.2 ⟨_,h1,e.symm⟩);rw[vM (by simpa using a)];have:=JN f hn.2 h1;simp only[kH,zR,oA]at *;omega
theorem WmC (n a v:Nat):((List.range n).map λj=>if j=a then v else 0).sum=if a<n then v else 0:=by
 induction n with
 | zero=>simp
 | succ n ih=>
  rw[qN,zj,List.sum_append,ih];by_cases h:a=n
  .subst h;simp
  .by_cases h2:a<n
   .rw[zC h2,zC O];simp[Ne.symm h]
   .rw[zB h2,zB O];simp[Ne.symm h]
theorem Sh (l:List Nat)(f g:Nat->Nat):(l.map λj=>f j+g j).sum=(l.map f).sum+(l.map g).sum:=by
 induction l with
 | nil=>rfl
 | cons x l ih=>simp only[zR,oA,ih];omega
theorem Fx (f:Nat->Nat)(n:Nat):∀(ps:List (Nat×Nat)),(ps.map (·.1)).Nodup->(∀x∈ps,x.1<n)->(ps.map λx=>f x.1).sum=((List.range n).map λj=>if j∈ps.map (·.1)then f j else 0).sum
 | [],_,_=>by
  have:((List.range n).map λj=>if j∈([]:List (Nat×Nat)).map (·.1)then f j else 0)=(List.range n).map λ_=>0:=by simp
  rw[this]
  induction n with
  | zero=>rfl
  | succ n a=>rw[qN,zj,List.sum_append];simp at *;exact a
 | x::ps,hn,hl=>by
  simp only[zR,zr]at hn;have a:=Fx f n ps hn.2 λy b=>hl y (by simp[b]);rw[zR,oA,a];have e:((List.range n).map λj=>if j∈(x::ps).map (·.1)then f j else 0)=(List.range n).map λj=>(if j=x.1 then f x.1 else 0)+(if j∈ps.map (·.1)then f j else 0):=by
   apply kh;intro j _;by_cases hj:j=x.1
   .subst hj;rw[zC aA,zC rfl,zB hn.1];rfl
   .rw[zB hj,zH];by_cases hm:j∈ps.map (·.1)
    .rw[zC hm,zC (by simp only[zR,zW];exact .inr hm)]
    .rw[zB hm,zB (by simp only[zR,zW,not_or];exact⟨hj,hm⟩)]
  rw[e,Sh,WmC,zC (hl x aA)]
def qU (tb:List cA)(ls:List Li)(k:Nat):Nat:=match tb[k]?,ls[k]? with
 | some c,some l=>c.size*l.os.length
 | _,_=>0
theorem Fq:∀(tb:List cA) (ls:List Li),ls.length=tb.length->KB tb ls=((List.range tb.length).map (qU tb ls)).sum
 | [],[],_=>rfl
 | c::tb,l::ls,h=>by
  have ih:=Fq tb ls (by simpa using h);simp only[KB]at ih;simp only[KB,List.zip_cons_cons,zR,oA,zS,ih,List.range_succ_eq_map,lQ];rfl
 | [],_::_,h=>by simp at h
 | _::_,[],h=>by simp at h
theorem eO.nil (h:eO U F Y tb bud ls)(hf:iW Y.ps k=none)(hl:ls[k]?=some l):l=im:=by
 obtain⟨G,_,hi⟩:=h.sep.get (.li k);simp only[CC,qy,hf,hl]at hi;exact hi
theorem eO.wI (h:eO U F Y tb bud ls):(Y.ps.map (·.1)).Nodup:=by
 have:=h.map.nodup;have e:(jY Y.ps).map (·.1)=(Y.ps.map (·.1)).map λ(n:Nat)=>(n:Int):=by simp[jY]
 rw[e]at this;exact List.Pairwise.of_map (λ(n:Nat)=>(n:Int)) (λa b d e=>d (by rw[e])) this
theorem eO.bytes (h:eO U F Y tb bud ls):kH (qU tb ls) (jY Y.ps)=KB tb ls:=by
 have e1:kH (qU tb ls) (jY Y.ps)=(Y.ps.map λx=>qU tb ls x.1).sum:=by simp[kH,jY,Function.comp_def]
 rw[e1,Fx _ tb.length _ h.wI h.keys,Fq _ _ h.len]
 congr 1
 apply kh;intro j hj;have a:=zg.1 hj;by_cases hm:j∈Y.ps.map (·.1)
 .rw[zC hm]
 .rw[zB hm];have d:iW Y.ps j=none:=by
   unfold iW;simp only[sP,oD,zU];exact λx g e=>hm (zE.2 ⟨x,g,e⟩)
  have b:ls[j]?=some (ls[j]'(by rw[h.len];exact a)):=cW _;have:=h.nil d b;unfold qU;rw[cW a,b,this];rfl
theorem JQ:∀(tb:List cA) (ls:List Li),(∀c∈tb,c.ok)->(∀l∈ls,fP l)->KB tb ls<=tb.length*131072
 | [],_,_,_=>by simp[KB]
 | _::_,[],_,_=>by simp[KB]
 | c::tb,l::ls,h1,h2=>by
  have ih:=JQ tb ls (λc a=>h1 c (by simp[a])) (λl d=>h2 l (by simp[d]));simp only[KB]at ih;simp only[KB,List.zip_cons_cons,zR,oA,zS];have a:=h1 c aA;unfold cA.ok at a;have b:=(h2 l aA).many;have g:c.size*l.os.length<=512*256:=mC O b;omega
theorem Na (h:eO U F Y tb bud ls)(hok:∀l∈ls,fP l):KB tb ls<=5242880:=by
 have a:=JQ tb ls h.ok hok;have b:=h.oe;omega
theorem eO.lok (h:eO U F Y tb bud ls):∀l∈ls,fP l:=by
 intro l hl;obtain⟨k,a⟩:=zP hl;cases hf:iW Y.ps k with
 | none=>rw[h.nil hf a];exact fP.nil
 | some b=>
  obtain⟨G,_,d,_⟩:=h.xo hf a;exact d.2.1
theorem Io (h:eO U F Y tb bud ls){R:aN}(hR:∀σ',aF U σ'->R ((KB tb ls:Nat):Int) σ'):X6.c (aW Y.p) U R:=by
 refine X6.o ?_;unfold X6.v;have hle:=Na h h.lok;have hT:=h.bytes;refine HE h (cD rfl (bL (h.hd.rM rfl ?_)));refine xp (a:=bO) h.map (λg (z:Int) v=>∃n:Nat,z=(n:Int)/\n+kH (qU tb ls) g=KB tb ls/\(∀e∈g,e∈jY Y.ps)/\(g.map (·.1)).Nodup/\aF U v) ?_ ?_ ?_
 .intro v hz e;exact⟨0,rfl,by rw[hT];omega,λe he=>he,h.map.nodup,e⟩
 .rintro z v ⟨n,rfl,E,_,_,e⟩;simp only[kH,oC,List.sum_nil,kr]at E;rw[E];exact hR v e
 .rintro g n x z v v' J ⟨m,rfl,E,j,B,e⟩ V ho aa hJ;have W:aF U v':=e.only ho (.inr (zD _));have N:=h.bP W;have u:=j _ V;simp only[jY,zE,Prod.mk.injEq]at u;obtain⟨⟨k,b⟩,D,w,A⟩:=u;simp only at w A;subst w;subst A;have H:=h.keys _ D;simp only at H;have M:tb[k]?=some tb[k]:=cW H;have S:ls[k]?=some (ls[k]'(by rw[h.len];exact H)):=cW _;generalize tb[k]=c at M;generalize (ls[k]'(by rw[h.len];exact H))=l at S;have K:iW Y.ps k=some b:=Jw h.map.nodup D;obtain⟨G,hG,hL,_⟩:=N.xo K S;obtain⟨_,ab,s,Q,L,Z⟩:=hL;have P:s.len=l.os.length:=by have:=L.1;simp[Wu]at this;omega
  have hb:qU tb ls k=c.size*l.os.length:=by unfold qU;rw[M,S]
  have r:=JN (qU tb ls) B V;simp only[dH]at r;refine bL (N.hd.rS rfl (vo N.jQ M (d:=0) O ?_));simp only[zT];refine bL (Q.rS rfl ?_);have C:m+c.size*l.os.length+kH (qU tb ls) (List.filter (λy=>!(y.1==(k:Int))) g)=KB tb ls:=by
   have X:=r;rw[hb]at X;rw[←E,X,xR]
  refine cT (m:=c.size*l.os.length) (by simp only[P];simp) O (cT (m:=m+c.size*l.os.length) O O (hJ _ v' rfl rfl ⟨_,rfl,C,λy hy=>j y (zK.1 hy).1,B.sublist (List.filter_sublist.map _),W⟩))
theorem RY (h:eO U F Y tb bud ls){R:aO}(hR:∀σ',aF U σ'->R (decide (bud<KB tb ls)) σ'):Yp.c (aW Y.p) U R:=by
 refine Yp.o ?_;unfold Yp.v;have e:decide (((KB tb ls:Nat):Int)>(bud:Int))=decide (bud<KB tb ls):=by rw[decide_eq_decide];omega
 refine Jn.intro (HE h (cF rfl (bL ⟨Io h λσ' a=>(a.bV h.hd id).rI rfl ?_,h.hd.rI rfl (Io h λσ' a=>?_)⟩)))
 .rw[e];exact hR σ' a
 .rw[e];exact hR σ' a
def Ck (f:cA->Li->List Int×Li)(fn:Nat):Prop:=∀{U:Hp} {G:Rg} {b:Nat} {l:Li} {c:cA},iX b l U G->c.ok->∀{R:Sl->Hp->Prop},
 (∀s z σ',Ext (· = b) U σ'->U.size<=z->bU s 1 (Wu (f c l).1) σ' (λq=>U.size<=q/\q<z)->iX b (f c l).2 σ' (λq=>q=b\/z<=q)->R s σ') →
 VP Tryz.prog ⟨fn,#[],#[]⟩ [.pointer (some ⟨b,0,none⟩),.int .i64 (c.batch:Int)] [.one .s] U R
theorem Nv:Ck Z9 243:=by
 intro U G b l c h hc R hR;refine Gn (all := #[.pointer (some ⟨b,0,none⟩),.int .i64 (c.batch:Int)]) (by kernel_rfl) aA ?_;refine YP.o ?_;unfold YP.v;have m:=h;obtain⟨_,j,s,d,g,i⟩:=h;have a:s.len=l.os.length:=by have:=g.1;simp[Wu]at this;omega
 refine bL (d.rS rfl ?_);simp only[a];exact GF m (zD _) hR
theorem ο:Ck Vz 241:=by
 intro U G b l c h hc R hR;refine Gn (all := #[.pointer (some ⟨b,0,none⟩),.int .i64 (c.batch:Int)]) (by kernel_rfl) aA ?_;refine XJ.o ?_;unfold XJ.v;have P:=h;obtain⟨_,g,s,y,M,L⟩:=h;have o1:=g.low;have o2:=g.many;have o3:=g.lim;have r:=Lu hc g;unfold cA.ok at hc;refine bL (y.rI rfl (cT (m:=l.low+1) O O (nz aB (cT (m:=(l.low+1)/2) (by rw[YU O];omega) O ?_))));refine GF P O λout z v e S V u=>?_;have H:=u;obtain⟨_,N,s1,d,x,B⟩:=u;have w:s1.len=(gO ((l.low+1)/2) l).2.os.length:=by have:=x.1;simp[Wu]at this;omega
 refine Jn.intro ?_;have i:∀(j:Hp) (lim:Nat),Ext (· = b) v j->lim=(if l.lim>c.batch then max (l.lim-c.batch) c.batch else l.lim)->bY j b (nu s1 {(gO ((l.low+1)/2) l).2 with lim:=lim}) →
  bW (some ⟨b,0,none⟩) λF=>jF (F.add 0) j λC=>bW (some ⟨b,0,none⟩) λE=>dG (E.add 2) (.int .i64 ((C.len:Nat):Int)) j λv2=>R out v2:=by
  intro j lim e1 hlim a;refine bL (a.rS rfl (bL (a.s1 (by simp[nu]) λv2 o2 A=>?_)));have e2:=e1.trans o2.ext;have Q:=d.lt;refine hR out z v2 (e.trans e2) S (aI.bT V e2 λq _ K J=>?_) ?_
  .have:=y.lt;omega
  .refine⟨.inl rfl,r,s1,?_,aH.bT x e2 λq _ K J=>K.2 J,B⟩;simp only[w]at A;subst hlim;exact A
 refine bL (d.rI rfl ?_);refine cN (λD=>?_) λD=>?_
 .have p:l.lim>c.batch:=by simp only[gO]at D;omega
  refine bL (d.rI rfl (cT (m:=l.lim-c.batch) (by simp only[gO];omega) O (bL (d.s1 (by simp[nu]) λj o1 a=>i j (max (l.lim-c.batch) c.batch) o1.ext (by rw[zC p]) ?_))));have:(if(c.batch:Int)>((l.lim-c.batch:Nat):Int)then(c.batch:Int)else((l.lim-c.batch:Nat):Int))=((max (l.lim-c.batch) c.batch:Nat):Int):=by split<;>omega
  rw[this]at a;exact a
 .have p:¬l.lim>c.batch:=by simp only[gO]at D;omega
  exact i v l.lim (Ext.refl _ _) (by rw[zB p]) d
def oM (x:Nat×Sl):List Value:=[.int .i64 (x.1:Int),.slice x.2.a x.2.len x.2.cap]
def fK (l:List (Nat×Sl)):List Value:=l.flatMap oM
theorem Vp (l:List (Nat×Sl)):(fK l).length=l.length*2:=by
 induction l with
 | nil=>rfl
 | cons x l ih=>
  have e:fK (x::l)=oM x++fK l:=rfl;have e2:(oM x).length=2:=rfl;rw[e,zM,ih,e2,zS];omega
theorem HC (a b:List (Nat×Sl)):fK (a++b)=fK a++fK b:=by simp[fK]
theorem HT {l:List (Nat×Sl)}:∀v∈fK l,dY v=true:=by
 intro v hv;obtain⟨p,_,a⟩:=List.mem_flatMap.1 hv;simp only[oM,zW,yR,or_false]at a;rcases a with rfl|rfl<;>rfl
theorem MC {l:List (Nat×Sl)}{i:Nat}{p:Nat×Sl}(h:l[i]?=some p){d:Nat}(hd:d<2):(fK l)[2*i+d]?=(oM p)[d]? := by
 induction l generalizing i with
 | nil=>simp at h
 | cons x l ih=>
  have e:fK (x::l)=oM x++fK l:=rfl;have e2:(oM x).length=2:=rfl;rw[e];cases i with
  | zero=>
   simp at h;subst h;rw[zd O];congr 1;omega
  | succ i=>
   rw[zp O,e2,show 2*(i+1)+d-2=2*i+d by omega];exact ih (by simpa using h)
def kR (ps:List (Nat×Sl))(bs:List Bt)(U:Hp)(D:Rg):Prop:=ps.length=bs.length/\∀(i:Nat) p x,ps[i]?=some p->bs[i]?=some x->p.1=x.1/\cV p.2 1 (Wu x.2) U D/\p.2.len<=p.2.cap
theorem kR.loc (ps:List (Nat×Sl))(bs:List Bt):dP (kR ps bs):=λU j F G h d g=>⟨h.1,λi p x a b=>⟨(h.2 i p x a b).1,cV.loc _ _ _ _ _ _ _ (h.2 i p x a b).2.1 d g,(h.2 i p x a b).2.2⟩⟩
def vG (ps:List (Nat×Sl)):Prop:=ps.Pairwise λp q=>∀a a',p.2.a=some a->q.2.a=some a'->a.block≠a'.block
theorem vG.snoc {ps:List (Nat×Sl)}{bs:List Bt}{U v:Hp}{D X:Rg}{s:Sl}{xs:List Int}(h:vG ps)(hB:kR ps bs U D)(hne:∀x∈bs,x.2≠[])(hs:cV s 1 (Wu xs) v X)(hx:xs≠[])(hd:∀b,b<U.size->D b->¬X b)(k:Nat):vG (ps++[(k,s)]):=by
 refine qO.2 ⟨h,List.pairwise_singleton _ _,λp w q r=>?_⟩;rw[zN]at r;subst r;intro a a' h1 h2 e;obtain⟨i,hi⟩:=zP w;have d:=(cY.1 hi).1;have m:bs[i]?=some (bs[i]'(by rw[←hB.1];exact d)):=cW _;generalize (bs[i]'(by rw[←hB.1];exact d))=y at m;obtain⟨_,j,_⟩:=hB.2 i p y hi m;have g:=j.bV (by simpa[Wu]using hne y (zG m)) ⟨a,h1,rfl⟩;have u:=hs.bV (by simpa[Wu]using hx) ⟨a',h2,rfl⟩;rw[e]at g;exact hd _ g.2 g.1 u.1
def iC (s:Sl)(bs:List Bt):Hp->Rg->Prop:=λU F=>∃(ps:List (Nat×Sl)) (D:Rg),dN s 2 (fK ps) U (λq=>F q/\¬D q)/\kR ps bs U D/\(∀q,D q->F q)/\vG ps/\∀x∈bs,x.2≠[]
theorem iC.loc (s:Sl)(bs:List Bt):dP (iC s bs):=λU u F G ⟨m,D,p,r,i,j⟩ g b=>
 ⟨m,λq=>D q/\q<U.size,dN.loc _ _ _ _ _ _ _ p g λq a d=>⟨⟨(b q a d.1).1,λhd=>d.2 hd.1⟩,(b q a d.1).2⟩,kR.loc _ _ _ _ _ _ r g λq a hd=>⟨⟨hd,a⟩,(b q a (i q hd)).2⟩,λq a=>(b q a.2 (i q a.1)).1,j⟩
theorem iC.nil (U:Hp)(F:Rg)(a:Option Addr):iC ⟨a,0,0⟩ [] U F:=⟨[],λ_=>False,dN.nil _ _ _ _,⟨rfl,λi p x h=>by simp at h⟩,λq h=>h.elim,List.Pairwise.nil,by simp⟩
theorem iC.len {s:Sl}{bs:List Bt}(h:iC s bs U F):s.len=bs.length:=by
 obtain⟨d,D,b,a,_⟩:=h;have:=b.1;rw[Vp]at this;have:=a.1;omega
theorem iC.cap {s:Sl}{bs:List Bt}(h:iC s bs U F):s.len<=s.cap:=by
 obtain⟨b,D,a,_⟩:=h;exact a.cap
def ot:Prop:=∀{U:Hp} {F:Rg} {s:Sl} {xs:List (Nat×Sl)},bU s 2 (fK xs) U F->(∀x∈xs,x.1<64)->xs.length<=1000->∀{R:aP},
 (∀xs' σ',xs'.Perm xs->xs'.Pairwise (λa b=>a.1<=b.1)->Ext F U σ'->bU s 2 (fK xs') σ' F->R σ')->Qx.c s ⟨298,#[],#[]⟩ U R
theorem Ll:∀{a b:List Nat},a.Pairwise (· < ·)->b.Pairwise (· < ·)->(∀x,x∈a↔x∈b)->a=b
 | [],[],_,_,_=>rfl
 | [],y::b,_,_,h=>by have:=(h y).2 aA;simp at this
 | x::a,[],_,_,h=>by have:=(h x).1 aA;simp at this
 | x::a,y::b,ha,hb,h=>by
  rw[tH]at ha hb;have e:x=y:=by
   rcases zW.1 ((h x).1 aA)with h1|h1
   .exact h1
   .rcases zW.1 ((h y).2 aA)with h2|h2
    .exact h2.symm
    .have:=ha.1 y h2;have:=hb.1 x h1;omega
  subst e
  congr 1
  refine Ll ha.2 hb.2 λz=>?_;have d:=h z;simp only[zW]at d;constructor
  .intro hza;have:=ha.1 z hza;rcases d.1 (.inr hza)with h1|h1
   .omega
   .exact h1
  .intro hzb;have:=hb.1 z hzb;rcases d.2 (.inr hzb)with h1|h1
   .omega
   .exact h1
theorem HZ {f:cA->Li->List Int×Li}{x:Bt}:x∈KN f tb ls↔∃c l,tb[x.1]?=some c/\ls[x.1]?=some l/\x.2=(f c l).1/\x.2≠[]:=by
 unfold KN;rw[yi];constructor
 .rintro⟨k,hk,h⟩;split at h
  .rename_i c l hc hl;split at h
   .cases h
   .rename_i hne;cases h;exact⟨c,l,hc,hl,rfl,hne⟩
  .cases h
 .rintro⟨c,l,hc,hl,e,hne⟩;refine⟨x.1,zg.2 (cY.1 hc).1,?_⟩;rw[hc,hl];simp only;rw[zB (by rw[←e];exact hne),←e]
theorem Wi2 {f:cA->Li->List Int×Li}:((KN f tb ls).map (·.1)).Pairwise (· < ·):=by
 unfold KN;have key:∀(n:Nat),(((List.range n).filterMap λk=>match tb[k]?,ls[k]? with
  | some c,some l=>if(f c l).1=[]then none else some ((k,(f c l).1):Bt)
  | _,_=>none).map (·.1)).Pairwise (· < ·)/\∀x∈((List.range n).filterMap λk=>match tb[k]?,ls[k]? with
  | some c,some l=>if(f c l).1=[]then none else some ((k,(f c l).1):Bt)
  | _,_=>none),x.1<n:=by
  intro n
  induction n with
  | zero=>simp
  | succ n ih=>
   rw[qN,xD,zj];refine⟨qO.2 ⟨ih.1,?_,?_⟩,?_⟩
   .simp only[CJ,List.filterMap_nil];split<;>simp
   .intro a ha b hb;obtain⟨x,i,rfl⟩:=zE.1 ha;obtain⟨y,g,rfl⟩:=zE.1 hb;have p:=ih.2 x i;obtain⟨m,j,d⟩:=yi.1 g;clear g hb ha;simp only[zN]at j;subst j;split at d
    .split at d
     .cases d
     .cases d;exact p
    .cases d
   .intro x i;rcases zJ.1 i with i|i
    .have:=ih.2 x i;omega
    .obtain⟨m,j,g⟩:=yi.1 i;simp only[zN]at j;subst j;split at g
     .split at g
      .cases g
      .cases g;omega
     .cases g
 exact(key tb.length).1
def nt (todo:List (Int×Option Addr))(k:Nat):Prop:=((k:Nat):Int)∈todo.map (·.1)
instance (todo:List (Int×Option Addr)) (k:Nat):Decidable (nt todo k):=by unfold nt;infer_instance
theorem GE {todo:List (Int×Option Addr)}{m k:Nat}:nt (todo.filter λy=>!(y.1==(m:Int))) k↔nt todo k/\k≠m:=by
 unfold nt;simp only[zE,zK,mJ,mV];constructor
 .rintro⟨y,⟨h1,h2⟩,h3⟩;exact⟨⟨y,h1,h3⟩,λe=>h2 O⟩
 .rintro⟨⟨y,h1,h3⟩,h2⟩;exact⟨y,⟨h1,λe=>h2 O⟩,h3⟩
structure Bm (f:cA->Li->List Int×Li) (tb:List cA) (ls:List Li) (todo:List (Int×Option Addr)) (ls':List Li) (outs:List Bt):Prop where
 l:∀k c l,tb[k]?=some c->ls[k]?=some l->ls'[k]?=some (if nt todo k then l else(f c l).2)
 n:(outs.map (·.1)).Nodup
 o:∀x:Bt,x∈outs↔∃c l,tb[x.1]?=some c/\ls[x.1]?=some l/\¬nt todo x.1/\x.2=(f c l).1/\x.2≠[]
theorem Bm.step {f:cA->Li->List Int×Li}{todo:List (Int×Option Addr)}{ls':List Li}{outs:List Bt}(h:Bm f tb ls todo ls' outs)(hc:tb[k]?=some c)(hl:ls[k]?=some l)(hk:nt todo k) :
 Bm f tb ls (todo.filter λy=>!(y.1==(k:Int))) (ls'.set k (f c l).2) (if(f c l).1=[]then outs else outs++[(k,(f c l).1)]):=by
 have s:=h.l k c l hc hl;have r:=(cY.1 s).1;have u:∀x∈outs,x.1≠k:=λx g e=>by
  obtain⟨_,_,_,_,B,_⟩:=(h.o x).1 g;rw[e]at B;exact B hk
 refine⟨λj d m hd p=>?_,?_,λx=>?_⟩
 .by_cases hj:j=k
  .subst hj;rw[hc]at hd;cases hd;rw[hl]at p;cases p;rw[zO r,zB (by rw[GE];exact λg=>g.2 rfl)]
  .rw[zh (Ne.symm hj),h.l j d m hd p]
   congr 1
   by_cases hi:nt todo j
   .rw[zC hi,zC (GE.2 ⟨hi,hj⟩)]
   .rw[zB hi,zB λg=>hi (GE.1 g).1]
 .split
  .exact h.n
  .rw[zj,m9];refine⟨h.n,by simp,λa C b A e=>?_⟩;simp only[zR,oC,zN]at A;subst A;obtain⟨x,g,e2⟩:=zE.1 C;exact u x g (e2.trans e)
 .have w:(∃d m,tb[x.1]?=some d/\ls[x.1]?=some m/\¬nt (todo.filter λy=>!(y.1==(k:Int))) x.1/\x.2=(f d m).1/\x.2≠[])↔x∈outs\/(x=(k,(f c l).1)/\(f c l).1≠[]):=by
   constructor
   .rintro⟨d,m,hd,p,hi,e,i⟩;by_cases hj:x.1=k
    .right;rw[hj]at hd p;rw[hc]at hd;cases hd;rw[hl]at p;cases p;exact⟨Prod.ext hj e,by rw[←e];exact i⟩
    .left;exact(h.o x).2 ⟨d,m,hd,p,λg=>hi (GE.2 ⟨g,hj⟩),e,i⟩
   .rintro(g|⟨rfl,i⟩)
    .obtain⟨d,m,hd,p,hi,e,i⟩:=(h.o x).1 g;exact⟨d,m,hd,p,λz=>hi (GE.1 z).1,e,i⟩
    .exact⟨c,l,hc,hl,λz=>(GE.1 z).2 rfl,rfl,i⟩
  rw[w];split
  .rename_i he;constructor
   .exact .inl
   .rintro(g|⟨_,i⟩)
    .exact g
    .exact absurd he i
  .rename_i he;rw[zJ,zN];constructor
   .rintro(g|g)
    .exact .inl g
    .exact .inr ⟨g,he⟩
   .rintro(g|g)
    .exact .inl g
    .exact .inr g.1
set_option maxRecDepth 4000 in
theorem Ez (hso:ot){f:cA->Li->List Int×Li}{fn:Nat}(hf:Ck f fn)(hnil:∀c,c.ok->f c im=([],im))(h:eO U F Y tb bud ls){R:Sl->Hp->Prop}
 (hR:∀σ' s (Q:Rg),Ext F U σ'->(∀q,Q q->U.size<=q)->eO σ' (λq=>Grow F U q/\¬Q q) Y tb bud (KG f tb ls)->iC s (KN f tb ls) σ' Q->R s σ') :
 XD.c (aW Y.p) ⟨fn,#[],#[]⟩ U R:=by
 refine XD.o ?_;unfold XD.v;refine HE h (cD rfl (bL (h.hd.rM rfl ?_)));have htb:=h.oe;refine xp (a:=.s) h.map (λC (out:Sl) v=>∃(ls':List Li) (w:List Bt) (Q D:Rg) (ps:List (Nat×Sl)),Ext F U v/\(∀q,Q q->U.size<q)/\eO v (λq=>(Cut F U q\/U.size<q)/\¬Q q) Y tb bud ls' ∧
  bU out 2 (fK ps) v (λq=>Q q/\¬D q)/\kR ps w v D/\(∀q,D q->Q q)/\Bm f tb ls C ls' w/\(∀e∈C,e∈jY Y.ps)/\(C.map (·.1)).Nodup/\vG ps) ?_ ?_ ?_
 .intro v hz e;refine⟨ls,[],λ_=>False,λ_=>False,[],aF.to e,λq g=>g.elim,((eO.loc.bP h.cut e).mono λq _ g=>⟨.inl g,id⟩),bU.nil _ _ _ _,⟨rfl,λi p x K=>by simp at K⟩,λq g=>g.elim,⟨λk c l E N=>?_,by simp,λx=>?_⟩,λe P=>P,h.map.nodup,List.Pairwise.nil⟩
  .by_cases hi:nt (jY Y.ps) k
   .rw[zC hi,N]
   .rw[zB hi];have hf0:iW Y.ps k=none:=by
     unfold iW;simp only[sP,oD,zU];exact λx r e=>hi (zE.2 ⟨((x.1:Int),some ⟨x.2,0,none⟩),zE.2 ⟨x,r,rfl⟩,by rw[e]⟩)
    have:=h.nil hf0 N;rw[N,this,hnil c (h.ok c (zG E))]
  .simp only[yR,false_iff];rintro⟨c,l,E,N,hi,e,hne⟩;have hf0:iW Y.ps x.1=none:=by
    unfold iW;simp only[sP,oD,zU];exact λy X e=>hi (zE.2 ⟨((y.1:Int),some ⟨y.2,0,none⟩),zE.2 ⟨y,X,rfl⟩,by rw[e]⟩)
   have:=h.nil hf0 N;rw[this,hnil c (h.ok c (zG E))]at e;exact hne e
 .rintro out v ⟨ls',w,Q,D,ps,e,hQ,hC,Z,hB,hD,hI,_,_,V⟩;have hno:∀k,¬nt [] k:=λk hk=>by simp[nt]at hk
  have hls:ls'=KG f tb ls:=by
   apply zt;intro k;by_cases hk:k<tb.length
   .have E:tb[k]?=some tb[k]:=cW hk;have N:ls[k]?=some (ls[k]'(by rw[h.len];exact hk)):=cW _;rw[hI.l k _ _ E N,zB (hno k)];simp[KG,Eu,E,N]
   .rw[zX (by rw[hC.len];omega),zX (by simp[KG,h.len];omega)]
  subst hls;have hk1:∀(i:Nat) p,ps[i]?=some p->∃x,w[i]?=some x/\p.1=x.1/\cV p.2 1 (Wu x.2) v D/\p.2.len<=p.2.cap:=λi p K=>by
   have hi:=(cY.1 K).1;have r:w[i]?=some (w[i]'(by rw[←hB.1];exact hi)):=cW _;exact⟨_,r,hB.2 i p _ K r⟩
  have B:ps.map (·.1)=w.map (·.1):=by
   apply zt;intro i;simp only[zZ];cases K:ps[i]? with
   | none=>
    have:w[i]?=none:=by
     rw[List.getElem?_eq_none_iff]at K ⊢;rw[←hB.1];exact K
    rw[this];rfl
   | some p=>
    obtain⟨x,r,e1,_⟩:=hk1 i p K;rw[r];simp[e1]
  have W:∀x∈w,x.1<40:=λx r=>by
   obtain⟨c,l,E,_⟩:=(hI.o x).1 r;have:=(cY.1 E).1;omega
  have hlen:ps.length<=40:=by
   have hn:=hI.n;rw[←B]at hn;have:=hn.length_le_of_subset (l₂:=List.range 40) λj V=>by
    rw[B]at V;obtain⟨x,r,rfl⟩:=zE.1 V;exact zg.2 (W x r)
   simpa using this
  refine hso Z (λp K=>?_) O λps' v' M hsort e' hrow'=>?_
  .have:p.1∈w.map (·.1):=by rw[←B];exact zE.2 ⟨p,K,rfl⟩
   obtain⟨x,r,e1⟩:=zE.1 this;have:=W x r;omega
  .have hnd:(ps'.map (·.1)).Nodup:=(M.map _).nodup_iff.2 (by rw[B];exact hI.n);have hinc:(ps'.map (·.1)).Pairwise (· < ·):=by
    refine List.Pairwise.map (R:=λa b:Nat×Sl=>a.1<b.1) _ (λa b hab=>hab) ?_;have A:ps'.Pairwise λa b=>a.1≠b.1:=td.1 hnd;exact(hsort.and A).imp λ{a b} hab=>by have:=hab.1;have:=hab.2;omega
   have hkk:ps'.map (·.1)=(KN f tb ls).map (·.1):=by
    refine Ll hinc Wi2 λj=>?_;rw[(M.map _).mem_iff,B];constructor
    .intro V;obtain⟨x,r,rfl⟩:=zE.1 V;obtain⟨c,l,E,N,_,e1,e2⟩:=(hI.o x).1 r;exact zE.2 ⟨x,HZ.2 ⟨c,l,E,N,e1,e2⟩,rfl⟩
    .intro V;obtain⟨x,r,rfl⟩:=zE.1 V;obtain⟨c,l,E,N,e1,e2⟩:=HZ.1 r;exact zE.2 ⟨x,(hI.o x).2 ⟨c,l,E,N,hno _,e1,e2⟩,rfl⟩
   have eQ:Ext F U v':=e.dX e' λq g=>.inr (sA (hQ q g.1));refine hR v' out Q eQ (λq g=>sA (hQ q g)) ?_ ⟨ps',D,hrow'.o,⟨?_,λi p x K r=>?_⟩,hD,(M.pairwise_iff λ{a b} hab x y A h2 e=>hab y x h2 A e.symm).2 V,λx r=>by
    obtain⟨_,_,_,_,_,h2⟩:=HZ.1 r;exact h2⟩
   .refine(eO.loc.bT hC e' λq _ g hq2=>g.2 hq2.1).mono λq _ g=>⟨?_,g.2⟩;rcases g.1 with r|r
    .exact .inl r.1
    .exact .inr (sA r)
   .have:=congrArg List.length hkk;simpa using this
   .have e1:p.1=x.1:=by
     have:=congrArg (λl=>l[i]?) hkk;simp only[zZ,K,r,ze,Option.some.injEq]at this;exact this
    obtain⟨j,V⟩:=zP (M.mem_iff.1 (zG K));obtain⟨y,X,e2,hs,hcap⟩:=hk1 j p V;have e3:x.2=y.2:=by
     obtain⟨c,l,E,N,_,A,_⟩:=(hI.o y).1 (zG X);obtain⟨c',l',hc',hl',h2,_⟩:=HZ.1 (zG r);rw[←e1,e2,E]at hc';cases hc';rw[←e1,e2,N]at hl';cases hl';rw[A,h2]
    rw[e3];exact⟨e1,aH.bT hs e' λq _ g hq2=>hq2.2 g,hcap⟩
 .rintro C n x out v v' J ⟨ls',w,Q,D,ps,e,hQ,hC,Z,hB,hD,hI,hsub,hnd,V⟩ r ho hlt hJ;have e1:Ext F U v':=e.only ho (.inr (zD _));have S:eO v' (λq=>(Cut F U q\/U.size<q)/\¬Q q) Y tb bud ls':=eO.loc.bT hC ho.ext λq _ g P=>by
   rcases g.1 with A|A
   .have:=A.2;omega
   .omega
  have hrow1:bU out 2 (fK ps) v' (λq=>(Q q/\¬D q)/\q<v'.size):=aI.cut (aI.bT Z ho.ext λq _ g P=>by have:=hQ q g.1;omega);have hB1:kR ps w v' (λq=>D q/\q<v'.size):=(kR.loc _ _).cut ((kR.loc _ _).bT hB ho.ext λq _ g P=>by have:=hQ q (hD q g);omega);have hmem:=hsub _ r;simp only[jY,zE,Prod.mk.injEq]at hmem;obtain⟨⟨k,b⟩,hkb,hk1,hx1⟩:=hmem;simp only at hk1 hx1;subst hk1;subst hx1;have hk:=h.keys _ hkb;simp only at hk;have E:tb[k]?=some tb[k]:=cW hk;have N:ls[k]?=some (ls[k]'(by rw[h.len];exact hk)):=cW _;generalize tb[k]=c at E;generalize (ls[k]'(by rw[h.len];exact hk))=l at N;have hcok:=h.ok c (zG E);have hlk:iW Y.ps k=some b:=Jw h.map.nodup hkb;have hin:nt C k:=zE.2 ⟨_,r,rfl⟩;have hl':ls'[k]?=some l:=by rw[hI.l k c l E N,zC hin]
  have L:=hI.step E N hin;have hmF:(λq=>(Cut F U q\/U.size<q)/\¬Q q) Y.m:=by
   obtain⟨H,hH,hm⟩:=S.sep.get .mp;exact hH _ hm.1
  obtain⟨G,hG,hL,hGm,hput⟩:=S.xo hlk hl';have aa:=hG b hL.1;have hbm:b≠Y.m:=λe=>hGm (e▸hL.1);have hbs:b≠U.size:=λe=>by
   subst e;rcases aa.1 with A|A
   .have:=A.2;omega
   .omega
  have hblt:b<v'.size:=by obtain⟨_,_,s,hbk,_⟩:=hL;exact hbk.lt
  have hsz1:=ho.1;refine bL (S.hd.rS rfl (vo S.jQ E (d:=2) O ?_));simp only[zB (show ¬(2=0) by omega),zB (show ¬(2=1) by omega)];refine hf hL hcok λs z v5 e5 hz hr hL5=>?_;have hs5:=e5.1;obtain⟨eF,h5⟩:=hput v5 _ (λq=>q=b\/z<=q) (e5.sub λq g=>by rw[g];exact hL.1) (λq g=>g.imp (λ(r:q=b)=>by rw[r];exact hL.1) λ(r:z<=q)=>O) hL5;have h5:=h5.cut;have eF5:Ext F U v5:=e1.dX eF λq g=>by
   rcases g.1 with A|A
   .exact .inl A.1
   .exact .inr (sA A)
  have hnb:∀q,Q q->q≠b:=λq g hqb=>aa.2 (hqb▸g);have hrow5:=aI.bT hrow1 e5 λq _ g P=>hnb q g.1.1 P;have hB5:=(kR.loc _ _).bT hB1 e5 λq _ g P=>hnb q (hD q g.1) P;have hsl:s.len=(f c l).1.length:=by have:=hr.1;simp[Wu]at this;omega
  have hsub':∀y∈C.filter (λy=>!(y.1==(k:Int))),y∈jY Y.ps:=λy X=>hsub y (zK.1 X).1;have hnd':((C.filter λy=>!(y.1==(k:Int))).map (·.1)).Nodup:=hnd.sublist (List.filter_sublist.map _);by_cases hemp:(f c l).1=[]
  .rw[zC hemp]at L;refine gA (by rw[hsl,hemp];simp) (hJ out v5 (e5.2 _ O λP=>hbs P.symm) (e5.2 _ S.map.lt λP=>hbm P.symm) ?_);refine⟨_,w,λq=>Q q/\q<v'.size,λq=>D q/\q<v'.size,ps,eF5,λq g=>hQ q g.1,h5.mono λq _ g=>?_,aI.mono hrow5 λq _ g=>⟨⟨g.1.1,g.2⟩,λhd=>g.1.2 hd.1⟩,hB5,λq g=>⟨hD q g.1,g.2⟩,L,hsub',hnd',V⟩;rcases g.1 with A|A|A
   .exact⟨A.1.1,λr=>A.1.2 r.1⟩
   .subst A;exact⟨aa.1,λr=>aa.2 r.1⟩
   .exact⟨.inr O,λr=>O⟩
  .rw[zB hemp]at L;have hpos:=pB.2 hemp;refine lV (by rw[hsl];omega) (nw (cs:=oM (k,s)) λv6 hz6 e6 hb6=>?_);have hrow6:=aI.bP hrow5 e6;have hB6:=(kR.loc _ _).bP hB5 e6;have hr6:=aI.bP (aI.cut hr) e6;have hpl:out.len=ps.length:=by have:=Z.1;rw[Vp]at this;omega
   have hol:ps.length<=40:=by
    have B:w.map (·.1)⊆List.range 40:=λj V=>by
     obtain⟨x,r,rfl⟩:=zE.1 V;obtain⟨c,l,E,_⟩:=(hI.o x).1 r;have:=(cY.1 E).1;exact zg.2 O
    have:=hI.n.length_le_of_subset B;rw[hB.1];simpa using this
   refine hrow6.app (ys:=oM (k,s)) rfl rfl ?_ (λv hv=>HT (l:=[(k,s)]) v (by simpa[fK]using hv)) ?_ ?_ nc λs' v7 hl7 e7 hr7=>?_
   .intro j u hu;rw[add_lit,zH,hb6.cell];exact hu
   .simp only;have:(out.len+1)*32<=41*32:=mC O O;omega
   .simp only;omega
   have hs7:=e7.1;have e57:Ext (λq=>(Q q/\¬D q)/\q<v'.size) v5 v7:=(aF.to e6).trans e7;refine hJ s' v7 ?_ ?_ ?_
   .rw[e57.2 _ O λr=>by have:=hQ _ r.1.1;omega];exact e5.2 _ O λP=>hbs P.symm
   .rw[e57.2 _ (by have:=S.map.lt;omega) λr=>hmF.2 r.1.1];exact e5.2 _ S.map.lt λP=>hbm P.symm
   refine⟨_,_,λq=>Q q/\q<v'.size\/(v'.size<=q/\q<z)\/v5.size<=q,λq=>D q/\q<v'.size\/(v'.size<=q/\q<z)/\q<v5.size,ps++[(k,s)],eF5.dX e57 λq g=>.inr (sA (hQ q g.1.1)),λq g=>?_,(eO.loc.bT h5 e57 λq hq5 g r=>?_).mono λq _ g=>?_,?_,⟨?_,λi p y K X=>?_⟩,λq g=>?_,L,hsub',hnd',V.snoc hB1 (λx r=>by
    obtain⟨_,_,_,_,_,_,h2⟩:=(hI.o x).1 r;exact h2) hr.fY hemp (λb hb r X=>by have:=r.2;have:=X.1;omega) k⟩
   .rcases g with g|g|g
    .exact hQ q g.1
    .omega
    .omega
   .rcases g.1 with A|A|A
    .exact A.1.2 r.1.1
    .exact hnb q r.1.1 A
    .have:=r.2;omega
   .have hq5:=g.2;rcases g.1 with A|A|A
    .exact⟨A.1.1,λr=>by
      rcases r with r|r|r
      .exact A.1.2 r.1
      .have:=A.2.1;omega
      .omega⟩
    .subst A;exact⟨aa.1,λr=>by
      rcases r with r|r|r
      .exact aa.2 r.1
      .omega
      .omega⟩
    .exact⟨.inr O,λr=>by
      rcases r with r|r|r<;>omega⟩
   .rw[HC];have:fK [(k,s)]=oM (k,s):=by simp[fK]
    rw[this];refine aI.mono hr7 λq _ g=>?_;rcases g with g|g
    .exact⟨.inl ⟨g.1.1,g.2⟩,λhd=>by
      rcases hd with hd|hd
      .exact g.1.2 hd.1
      .omega⟩
    .exact⟨.inr (.inr O),λhd=>by
      rcases hd with hd|hd<;>omega⟩
   .rw[zM,zM,hB.1];rfl
   .rcases kv i ps.length with hi|hi
    .rw[zd hi]at K;rw[zd (by rw[←hB.1];exact hi)]at X;obtain⟨a1,a2,a3⟩:=hB6.2 i p y K X;exact⟨a1,aH.mono (aH.bT a2 e7 λq _ g r=>r.1.2 g.1) λq _ g=>.inl g,a3⟩
    .rw[zp hi]at K;rw[zp (by rw[←hB.1];exact hi)]at X;have hi0:i-ps.length=0:=by
      have:=(cY.1 K).1;simp at this;omega
     rw[hi0]at K;rw[show i-w.length=0 by rw[←hB.1];exact hi0]at X;simp at K X;subst K;subst X;exact⟨rfl,aH.mono (aH.bT hr6.fY e7 λq _ g r=>by have:=r.2;have:=g.1;omega) λq _ g=>.inr g,bU.pw hr⟩
   .rcases g with g|g
    .exact .inl ⟨hD q g.1,g.2⟩
    .exact .inr (.inl g.1)
theorem Pn (hso:ot)(h:eO U F Y tb bud ls){R:Sl->Hp->Prop}
 (hR:∀σ' s (Q:Rg),Ext F U σ'->(∀q,Q q->U.size<=q)->eO σ' (λq=>Grow F U q/\¬Q q) Y tb bud (KG Z9 tb ls)->iC s (KN Z9 tb ls) σ' Q->R s σ'):X0.c (aW Y.p) U R:=by
 refine X0.o ?_;unfold X0.v;exact Ez hso Nv (λc _=>PM c) h hR
theorem PA (hso:ot)(h:eO U F Y tb bud ls){R:Sl->Hp->Prop}
 (hR:∀σ' s (Q:Rg),Ext F U σ'->(∀q,Q q->U.size<=q)->eO σ' (λq=>Grow F U q/\¬Q q) Y tb bud (KG Vz tb ls)->iC s (KN Vz tb ls) σ' Q->R s σ'):Xq.c (aW Y.p) U R:=by
 refine Xq.o ?_;unfold Xq.v;exact Ez hso ο Nk h hR
end Go.Ar