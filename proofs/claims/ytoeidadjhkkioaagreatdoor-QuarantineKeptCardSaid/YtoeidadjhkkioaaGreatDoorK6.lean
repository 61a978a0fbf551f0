/- Texts joined. -/
import Derived.Test.YtoeidadjhkkioaaGreatDoorK5
set_option linter.unusedVariables false
set_option linter.unusedSimpArgs false
namespace Go.Ar
variable {c:cA}{ss:List cH}
structure dJ (c:cA) (ss:List cH):Prop where
 ok:c.ok
 tk:∀s∈ss,s.tk.length=c.n
 uk:ss.Pairwise λa b=>a.st+c.aG<=b.st
def Tk (c:cA)(ss:List cH)(x:Int):Prop:=eD c ss x=some true
def wc (c:cA)(ss:List cH)(p:Nat):Prop:=∃s∈ss,s.st<=p/\p<s.st+c.aG
theorem dJ.pos (h:dJ c ss):0<c.size:=by have:=h.ok;unfold cA.ok at this;omega
theorem dJ.pg (h:dJ c ss):1<=c.aG:=by have:=h.ok;unfold cA.ok at this;omega
theorem dJ.rG (h:dJ c ss):ss.Pairwise λa b=>a.st<b.st:=h.uk.imp λ{a b} d=>by have:=h.pg;omega
theorem dJ.tW (h:dJ c ss){i j:Nat}{s t:cH}(hi:ss[i]?=some s)(hj:ss[j]?=some t)(hij:i<j):s.st+c.aG<=t.st:=by
 obtain⟨a,rfl⟩:=cY.1 hi;obtain⟨b,rfl⟩:=cY.1 hj;exact mB.1 h.uk i j a b hij
theorem dJ.yd (h:dJ c ss){i j:Nat}{s t:cH}{p:Nat}(hi:ss[i]?=some s)(hj:ss[j]?=some t)(h1:s.st<=p)(h2:p<s.st+c.aG)(h3:t.st<=p)(h4:p<t.st+c.aG):i=j:=by
 rcases qQ i j with hl|hl|hl
 .have:=h.tW hi hj hl;omega
 .exact hl
 .have:=h.tW hj hi hl;omega
theorem ID (hp:0<c.size){s:cH}{i:Nat}(hi:i<c.n):s.st*256<=at_ c s i/\at_ c s i+c.size<=(s.st+c.aG)*256:=by
 have b:=cA.xV c;have a:(i+1)*c.size<=c.n*c.size:=mD _ hi;unfold at_;rw[zo]at a;omega
theorem GN (hp:0<c.size){s:cH}{i x:Nat}(hi:i<c.n)(h1:at_ c s i<=x)(h2:x<at_ c s i+c.size):s.st<=x/256/\x/256<s.st+c.aG:=by
 have:=ID hp (s:=s) hi;omega
theorem U2 (h:dJ c ss){k l:Nat}{s t:cH}{i j x:Nat}(hk:ss[k]?=some s)(hl:ss[l]?=some t)(hi:i<c.n)(hj:j<c.n)(h1:at_ c s i<=x)(h2:x<at_ c s i+c.size)(h3:at_ c t j<=x)(h4:x<at_ c t j+c.size):k=l/\s=t/\i=j:=by
 have b:=GN h.pos hi h1 h2;have a:=GN h.pos hj h3 h4;have e:=h.yd hk hl b.1 b.2 a.1 a.2;subst e;rw[hk]at hl;cases hl;refine⟨rfl,rfl,?_⟩;unfold at_ at *;have d:=h.pos;rcases qQ i j with hl|hl|hl
 .have:(i+1)*c.size<=j*c.size:=mD _ hl;rw[zo]at this;omega
 .exact hl
 .have:(j+1)*c.size<=i*c.size:=mD _ hl;rw[zo]at this;omega
theorem Bo (h:dJ c ss){s:cH}(hs:s∈ss){x:Int}{i:Nat}(hi:idx c s x=some i):i<c.n/\((s.st*256:Nat):Int)<=x/\x<(((s.st+c.aG)*256:Nat):Int)/\((at_ c s i:Nat):Int)<=x/\x<((at_ c s i+c.size:Nat):Int):=by
 obtain⟨d,b,a⟩:=(Uu h.pos).1 hi;rw[h.tk s hs]at a;have:=ID h.pos (s:=s) a;have e:at_ c s (i+1)=at_ c s i+c.size:=by unfold at_;rw[zo];omega
 rw[e]at b;omega
theorem JL (h:dJ c ss){k:Nat}{s:cH}{x:Int}{i:Nat}(hs:ss[k]?=some s)(hi:idx c s x=some i):kV c ss x=some k:=by
 obtain⟨r,g⟩:=cY.1 hs;refine nV.2 ⟨r,by rw[g,hi];rfl,λj p u=>?_⟩;have d:j<ss.length:=O
 obtain⟨w,m⟩:=pv.1 u;have a:=Bo h (zG hs) hi;have b:=Bo h (ky d) m;have:=h.tW (cW d) hs p;omega
theorem La (h:dJ c ss){x:Int}{b:Bool}:eD c ss x=some b↔∃(k:Nat) (s:cH) (i:Nat),ss[k]?=some s/\i<c.n/\x=((at_ c s i:Nat):Int)/\s.is i=b:=by
 constructor
 .intro hx;obtain⟨k,s,i,_,a,d,g⟩:=yI hx;obtain⟨p,m⟩:=(Hg h.pos).1 d;rw[h.tk s (zG a)]at m;exact⟨k,s,i,a,m,p,g⟩
 .rintro⟨k,s,i,a,hi,rfl,g⟩;have r:=h.tk s (zG a);have d:obj c s ((at_ c s i:Nat):Int)=some i:=(Hg h.pos).2 ⟨rfl,O⟩;have j:idx c s ((at_ c s i:Nat):Int)=some i:=(Uu h.pos).2 ⟨xF _,by have:=h.pos;unfold at_;rw[zo];omega,O⟩;rw[Un (JL h a j) a,d,←g];rfl
theorem Ue (h:dJ c ss){x:Int}:Tk c ss x↔∃(k:Nat) (s:cH) (i:Nat),ss[k]?=some s/\i<c.n/\x=((at_ c s i:Nat):Int)/\s.is i=true:=La h
theorem Ii (h:dJ c ss){x:Int}{a:Nat}:rO c ss x=some a↔∃(k:Nat) (s:cH) (i:Nat),ss[k]?=some s/\i<c.n/\a=at_ c s i/\((at_ c s i:Nat):Int)<=x/\x<((at_ c s i+c.size:Nat):Int):=by
 constructor
 .intro hf;cases ho:kV c ss x with
  | none=>rw[F8 ho]at hf;cases hf
  | some k=>
   have g:=(nV.1 ho).1;have b:ss[k]?=some ss[k]:=cW g;rw[GW ho b]at hf;obtain⟨i,hi,rfl⟩:=oy.1 hf;have:=Bo h (zG b) hi;exact⟨k,_,i,b,this.1,rfl,this.2.2.2.1,this.2.2.2.2⟩
 .rintro⟨k,s,i,b,hi,rfl,h1,h2⟩;have j:=h.tk s (zG b);have e:at_ c s (i+1)=at_ c s i+c.size:=by unfold at_;rw[zo];omega
  have d:idx c s x=some i:=(Uu h.pos).2 ⟨h1,by rw[e];exact h2,O⟩;rw[GW (JL h b d) b,d];rfl
theorem dJ.put (h:dJ c ss){k i:Nat}{s:cH}(hs:ss[k]?=some s)(v:Bool):dJ c (ss.set k (s.put i v)):=by
 have r:=(cY.1 hs).1;refine⟨h.ok,λt p=>?_,?_⟩
 .rcases Al p with p|rfl
  .exact h.tk t p
  .rw[show(s.put i v).tk.length=s.tk.length by simp[cH.put]];exact h.tk s (zG hs)
 .rw[mB];intro a b ha hb hab;have g:a<ss.length:=by simpa using ha
  have d:b<ss.length:=by simpa using hb
  have m:∀j (hj:j<(ss.set k (s.put i v)).length) (hj':j<ss.length),(ss.set k (s.put i v))[j].st=ss[j].st:=by
   intro j hj hj';rw[List.getElem_set];split
   .rename_i e;subst e;have:ss[k]=s:=(cY.1 hs).2;rw[this];rfl
   .rfl
  rw[m a ha g,m b hb d];exact mB.1 h.uk a b g d hab
theorem Lp {k i:Nat}{s:cH}(hs:ss[k]?=some s)(v:Bool):(ss.set k (s.put i v)).map (·.st)=ss.map (·.st):=by
 apply zt;intro j;simp only[zZ];by_cases hjk:j=k
 .subst hjk;rw[zO (cY.1 hs).1,hs];rfl
 .rw[zh (Ne.symm hjk)]
theorem Cj {s:cH}{i j:Nat}{v:Bool}(hi:i<s.tk.length):(s.put i v).is j=if j=i then v else s.is j:=by
 unfold cH.is cH.put;simp only[zQ];by_cases hj:j=i
 .subst hj;rw[zO hi,zC rfl];rfl
 .rw[zh (Ne.symm hj),zB hj]
theorem IL (h:dJ c ss){k i:Nat}{s:cH}(hs:ss[k]?=some s)(hi:i<c.n)(v:Bool){y:Int}:Tk c (ss.set k (s.put i v)) y↔(y=((at_ c s i:Nat):Int)/\v=true)\/(y≠((at_ c s i:Nat):Int)/\Tk c ss y):=by
 have b:=(cY.1 hs).1;have m:=h.tk s (zG hs);have g:=h.pos;rw[Ue (h.put hs v),Ue h];constructor
 .rintro⟨l,t,j,ht,hj,rfl,hb⟩;by_cases hlk:l=k
  .subst hlk;rw[zO b]at ht;cases ht;rw[Cj O]at hb;by_cases a:j=i
   .subst a;rw[zC rfl]at hb;exact .inl ⟨rfl,hb⟩
   .rw[zB a]at hb;refine .inr ⟨λe=>a ?_,l,s,j,hs,hj,rfl,hb⟩;have d:at_ c s j=at_ c s i:=by have:=Int.ofNat.inj e;exact this
    exact(U2 h hs hs hj hi (zD _) O O O).2.2
  .rw[zh (Ne.symm hlk)]at ht;refine .inr ⟨λe=>hlk ?_,l,t,j,ht,hj,rfl,hb⟩;have d:at_ c t j=at_ c s i:=Int.ofNat.inj e;exact(U2 h ht hs hj hi (zD _) O O O).1
 .rintro(⟨rfl,rfl⟩|⟨hne,l,t,j,ht,hj,rfl,hb⟩)
  .exact⟨k,s.put i true,i,zO b,hi,rfl,by rw[Cj O,zC rfl]⟩
  .by_cases hlk:l=k
   .subst hlk;rw[hs]at ht;cases ht;have a:j≠i:=λe=>hne (by rw[e]);exact⟨l,s.put i v,j,zO b,hj,rfl,by rw[Cj O,zB a];exact hb⟩
   .exact⟨l,t,j,(zh (Ne.symm hlk)).trans ht,hj,rfl,hb⟩
theorem Fe {p:Nat}:wc c ss p↔∃x∈ss.map (·.st),x<=p/\p<x+c.aG:=by
 constructor
 .rintro⟨s,a,h⟩;exact⟨_,zE.2 ⟨s,a,rfl⟩,h⟩
 .rintro⟨x,hx,h⟩;obtain⟨s,a,rfl⟩:=zE.1 hx;exact⟨s,a,h⟩
theorem Rx {ss':List cH}(e:ss'.map (·.st)=ss.map (·.st)){p:Nat}:wc c ss' p↔wc c ss p:=by rw[Fe,Fe,e]
theorem WiK (h:dJ c ss){x:Nat}{ss':List cH}(ho:ja c ss=some (x,ss')):dJ c ss'/\ss'.map (·.st)=ss.map (·.st)/\¬Tk c ss (x:Int)/\∀y,Tk c ss' y↔y=(x:Int)\/Tk c ss y:=by
 unfold ja at ho;split at ho
 .rename_i k hk;obtain⟨_,s,g,u⟩:=Km hk;rw[g]at ho;simp only at ho;split at ho
  .rename_i i hi;cases ho;obtain⟨r,w,m,p⟩:=Av u;rw[hi]at w;cases w;have j:i<c.n:=by rw[←h.tk s (zG g)];exact m
   have a:¬Tk c ss ((at_ c s i:Nat):Int):=λd=>by
    have z:=(La h (x:=((at_ c s i:Nat):Int)) (b:=false)).2 ⟨k,s,i,g,j,rfl,p⟩;unfold Tk at d;rw[z]at d;cases d
   refine⟨h.put g true,Lp g true,a,λy=>?_⟩;rw[IL h g j];constructor
   .rintro(⟨e,_⟩|⟨_,d⟩)
    .exact .inl e
    .exact .inr d
   .rintro(e|d)
    .exact .inl ⟨e,rfl⟩
    .exact .inr ⟨λe=>a (e▸d),d⟩
  .cases ho
 .cases ho
theorem GO:∀(m:Nat) {ss:List cH},dJ c ss->dJ c (KJ c m ss).2/\(KJ c m ss).2.map (·.st)=ss.map (·.st)/\(KJ c m ss).1.length<=m/\(KJ c m ss).1.Nodup/\(∀x∈(KJ c m ss).1,¬Tk c ss (x:Int))/\∀y,Tk c (KJ c m ss).2 y↔(∃x∈(KJ c m ss).1,y=((x:Nat):Int))\/Tk c ss y
 | 0,ss,h=>⟨h,rfl,zD _,vd,by simp[KJ],by simp[KJ]⟩
 | m+1,ss,h=>by
  cases ho:ja c ss with
  | none=>
   have e:KJ c (m+1) ss=([],ss):=by simp[KJ,ho]
   rw[e];exact⟨h,rfl,by simp,vd,by simp,by simp⟩
  | some r=>
   obtain⟨x,p⟩:=r;rw[GQ ho];obtain⟨d,g,i,a⟩:=WiK h ho;obtain⟨u,w,B,j,b,s⟩:=GO m d;refine⟨u,w.trans g,by simp;omega,zr.2 ⟨λz=>b x z ((a _).2 (.inl rfl)),j⟩,?_,λy=>?_⟩
   .intro y hy;rcases zW.1 hy with rfl|hy
    .exact i
    .exact λA=>b y hy ((a _).2 (.inr A))
   .rw[s,a];simp only[zW,exists_eq_or_imp];constructor
    .rintro(h|h|h)
     .exact .inl (.inr h)
     .exact .inl (.inl h)
     .exact .inr h
    .rintro((h|h)|h)
     .exact .inr (.inl h)
     .exact .inl h
     .exact .inr (.inr h)
theorem IW:∀(xs:List Int) {ss:List cH},dJ c ss->kO c ss xs->dJ c (xs.foldl (fM c) ss)/\(xs.foldl (fM c) ss).map (·.st)=ss.map (·.st)/\∀y,Tk c (xs.foldl (fM c) ss) y↔Tk c ss y/\y∉xs
 | [],ss,h,_=>⟨h,rfl,by simp⟩
 | x::xs,ss,h,hA=>by
  have hx:=hA.1 x aA;obtain⟨k,s,i,p,d,j,_⟩:=yI hx;obtain⟨b,a⟩:=(Hg h.pos).1 j;rw[h.tk s (zG d)]at a;have e:=Ak p d j;have w:=h.put d false (i:=i);have g:=hA.next h.pos;obtain⟨r,u,m⟩:=IW xs (ss:=fM c ss x) (by rw[e];exact w) g;rw[ry];refine⟨r,u.trans (by rw[e];exact Lp d false),λy=>?_⟩;rw[m,e,IL h d a,←b];simp only[za,and_false,false_or,zW,not_or];constructor
  .rintro⟨⟨b,a⟩,h3⟩;exact⟨a,b,h3⟩
  .rintro⟨a,b,h3⟩;exact⟨⟨b,a⟩,h3⟩
theorem LK {s:cH}(h0:s.many=0)(i:Nat):s.is i=false:=by
 unfold cH.many at h0;rw[AW]at h0;unfold cH.is;rw[zQ];cases hi:s.tk[i]? with
 | none=>rfl
 | some b=>
  cases b
  .rfl
  .exact absurd (zG hi) h0
theorem dJ.cK (h:dJ c ss):dJ c (Go.Ar.cK ss):=⟨h.ok,λs a=>h.tk s (zK.1 a).1,h.uk.filter _⟩
theorem EZ (h:dJ c ss){y:Int}:Tk c (cK ss) y↔Tk c ss y:=by
 rw[Ue h.cK,Ue h];constructor
 .rintro⟨k,s,i,hs,hi,rfl,hb⟩;obtain⟨l,a⟩:=zP (zK.1 (zG hs)).1;exact⟨l,s,i,a,hi,rfl,hb⟩
 .rintro⟨k,s,i,hs,hi,rfl,hb⟩;have:s∈cK ss:=zK.2 ⟨zG hs,by
   have:s.many≠0:=λb=>by rw[LK b i]at hb;cases hb
   simpa using this⟩
  obtain⟨l,a⟩:=zP this;exact⟨l,s,i,a,hi,rfl,hb⟩
theorem CR {x:Nat}:x∈QW ss↔∃s∈ss,s.many=0/\s.st=x:=by
 unfold QW;simp only[zE,zK,zU,and_assoc]
theorem Iz (h:dJ c ss){p:Nat}:wc c (cK ss) p↔wc c ss p/\¬∃x∈QW ss,x<=p/\p<x+c.aG:=by
 constructor
 .rintro⟨s,hs,h1,h2⟩;have b:=zK.1 hs;refine⟨⟨s,b.1,h1,h2⟩,?_⟩;rintro⟨x,hx,h3,h4⟩;obtain⟨t,g,d,rfl⟩:=CR.1 hx;obtain⟨i,hi⟩:=zP b.1;obtain⟨j,a⟩:=zP g;have e:=h.yd hi a h1 h2 h3 h4;subst e;rw[hi]at a;cases a;simp[d]at b
 .rintro⟨⟨s,hs,h1,h2⟩,hn⟩;refine⟨s,zK.2 ⟨hs,?_⟩,h1,h2⟩;have:s.many≠0:=λd=>hn ⟨s.st,CR.2 ⟨s,hs,d,rfl⟩,h1,h2⟩;simpa using this
theorem χ (h:dJ c ss):(QW ss).Pairwise λa b=>a+c.aG<=b:=by
 unfold QW;rw[td];exact h.uk.filter _
theorem VZ {st:Nat}{t:cH}:t∈ir c ss st↔t=⟨st,List.replicate c.n false⟩\/t∈ss:=by
 unfold ir;rw[zJ,zW];have:t∈ss↔t∈ss.takeWhile (λs=>decide (s.st<st))\/t∈ss.dropWhile (λs=>decide (s.st<st)):=by
  rw[←zJ,List.takeWhile_append_dropWhile]
 rw[this];constructor
 .rintro(h|h|h)
  .exact .inr (.inl h)
  .exact .inl h
  .exact .inr (.inr h)
 .rintro(h|h|h)
  .exact .inr (.inl h)
  .exact .inl h
  .exact .inr (.inr h)
theorem Lw (h:dJ c ss){st:Nat}(hd:∀s∈ss,s.st+c.aG<=st\/st+c.aG<=s.st):dJ c (ir c ss st):=by
 refine⟨h.ok,λs m=>?_,?_⟩
 .rcases VZ.1 m with rfl|m
  .simp
  .exact h.tk s m
 .have g:=GV h.rG st;have r:=h.pg;rw[xI];refine qO.2 ⟨h.uk.sublist (Dd _ _),tH.2 ⟨λb d=>?_,h.uk.sublist (List.drop_sublist _ _)⟩,λa u b d=>?_⟩
  .obtain⟨i,hi⟩:=zP d;rw[lK]at hi;have:=g.2 _ _ hi;rcases hd b (ur d)with h1|h1
   .omega
   .exact h1
  .obtain⟨i,hi⟩:=zP u;rw[zm]at hi;split at hi
   .rename_i hlt;rcases zW.1 d with rfl|d
    .have:=(g.2 _ _ hi).2 hlt;rcases hd a (zG hi)with h1|h1
     .exact h1
     .omega
    .obtain⟨j,p⟩:=zP d;rw[lK]at p;exact h.tW hi p O
   .cases hi
theorem F2 (h:dJ c ss){st:Nat}(hd:∀s∈ss,s.st+c.aG<=st\/st+c.aG<=s.st){y:Int}:Tk c (ir c ss st) y↔Tk c ss y:=by
 rw[Ue (Lw h hd),Ue h];constructor
 .rintro⟨k,s,i,hs,hi,rfl,hb⟩;rcases VZ.1 (zG hs)with rfl|hm
  .have:(⟨st,List.replicate c.n false⟩:cH).is i=false:=LK (by simp[cH.many,AU]) i;rw[this]at hb;cases hb
  .obtain⟨l,a⟩:=zP hm;exact⟨l,s,i,a,hi,rfl,hb⟩
 .rintro⟨k,s,i,hs,hi,rfl,hb⟩;obtain⟨l,a⟩:=zP (VZ.2 (.inr (zG hs)):s∈ir c ss st);exact⟨l,s,i,a,hi,rfl,hb⟩
theorem Pz {st:Nat}(hd:∀s∈ss,s.st+c.aG<=st\/st+c.aG<=s.st):oh c ss st=0:=by
 unfold oh;rw[zB];simp only[zy,zV,not_exists,not_and];intro s hs hlt;rcases hd s hs with h|h<;>omega
end Go.Ar
namespace Go.Ar
open Go.Bu (ZF Kj ZD qJ VI dF take KX Vq Bounded)
def gf (st:List Nat)(p:Nat):Nat:=st.getD p 0
def AR.f (A:AR)(p:Nat):Nat:=gf A.st p
def mS (rs:List (Nat×Nat))(p:Nat):Prop:=∃r∈rs,r.1<=p/\p<r.1+r.2
theorem EM {st:List Nat}{p:Nat}(h:gf st p≠0):p<st.length:=by
 apply Classical.byContradiction;intro hn;exact h (by unfold gf;rw[zQ,zX O];rfl)
theorem vU {st:List Nat}{a b v p:Nat}(hb:b<=st.length):gf (gH st a b v) p=if a<=p/\p<b then v else gf st p:=by
 unfold gf;rw[zQ,zQ,HL];by_cases hp:p<st.length
 .rw[cW hp];simp only[ze,qL]
 .rw[zX O,zB O];rfl
theorem UZ {n a m:Nat}:ZF n (a:Int) (m:Int)=true↔1<=m/\a+m<=n:=by
 simp only[ZF,zF,zV];omega
theorem TK {st:List Nat}{a m:Nat}{fr:List Nat}(hl:a+m<=st.length):wo st a m fr=true↔∀p,a<=p->p<a+m->gf st p∈fr:=by
 unfold wo;rw[kF];constructor
 .intro h p h1 h2;have b:p<st.length:=O
  have:st[p]∈(st.drop a).take m:=by
   refine zG (i:=p-a) ?_;rw[zm,zC O,lK,show a+(p-a)=p by omega,cW b]
  have:=h _ this;unfold gf;rw[zQ,cW b];simpa using this
 .intro h x hx;obtain⟨i,hi⟩:=zP hx;rw[zm]at hi;split at hi
  .rename_i hlt;rw[lK]at hi;have:=h (a+i) O O;unfold gf at this;rw[zQ,hi]at this;simpa using this
  .cases hi
theorem JF {st:List Nat}{a m v:Nat}{fr:List Nat}(h1:1<=m)(hl:a+m<=st.length)(h:∀p,a<=p->p<a+m->gf st p∈fr):UY st (a:Int) (m:Int) v fr=gH st a (a+m) v:=by
 unfold UY qe;rw[zC (UZ.2 ⟨h1,hl⟩),dH,dH,(TK hl).2 h];rfl
structure PG (A:AR):Prop where
 len:A.st.length=A.n
 n1:32<=A.n
 n2:A.n<=1024
 n16:A.n%16=0
 le:∀p,A.f p<=3
 us:∀p,A.f p=1↔A.ow p≠0
 fr:∀p,A.S p=true↔2<=A.f p
 hp:∀p,A.f p=0↔A.f (p/16*16)=0
theorem PG.lt {A:AR}(h:PG A){p:Nat}(hp:A.f p≠0):p<A.n:=h.len▸EM hp
theorem PG.jH {A:AR}(h:PG A):Bounded A.S A.n:=λp a=>h.lt (by have:=(h.fr p).1 a;omega)
theorem PG.ko {A:AR}(h:PG A){p q:Nat}(e:p/16=q/16):A.f p=0↔A.f q=0:=by rw[h.hp p,h.hp q,e]
theorem PG.same {A B:AR}(h:PG A)(e1:B.n=A.n)(e2:B.st=A.st)(e3:B.S=A.S)(e4:B.ow=A.ow):PG B:=by
 have a:∀p,B.f p=A.f p:=λp=>by unfold AR.f;rw[e2]
 exact⟨by rw[e2,e1];exact h.len,by rw[e1];exact h.n1,by rw[e1];exact h.n2,by rw[e1];exact h.n16,λp=>by rw[a];exact h.le p,λp=>by rw[a,e4];exact h.us p,λp=>by rw[a,e3];exact h.fr p,λp=>by rw[a,a];exact h.hp p⟩
theorem JC {ow:Nat->Nat}{a m no:Nat}(h1:1<=m)(h2:a+m<=1024)(p:Nat):jO ow a m no p=if a<=p/\p<a+m then no else ow p:=by
 unfold jO;rw[zC (UZ.2 ⟨h1,h2⟩)]
theorem JW {n:Nat}{S:Nat->Bool}{a m:Nat}(h1:1<=m)(h2:a+m<=n)(h:∀p,a<=p->p<a+m->S p=false):Kj n S (a:Int) (m:Int)=dF S a (a+m):=by
 unfold Kj;rw[UZ.2 ⟨h1,h2⟩,dH,dH,VI.2 h];rfl
structure Out (A B:AR) (a b:Nat):Prop where
 n:B.n=A.n
 len:B.st.length=A.st.length
 f:∀p,¬(a<=p/\p<b)->B.f p=A.f p
 ow:∀p,¬(a<=p/\p<b)->B.ow p=A.ow p
 S:∀p,¬(a<=p/\p<b)->B.S p=A.S p
theorem Out.pg {A B:AR}{a b v:Nat}(o:Out A B a b)(h:PG A)(hv:v<=3)(hf:∀p,a<=p->p<b->B.f p=v)(hw:∀p,a<=p->p<b->(v=1↔B.ow p≠0))(hS:∀p,a<=p->p<b->(B.S p=true↔2<=v))
 (hz:∀p,B.f p=0↔B.f (p/16*16)=0):PG B:=by
 refine⟨by rw[o.len,o.n];exact h.len,by rw[o.n];exact h.n1,by rw[o.n];exact h.n2,by rw[o.n];exact h.n16,λp=>?_,λp=>?_,λp=>?_,hz⟩
 .by_cases hp:a<=p/\p<b
  .rw[hf p hp.1 hp.2];exact hv
  .rw[o.f p hp];exact h.le p
 .by_cases hp:a<=p/\p<b
  .rw[hf p hp.1 hp.2];exact hw p hp.1 hp.2
  .rw[o.f p hp,o.ow p hp];exact h.us p
 .by_cases hp:a<=p/\p<b
  .rw[hf p hp.1 hp.2];exact hS p hp.1 hp.2
  .rw[o.f p hp,o.S p hp];exact h.fr p
theorem Out.zero {A B:AR}{a b v:Nat}(o:Out A B a b)(h:PG A)(hf:∀p,a<=p->p<b->B.f p=v)(hv:v≠0)(hA:∀p,a<=p->p<b->A.f p≠0):∀p,B.f p=0↔A.f p=0:=by
 intro p;by_cases hp:a<=p/\p<b
 .rw[hf p hp.1 hp.2];exact⟨λe=>(hv e).elim,λe=>(hA p hp.1 hp.2 e).elim⟩
 .rw[o.f p hp]
theorem JX {A B:AR}(h:PG A)(e:∀p,B.f p=0↔A.f p=0):∀p,B.f p=0↔B.f (p/16*16)=0:=λp=>by rw[e,e];exact h.hp p
theorem IC {A:AR}(h:PG A){a m:Nat}(h1:1<=m)(hu:∀p,a<=p->p<a+m->A.f p=1):Out A (UC A (a,m)) a (a+m)/\(∀p,a<=p->p<a+m->(UC A (a,m)).f p=2/\(UC A (a,m)).ow p=0)/\PG (UC A (a,m))/\∀p,(UC A (a,m)).f p=0↔A.f p=0:=by
 have i:a+m<=A.n:=by have:=h.lt (p:=a+m-1) (by rw[hu _ O O];omega);omega
 have x:=h.n2;have e1:(UC A (a,m)).st=gH A.st a (a+m) 2:=JF h1 (by rw[h.len];exact i) λp b d=>by
  have:=hu p b d;unfold AR.f at this;rw[this];simp
 have e2:(UC A (a,m)).S=dF A.S a (a+m):=JW h1 i λp b d=>by
  apply nX.2;intro hS;have:=(h.fr p).1 hS;have:=hu p b d;omega
 have s:∀p,(UC A (a,m)).ow p=if a<=p/\p<a+m then 0 else A.ow p:=λp=>JC h1 O p
 have u:∀p,(UC A (a,m)).f p=if a<=p/\p<a+m then 2 else A.f p:=λp=>by unfold AR.f;rw[e1,vU (by rw[h.len];exact i)]
 have o:Out A (UC A (a,m)) a (a+m):=⟨rfl,by rw[e1,Vn],λp g=>by rw[u,zB g],λp g=>by rw[s,zB g],λp g=>by
  rw[e2];unfold dF;have:(decide (a<=p)&&decide (p<a+m))=false:=by simp;omega
  rw[this,Bool.or_false]⟩
 have j:∀p,a<=p->p<a+m->(UC A (a,m)).f p=2:=λp b d=>by rw[u,zC ⟨b,d⟩]
 have r:∀p,a<=p->p<a+m->(UC A (a,m)).ow p=0:=λp b d=>by rw[s,zC ⟨b,d⟩]
 have w:=o.zero h j O λp b d=>by rw[hu p b d];omega
 refine⟨o,λp b d=>⟨j p b d,r p b d⟩,o.pg h O j (λp b d=>by rw[r p b d];simp) (λp b d=>?_) (JX h w),w⟩;rw[e2,KX];exact⟨λ_=>zD _,λ_=>.inr ⟨b,d⟩⟩
structure tM (A B:AR) (rs:List (Nat×Nat)):Prop where
 pg:PG B
 n:B.n=A.n
 tb:B.tb=A.tb
 room:B.room=A.room
 cR:B.cR=A.cR
 cG:B.cG=A.cG
 runs:B.runs=A.runs
 i:∀p,mS rs p->B.f p=2/\B.ow p=0
 o:∀p,¬mS rs p->B.f p=A.f p/\B.ow p=A.ow p
 z:∀p,B.f p=0↔A.f p=0
theorem Jx:∀(rs:List (Nat×Nat)) {A:AR},PG A->(∀r∈rs,1<=r.2)->(∀r∈rs,∀p,r.1<=p->p<r.1+r.2->A.f p=1)->rs.Pairwise (λa b=>a.1+a.2<=b.1\/b.1+b.2<=a.1)->tM A (UK A rs) rs
 | [],A,h,_,_,_=>⟨h,rfl,rfl,rfl,rfl,rfl,rfl,λp ⟨r,hr,_⟩=>by simp at hr,λp _=>⟨rfl,rfl⟩,λp=>Iff.rfl⟩
 | (a,m)::rs,A,h,hp,hu,hd=>by
  have hd':=tH.1 hd;obtain⟨o,hi,w,B⟩:=IC h (hp _ (mL ..)) (hu _ (mL ..));have d:=Jx rs w (λr hr=>hp r (l7 _ hr)) (λr hr p u s=>by
   have:=hd'.1 r hr;simp only at this;rw[o.f p O];exact hu r (l7 _ hr) p u s) hd'.2
  have e:UK A ((a,m)::rs)=UK (UC A (a,m)) rs:=rfl;rw[e];refine⟨d.pg,d.n,d.tb,d.room,d.cR,d.cG,d.runs,λp g=>?_,λp g=>?_,λp=>(d.z p).trans (B p)⟩
  .by_cases j:mS rs p
   .exact d.i p j
   .have:=d.o p j;obtain⟨r,hr,u,s⟩:=g;rcases zW.1 hr with rfl|hr
    .rw[this.1,this.2];exact hi p u s
    .exact(j ⟨r,hr,u,s⟩).elim
  .have j:¬mS rs p:=λ⟨r,hr,x⟩=>g ⟨r,l7 _ hr,x⟩;have y:¬(a<=p/\p<a+m):=λx=>g ⟨(a,m),mL ..,x⟩;have:=d.o p j;exact⟨this.1.trans (o.f p y),this.2.trans (o.ow p y)⟩
theorem BU {A:AR}(h:PG A){a m no:Nat}(h1:1<=m)(hn:no≠0)(hS:∀p,a<=p->p<a+m->A.S p=true):Out A (dU A a m no) a (a+m)/\(∀p,a<=p->p<a+m->(dU A a m no).f p=1/\(dU A a m no).ow p=no)/\PG (dU A a m no)/\∀p,(dU A a m no).f p=0↔A.f p=0:=by
 have i:∀p,a<=p->p<a+m->2<=A.f p:=λp b d=>(h.fr p).1 (hS p b d);have x:a+m<=A.n:=by have:=h.lt (p:=a+m-1) (by have:=i (a+m-1) O O;omega);omega
 have y:=h.n2;have e1:(dU A a m no).st=gH A.st a (a+m) 1:=JF h1 (by rw[h.len];exact x) λp b d=>by
  have z:=i p b d;have B:=h.le p;unfold AR.f at z B;have:gf A.st p=2\/gf A.st p=3:=O
  simpa using this
 have s:∀p,(dU A a m no).ow p=if a<=p/\p<a+m then no else A.ow p:=λp=>JC h1 O p
 have u:∀p,(dU A a m no).f p=if a<=p/\p<a+m then 1 else A.f p:=λp=>by unfold AR.f;rw[e1,vU (by rw[h.len];exact x)]
 have o:Out A (dU A a m no) a (a+m):=⟨rfl,by rw[e1,Vn],λp g=>by rw[u,zB g],λp g=>by rw[s,zB g],λp g=>by
  show take A.S a (a+m) p=A.S p;unfold take;have:(decide (a<=p)&&decide (p<a+m))=false:=by simp;omega
  rw[this];simp⟩
 have j:∀p,a<=p->p<a+m->(dU A a m no).f p=1:=λp b d=>by rw[u,zC ⟨b,d⟩]
 have r:∀p,a<=p->p<a+m->(dU A a m no).ow p=no:=λp b d=>by rw[s,zC ⟨b,d⟩]
 have w:=o.zero h j O λp b d=>by have:=i p b d;omega
 refine⟨o,λp b d=>⟨j p b d,r p b d⟩,o.pg h O j (λp b d=>by rw[r p b d];simp[hn]) (λp b d=>?_) (JX h w),w⟩;show take A.S a (a+m) p=true↔_;rw[Vq];constructor
 .rintro⟨_,hx⟩;exact(hx ⟨b,d⟩).elim
 .intro hx;omega
theorem IP:∀(m:Nat) {st:List Nat} {a:Nat},(a+m)*16<=st.length->(∀p,a*16<=p->p<(a+m)*16->gf st p=0)->(Hm st a m).length=st.length/\∀p,gf (Hm st a m) p=if a*16<=p/\p<(a+m)*16 then 3 else gf st p
 | 0,st,a,hl,hz=>⟨rfl,λp=>by rw[zB O];rfl⟩
 | m+1,st,a,hl,hz=>by
  obtain⟨i1,i2⟩:=IP m (st:=st) (a:=a) O λp d g=>hz p d O;rw[Ig];have b:gf (Hm st a m) (16*(a+m))=0:=by rw[i2,zB O];exact hz _ O O
  have ok:kU (Hm st a m) ((a+m:Nat):Int)=0:=by
   unfold kU;rw[Jj (by rw[i1];omega),zC rfl,dH];unfold gf at b;rw[zC b]
  have e:ji (Hm st a m) ((a+m:Nat):Int)=gH (Hm st a m) (16*(a+m)) (16*(a+m)+16) 3:=by
   unfold ji;rw[zC ok,dH]
  rw[e];refine⟨by rw[Vn,i1],λp=>?_⟩;rw[vU (by rw[i1];omega),i2];by_cases h1:16*(a+m)<=p/\p<16*(a+m)+16
  .rw[zC h1,zC O]
  .rw[zB h1];by_cases h2:a*16<=p/\p<(a+m)*16
   .rw[zC h2,zC O]
   .rw[zB h2,zB O]
theorem Ec {sp:Sp}{s m:Nat}(h:fF sp (s:Int) (m:Int)=0):1<=m/\s+m<=sp.st.length/\∀p,s<=p->p<s+m->gf sp.st p=0:=by
 unfold fF at h;split at h
 .rename_i hr;obtain⟨b,d⟩:=UZ.1 hr;rw[dH,dH]at h;split at h
  .cases h
  .rename_i hn;refine⟨b,d,λp j r=>?_⟩;have a:p<sp.st.length:=O
   have g:sp.st[p]∈(sp.st.drop s).take m:=by
    refine zG (i:=p-s) ?_;rw[zm,zC O,lK,show s+(p-s)=p by omega,cW a]
   simp only[zy,not_exists,not_and]at hn;have:=hn _ g;unfold gf;rw[zQ,cW a];simpa using this
 .cases h
structure Grown (A B:AR) (sp sp':Sp) (s size:Nat):Prop where
 pg:PG B
 n:B.n=A.n
 tb:B.tb=A.tb
 room:B.room=A.room
 cR:B.cR=A.cR
 cG:B.cG=A.cG
 runs:B.runs=A.runs
 ow:B.ow=A.ow
 Tq:s%16=0
 s1:16<=s
 sl:s+size<=A.n
 un:∀p,s<=p->p<s+size->gf sp.st p=0
 i:∀p,s<=p->p<s+size->B.f p=3/\gf sp'.st p=1
 o:∀p,¬(s<=p/\p<s+size)->B.f p=A.f p/\gf sp'.st p=gf sp.st p
 w:∀x,¬(s*32<=x/\x<(s+size)*32)->sp'.wd x=sp.wd x
 l:sp'.st.length=sp.st.length
 pk:sp'.pk=sp.pk
theorem Hr {sp:Sp}{size s:Nat}(h1:1<=size)(h:dB sp size=some s):fF sp (s:Int) (size:Int)=0/\s≠0/\(∃j,s=j*size)/\∀j,j*size<s->1<=j->fF sp ((j*size:Nat):Int) (size:Int)≠0:=by
 unfold dB at h;obtain⟨u,us,vs,w,A⟩:=List.find?_eq_some_iff_append.1 h;simp only[zF,bne_iff_ne,ne_eq,zU]at u;have m:s∈(List.range (sp.st.length/size)).map (· * size):=by rw[w];simp
 obtain⟨j,x,rfl⟩:=zE.1 m;rw[zg]at x;refine⟨u.2,u.1,⟨j,rfl⟩,λi hi z=>?_⟩;have y:i<j:=Nat.lt_of_mul_lt_mul_right hi;have:i*size∈us:=by
  have g:i*size∈(List.range (sp.st.length/size)).map (· * size):=zE.2 ⟨i,zg.2 O,rfl⟩;have d:((List.range (sp.st.length/size)).map (· * size)).Pairwise (· < ·):=by
   rw[td];exact List.pairwise_lt_range.imp λ{a b} r=>Nat.mul_lt_mul_of_pos_right r O
  rw[w]at g d;rcases zJ.1 g with h|h
  .exact h
  .rcases zW.1 h with h|h
   .have:=wX O h;omega
   .have:=(tH.1 (qO.1 d).2.1).1 _ h;omega
 have:=A _ this;have p:i*size≠0:=by
  have:=Nat.mul_pos (show 0<i by omega) (show 0<size by omega);omega
 simpa[p]using this
theorem IF {sp:Sp}{s m:Nat}(h:fF sp (s:Int) (m:Int)=0):(gp sp (s:Int) (m:Int)).st.length=sp.st.length/\(∀p,gf (gp sp (s:Int) (m:Int)).st p=if s<=p/\p<s+m then 1 else gf sp.st p)/\(∀x,¬(s*32<=x/\x<(s+m)*32)->(gp sp (s:Int) (m:Int)).wd x=sp.wd x)/\(gp sp (s:Int) (m:Int)).pk=sp.pk:=by
 obtain⟨d,a,_⟩:=Ec h;unfold gp;rw[zC h,dH,dH];refine⟨by simp[Sp.set,Vn],λp=>vU a,λx b=>?_,rfl⟩;show(if s*32<=x/\x<(s+m)*32 then 0 else sp.wd x)=_
 rw[zB b]
theorem NY {A:AR}{sp:Sp}(h:PG A)(hl:sp.st.length=A.n)(hz:∀p,gf sp.st p=0->A.f p=0){size:Nat}(hs:size=16\/size=32\/size=64){B:AR}{sp':Sp}(hg:Hk A sp size=some (B,sp')) :
 ∃s,dB sp size=some s/\Grown A B sp sp' s size:=by
 unfold Hk at hg;split at hg
 .cases hg
 .rename_i s hgs;cases hg;obtain⟨D,G,⟨j,K⟩,_⟩:=Hr O hgs;obtain⟨J,x,y⟩:=Ec D;have u:s%16=0:=by rcases hs with rfl|rfl|rfl<;>omega
  have w:size%16=0:=by rcases hs with rfl|rfl|rfl<;>omega
  have e1:s/16*16=s:=O
  have e2:(s/16+size/16)*16=s+size:=O
  have g:∀p,s<=p->p<s+size->A.f p=0:=λp b d=>hz p (y p b d);obtain⟨E,i⟩:=IP (size/16) (st:=A.st) (a:=s/16) (by rw[e2,h.len,←hl];exact x) (by rw[e1,e2];exact g);rw[e1,e2]at i;obtain⟨F,z,H,b4⟩:=IF D;have m:s+size<=A.n:=by rw[←hl];exact x
  have C:Kj A.n A.S (s:Int) (size:Int)=dF A.S s (s+size):=JW J m λp b d=>by
   apply nX.2;intro hS;have:=(h.fr p).1 hS;have:=g p b d;omega
  refine⟨s,hgs,⟨?_,rfl,rfl,rfl,rfl,rfl,rfl,rfl,u,O,m,y,λp b d=>⟨?_,?_⟩,λp hp=>⟨?_,?_⟩,H,F,b4⟩⟩
  .have o:Out A {A with st:=Hm A.st (s/16) (size/16),S:=Kj A.n A.S (s:Int) (size:Int)} s (s+size):=⟨rfl,E,λp hp=>by show gf _ p=_;rw[i,zB hp];rfl,λp hp=>rfl,λp hp=>by
    show Kj A.n A.S (s:Int) (size:Int) p=A.S p;rw[C];unfold dF;have:(decide (s<=p)&&decide (p<s+size))=false:=by simp;omega
    rw[this,Bool.or_false]⟩
   have r:∀p,s<=p->p<s+size->AR.f {A with st:=Hm A.st (s/16) (size/16),S:=Kj A.n A.S (s:Int) (size:Int)} p=3:=λp b d=>by show gf _ p=3;rw[i,zC ⟨b,d⟩]
   refine o.pg h (zD _) r (λp b d=>?_) (λp b d=>?_) λp=>?_
   .have G:=g p b d;have:=h.us p;constructor
    .intro hx;omega
    .intro hx;have:=this.2 hx;omega
   .show Kj A.n A.S (s:Int) (size:Int) p=true↔_;rw[C,KX];exact⟨λ_=>O,λ_=>.inr ⟨b,d⟩⟩
   .by_cases hp:s<=p/\p<s+size
    .rw[r p hp.1 hp.2,r (p/16*16) O O]
    .rw[o.f p hp,o.f (p/16*16) O];exact h.hp p
  .show gf (Hm A.st (s/16) (size/16)) p=3;rw[i,zC ⟨b,d⟩]
  .rw[z,zC ⟨b,d⟩]
  .show gf (Hm A.st (s/16) (size/16)) p=A.f p;rw[i,zB hp];rfl
  .rw[z,zB hp]
end Go.Ar
namespace Go.Ar
open Go.Bu (ZF Kj ZD qJ VI dF take KX Vq Bounded full can YW U7 Z1 Ko Qc WW Kn QI)
def Cl (A:AR)(k:Nat)(c:cA)(ss:List cH):Prop:=A.tb[k]?=some c/\A.cG[k]?=some ss
def fW (A:AR)(k:Nat)(x:Int):Prop:=∃c ss,Cl A k c ss/\Tk c ss x
def ic (A:AR)(k:Nat)(x:Int):Prop:=∃t,A.cR[k]?=some t/\x∈t.bs.flatten
structure GA (A:AR):Prop where
 pg:PG A
 tb:A.tb.length<=40
 lc:A.cG.length=A.tb.length
 lt:A.cR.length=A.tb.length
 cG:∀k c ss,Cl A k c ss->dJ c ss
 one:∀k c ss,Cl A k c ss->∀s∈ss,s.st/16=(s.st+c.aG-1)/16
 ow:∀k c ss,Cl A k c ss->∀p,A.ow p=k+1↔wc c ss p
 jX:∀p,A.ow p=41↔mS A.runs p
 sM:∀p,A.ow p=41\/A.ow p<=A.tb.length
 gU:∀r∈A.runs,1<=r.2
 kQ:A.runs.Pairwise λa b=>a.1+a.2<=b.1\/b.1+b.2<=a.1
 qF:∀(k:Nat) (t:gQ),A.cR[k]?=some t->t.bs.flatten.Nodup
 mF:∀(k:Nat) c ss (t:gQ),Cl A k c ss->A.cR[k]?=some t->∀x∈t.bs.flatten,Tk c ss x
 pZ:∀(k:Nat) (c:cA) (t:gQ),A.tb[k]?=some c->A.cR[k]?=some t->∀xs∈t.bs,xs.length=c.batch
structure Kp (A B:AR):Prop where
 n:B.n=A.n
 tb:B.tb=A.tb
 room:B.room=A.room
 z:∀p,B.f p=0↔A.f p=0
 t:∀p,B.f p=3->A.f p=3
theorem Kp.refl (A:AR):Kp A A:=⟨rfl,rfl,rfl,λ_=>Iff.rfl,λ_=>id⟩
theorem Kp.trans {A B C:AR}(h:Kp A B)(k:Kp B C):Kp A C:=⟨k.n.trans h.n,k.tb.trans h.tb,k.room.trans h.room,λp=>(k.z p).trans (h.z p),λp a=>h.t p (k.t p a)⟩
theorem Kp.aG {A B:AR}(e1:B.n=A.n)(e2:B.tb=A.tb)(e3:B.room=A.room)(e4:B.st=A.st):Kp A B:=⟨e1,e2,e3,λp=>by unfold AR.f;rw[e4],λp=>by unfold AR.f;rw[e4];exact id⟩
variable {A:AR}{k:Nat}{c:cA}{ss:List cH}
theorem Cl.lt (h:Cl A k c ss):k<A.tb.length:=(cY.1 h.1).1
theorem Cl.eq {c':cA}{ss':List cH}(h:Cl A k c ss)(h':Cl A k c' ss'):c=c'/\ss=ss':=⟨Option.some.inj (h.1.symm.trans h'.1),Option.some.inj (h.2.symm.trans h'.2)⟩
theorem GA.cl (h:GA A){k:Nat}(hk:k<A.tb.length):∃c ss t,Cl A k c ss/\A.cR[k]?=some t:=by
 have a:=h.lc;have b:=h.lt;exact⟨A.tb[k],A.cG[k],A.cR[k],⟨by simp,by simp⟩,by simp⟩
theorem GA.used (h:GA A)(hk:Cl A k c ss){s:cH}(hs:s∈ss){p:Nat}(h1:s.st<=p)(h2:p<s.st+c.aG):A.f p=1/\A.ow p=k+1:=by
 have:=(h.ow k c ss hk p).2 ⟨s,hs,h1,h2⟩;exact⟨(h.pg.us p).2 O,this⟩
theorem GA.jD (h:GA A){r:Nat×Nat}(hr:r∈A.runs){p:Nat}(h1:r.1<=p)(h2:p<r.1+r.2):A.f p=1/\A.ow p=41:=by
 have:=(h.jX p).2 ⟨r,hr,h1,h2⟩;exact⟨(h.pg.us p).2 O,this⟩
theorem GA.gV (h:GA A){r s:Nat×Nat}(hr:r∈A.runs)(hs:s∈A.runs){x:Nat}(h1:r.1<=x)(h2:x<r.1+r.2)(h3:s.1<=x)(h4:x<s.1+s.2):r=s:=by
 obtain⟨i,hi⟩:=zP hr;obtain⟨j,d⟩:=zP hs;obtain⟨a,rfl⟩:=cY.1 hi;obtain⟨b,rfl⟩:=cY.1 d;rcases qQ i j with hl|hl|hl
 .have:=mB.1 h.kQ i j a b hl;omega
 .subst hl;rfl
 .have:=mB.1 h.kQ j i b a hl;omega
theorem GA.fit (h:GA A){r:Nat×Nat}(hr:r∈A.runs):r.1+r.2<=A.n:=by
 have:=h.gU r hr;have:=h.pg.lt (p:=r.1+r.2-1) (by rw[(h.jD hr (p:=r.1+r.2-1) O O).1];omega);omega
theorem GA.pS (h:GA A):iT A:=by
 have u:=h.pg.n2;refine⟨λr b s j x d g i p=>h.gV b j d g i p,λx m a=>?_,λx m w a=>?_,λr b=>?_⟩
 .obtain⟨r,b,d,g⟩:=(h.jX x).1 a;unfold sO;rw[Br];exact⟨r,b,by simp[d,g]⟩
 .rcases h.sM x with e|e
  .exact(a e).elim
  .exact e
 .have:=h.fit b;omega
theorem U0 (hk:Cl A k c ss){ss':List cH}{j:Nat}{d:cA}{tt:List cH}(h:Cl {A with cG:=A.cG.set k ss'} j d tt):(j=k/\d=c/\tt=ss')\/(j≠k/\Cl A j d tt):=by
 obtain⟨b,a⟩:=h;by_cases hjk:j=k
 .subst hjk;have g:=(cY.1 hk.2).1;simp only[zO g]at a;exact .inl ⟨rfl,Option.some.inj (b.symm.trans hk.1),(Option.some.inj a).symm⟩
 .simp only[zh (Ne.symm hjk)]at a;exact .inr ⟨hjk,b,a⟩
theorem Hz (hk:Cl A k c ss)(ss':List cH):Cl {A with cG:=A.cG.set k ss'} k c ss':=⟨hk.1,zO (cY.1 hk.2).1⟩
theorem Δ {ss':List cH}{j:Nat}{d:cA}{tt:List cH}(hjk:j≠k)(h:Cl A j d tt):Cl {A with cG:=A.cG.set k ss'} j d tt:=⟨h.1,(zh (Ne.symm hjk)).trans h.2⟩
theorem GA.lC (h:GA A)(hk:Cl A k c ss){ss':List cH}(hC:dJ c ss')(hst:ss'.map (·.st)=ss.map (·.st))(ht:∀t,A.cR[k]?=some t->∀x∈t.bs.flatten,Tk c ss' x):GA {A with cG:=A.cG.set k ss'}:=by
 refine⟨h.pg.same rfl rfl rfl rfl,h.tb,by simp[h.lc],h.lt,λj d b a=>?_,λj d b a s i=>?_,λj d b a p=>?_,h.jX,h.sM,h.gU,h.kQ,h.qF,λj d b t a g=>?_,h.pZ⟩
 .rcases U0 hk a with⟨rfl,rfl,rfl⟩|⟨hne,a⟩
  .exact hC
  .exact h.cG j d b a
 .rcases U0 hk a with⟨rfl,rfl,rfl⟩|⟨hne,a⟩
  .have:s.st∈ss.map (·.st):=by rw[←hst];exact zE.2 ⟨s,i,rfl⟩
   obtain⟨t,ht,e⟩:=zE.1 this;rw[←e];exact h.one _ _ _ hk t ht
  .exact h.one j d b a s i
 .rcases U0 hk a with⟨rfl,rfl,rfl⟩|⟨hne,a⟩
  .rw[Rx hst];exact h.ow _ _ _ hk p
  .exact h.ow j d b a p
 .rcases U0 hk a with⟨rfl,rfl,rfl⟩|⟨hne,a⟩
  .exact ht t g
  .exact h.mF j d b t a g
theorem Ba (hk:Cl A k c ss){ss':List cH}{j:Nat}{x:Int}:fW {A with cG:=A.cG.set k ss'} j x↔(j=k/\Tk c ss' x)\/(j≠k/\fW A j x):=by
 constructor
 .rintro⟨d,tt,hj,hx⟩;rcases U0 hk hj with⟨rfl,rfl,rfl⟩|⟨hne,hj⟩
  .exact .inl ⟨rfl,hx⟩
  .exact .inr ⟨hne,d,tt,hj,hx⟩
 .rintro(⟨rfl,hx⟩|⟨hne,d,tt,hj,hx⟩)
  .exact⟨c,ss',Hz hk ss',hx⟩
  .exact⟨d,tt,Δ hne hj,hx⟩
theorem VO (hk:Cl A k c ss){x:Int}:fW A k x↔Tk c ss x:=by
 constructor
 .rintro⟨d,tt,hj,hx⟩;obtain⟨rfl,rfl⟩:=hk.eq hj;exact hx
 .intro hx;exact⟨c,ss,hk,hx⟩
def swp (A:AR)(k:Nat)(c:cA)(ss:List cH):AR:=UK {A with cG:=A.cG.set k (cK ss)} ((QW ss).map λs=>(s,c.aG))
theorem C8 {p:Nat}:mS ((QW ss).map λs=>(s,c.aG)) p↔∃x∈QW ss,x<=p/\p<x+c.aG:=by
 unfold mS;simp only[zE];constructor
 .rintro⟨_,⟨x,hx,rfl⟩,h⟩;exact⟨x,hx,h⟩
 .rintro⟨x,hx,h⟩;exact⟨_,⟨x,hx,rfl⟩,h⟩
theorem GA.ke (h:GA A)(hk:Cl A k c ss){x:Nat}(hx:x∈QW ss){p:Nat}(h1:x<=p)(h2:p<x+c.aG):A.f p=1/\A.ow p=k+1:=by
 obtain⟨s,a,_,rfl⟩:=CR.1 hx;exact h.used hk a h1 h2
theorem GA.rz (h:GA A)(hk:Cl A k c ss):tM {A with cG:=A.cG.set k (cK ss)} (swp A k c ss) ((QW ss).map λs=>(s,c.aG)):=by
 have i:=h.cG k c ss hk;refine Jx _ (h.pg.same rfl rfl rfl rfl) (λr d=>?_) (λr d p j u=>?_) ?_
 .obtain⟨x,_,rfl⟩:=zE.1 d;exact i.pg
 .obtain⟨x,m,rfl⟩:=zE.1 d;exact(h.ke hk m j u).1
 .rw[td];exact(χ i).imp λ{a b} g=>.inl g
theorem GA.swp (h:GA A)(hk:Cl A k c ss):GA (Go.Ar.swp A k c ss):=by
 have b:=h.rz hk;have w:=h.cG k c ss hk;have z:=hk.lt;have C:=h.tb;have cl:∀{j d m},Cl (Go.Ar.swp A k c ss) j d m->(j=k/\d=c/\m=cK ss)\/(j≠k/\Cl A j d m):=λ{j d m} a=>U0 hk ⟨by rw[←b.tb];exact a.1,by rw[←b.cG];exact a.2⟩;have own:∀p,mS ((QW ss).map λs=>(s,c.aG)) p->A.ow p=k+1:=λp g=>by
  obtain⟨x,u,E,B⟩:=C8.1 g;exact(h.ke hk u E B).2
 have cR:(Go.Ar.swp A k c ss).cR=A.cR:=b.cR;have tb:(Go.Ar.swp A k c ss).tb=A.tb:=b.tb;have runs:(Go.Ar.swp A k c ss).runs=A.runs:=b.runs;refine⟨b.pg,by rw[tb];exact h.tb,by rw[b.cG,tb];simp[h.lc],by rw[cR,tb];exact h.lt,λj d m a=>?_,λj d m a s y=>?_,λj d m a p=>?_,λp=>?_,λp=>?_,by rw[runs];exact h.gU,by rw[runs];exact h.kQ,by rw[cR];exact h.qF,λj d m t a r=>?_,by rw[cR,tb];exact h.pZ⟩
 .rcases cl a with⟨rfl,rfl,rfl⟩|⟨hne,a⟩
  .exact w.cK
  .exact h.cG j d m a
 .rcases cl a with⟨rfl,rfl,rfl⟩|⟨hne,a⟩
  .exact h.one _ _ _ hk s (zK.1 y).1
  .exact h.one j d m a s y
 .by_cases g:mS ((QW ss).map λs=>(s,c.aG)) p
  .rw[(b.i p g).2];have D:=own p g;rcases cl a with⟨rfl,rfl,rfl⟩|⟨hne,a⟩
   .rw[Iz w];constructor
    .intro e;omega
    .rintro⟨_,hn⟩;exact(hn (C8.1 g)).elim
   .rw[←h.ow j d m a p,D];omega
  .rw[(b.o p g).2];rcases cl a with⟨rfl,rfl,rfl⟩|⟨hne,a⟩
   .rw[Iz w];show A.ow p=_↔_;rw[h.ow _ _ _ hk p];exact⟨λu=>⟨u,λF=>g (C8.2 F)⟩,λu=>u.1⟩
   .exact h.ow j d m a p
 .rw[runs];by_cases g:mS ((QW ss).map λs=>(s,c.aG)) p
  .rw[(b.i p g).2,←h.jX,own p g];omega
  .rw[(b.o p g).2];exact h.jX p
 .rw[tb];by_cases g:mS ((QW ss).map λs=>(s,c.aG)) p
  .rw[(b.i p g).2];omega
  .rw[(b.o p g).2];exact h.sM p
 .rw[cR]at r;rcases cl a with⟨rfl,rfl,rfl⟩|⟨hne,a⟩
  .intro x u;exact(EZ w).2 (h.mF _ _ _ t hk r x u)
  .exact h.mF j d m t a r
theorem GA.Ea (h:GA A)(hk:Cl A k c ss):Kp A (Go.Ar.swp A k c ss):=by
 have b:=h.rz hk;refine⟨b.n,b.tb,b.room,b.z,λp a=>?_⟩;by_cases hi:mS ((QW ss).map λs=>(s,c.aG)) p
 .rw[(b.i p hi).1]at a;omega
 .rw[(b.o p hi).1]at a;exact a
theorem GA.DP (h:GA A)(hk:Cl A k c ss){j:Nat}{x:Int}:fW (Go.Ar.swp A k c ss) j x↔fW A j x:=by
 have b:=h.rz hk;have a:=h.cG k c ss hk;have e:fW (Go.Ar.swp A k c ss) j x↔fW {A with cG:=A.cG.set k (cK ss)} j x:=by unfold fW Cl;rw[b.tb,b.cG]
 rw[e,Ba hk,EZ a];constructor
 .rintro(⟨rfl,hx⟩|⟨_,hx⟩)
  .exact(VO hk).2 hx
  .exact hx
 .intro hx;by_cases hjk:j=k
  .subst hjk;exact .inl ⟨rfl,(VO hk).1 hx⟩
  .exact .inr ⟨hjk,hx⟩
theorem Gb {k:Int}:A.ck k=true↔∃j:Nat,k=j/\j<A.tb.length:=by
 unfold AR.ck;simp only[zF,zV];constructor
 .intro h;exact⟨k.toNat,O,O⟩
 .rintro⟨j,rfl,h⟩;omega
structure Ob (A B:AR):Prop where
 ga:GA B
 kp:Kp A B
 runs:B.runs=A.runs
theorem Jq (h:GA A)(k m:Int):Ob A (YV A k m)/\(YV A k m).cR=A.cR/\(YB A k m).Nodup/\(YB A k m≠[]->∃j:Nat,k=j/\j<A.tb.length)/\(∀x∈YB A k m,¬fW A k.toNat (x:Int)) ∧
 ∀j y,fW (YV A k m) j y↔fW A j y\/(j=k.toNat/\∃x∈YB A k m,y=((x:Nat):Int)):=by
 by_cases h0:Kc A k m=0
 .have r:A.ck k=true:=by
   unfold Kc at h0;split at h0
   .assumption
   .cases h0
  obtain⟨j,rfl,s⟩:=Gb.1 r;obtain⟨c,ss,t,b,E⟩:=h.cl s;have u:V1 A (j:Int) m=KJ c m.toNat ss:=by unfold V1;rw[dH,b.1,b.2]
  have p:YV A (j:Int) m = {A with cG:=A.cG.set j (KJ c m.toNat ss).2}:=by unfold YV;rw[zC h0,u,dH]
  have g:YB A (j:Int) m=(KJ c m.toNat ss).1:=by unfold YB;rw[zC h0,u]
  rw[p,g];obtain⟨s1,s2,D,C,B,w⟩:=GO m.toNat (h.cG j c ss b);refine⟨⟨h.lC b s1 s2 λz d x a=>(w x).2 (.inr (h.mF j c ss z b d x a)),Kp.aG rfl rfl rfl rfl,rfl⟩,rfl,C,λ_=>⟨j,rfl,s⟩,λx a=>?_,λi y=>?_⟩
  .rw[dH,VO b];exact B x a
  .rw[Ba b,w,dH];by_cases hij:i=j
   .subst hij;rw[VO b];constructor
    .rintro(⟨_,a|a⟩|⟨a,_⟩)
     .exact .inr ⟨rfl,a⟩
     .exact .inl a
     .exact(a rfl).elim
    .rintro(a|⟨_,a⟩)
     .exact .inl ⟨rfl,.inr a⟩
     .exact .inl ⟨rfl,.inl a⟩
   .constructor
    .rintro(⟨a,_⟩|⟨_,a⟩)
     .exact(hij a).elim
     .exact .inl a
    .rintro(a|⟨a,_⟩)
     .exact .inr ⟨hij,a⟩
     .exact(hij a).elim
 .have p:YV A k m=A:=by unfold YV;rw[zB h0]
  have g:YB A k m=[]:=by unfold YB;rw[zB h0]
  rw[p,g];exact⟨⟨h,Kp.refl A,rfl⟩,rfl,vd,by simp,by simp,by simp⟩
theorem IA {xs:List Int}(h:kO c ss xs):iI c ss xs=0:=by
 unfold iI;have a:xs.any (λx=>(eD c ss x).isNone)=false:=by
  rw[mG];intro x hx;rw[h.1 x hx];simp
 have b:xs.any (λx=>eD c ss x==some false)=false:=by
  rw[mG];intro x hx;rw[h.1 x hx];simp
 rw[a,b,zI h.2];rfl
theorem Gw (h:GA A)(hk:Cl A k c ss)(xs:List Int):Kv A (k:Int) xs=iI c ss xs:=by
 unfold Kv;rw[Gb.2 ⟨k,rfl,hk.lt⟩,zC rfl,dH,hk.1,hk.2]
theorem C9 (h:GA A){k:Int}{xs:List Int}(h0:Kv A k xs=0):∃(j:Nat) (c:cA) (ss:List cH),k=j/\Cl A j c ss/\kO c ss xs:=by
 have a:A.ck k=true:=by
  unfold Kv at h0;split at h0
  .assumption
  .cases h0
 obtain⟨j,rfl,d⟩:=Gb.1 a;obtain⟨c,ss,t,b,g⟩:=h.cl d;rw[Gw h b]at h0;exact⟨j,c,ss,rfl,b,FA h0⟩
theorem Bw (h:GA A){k:Int}{xs:List Int}(hd:Kv A k xs=0->∀x∈xs,¬ic A k.toNat x):Ob A (ZY A k xs)/\(ZY A k xs).cR=A.cR ∧
 (Kv A k xs=0->∀j y,fW (ZY A k xs) j y↔fW A j y/\¬(j=k.toNat/\y∈xs))/\(Kv A k xs≠0->ZY A k xs=A):=by
 by_cases h0:Kv A k xs=0
 .obtain⟨j,c,m,rfl,g,B⟩:=C9 h h0;obtain⟨C,z,w⟩:=IW xs (h.cG j c m g) B;have r:=h.lC g C z λt u x a=>(w x).2 ⟨h.mF j c m t g u x a,λE=>hd h0 x E ⟨t,by rw[dH];exact u,a⟩⟩;have d:=Hz g (xs.foldl (fM c) m);have s:ZY A (j:Int) xs=swp {A with cG:=A.cG.set j (xs.foldl (fM c) m)} j c (xs.foldl (fM c) m):=by
   unfold ZY swp;rw[zC h0,dH,g.1,g.2];simp only[nT]
  have b:=r.rz d;rw[s];refine⟨⟨r.swp d,(Kp.aG rfl rfl rfl rfl:Kp A {A with cG:=A.cG.set j (xs.foldl (fM c) m)}).trans (r.Ea d),b.runs⟩,b.cR,λ_ i y=>?_,λD=>(D h0).elim⟩;rw[r.DP d,Ba g,w,dH];by_cases hij:i=j
  .subst hij;rw[VO g];constructor
   .rintro(⟨_,a,hy⟩|⟨a,_⟩)
    .exact⟨a,λp=>hy p.2⟩
    .exact(a rfl).elim
   .rintro⟨a,hy⟩;exact .inl ⟨rfl,a,λp=>hy ⟨rfl,p⟩⟩
  .constructor
   .rintro(⟨a,_⟩|⟨_,a⟩)
    .exact(hij a).elim
    .exact⟨a,λp=>hij p.1⟩
   .rintro⟨a,_⟩;exact .inr ⟨hij,a⟩
 .have s:ZY A k xs=A:=by unfold ZY;rw[zB h0]
  rw[s];exact⟨⟨h,Kp.refl A,rfl⟩,rfl,λa=>(h0 a).elim,λ_=>rfl⟩
theorem GA.j9 (h:GA A){k:Nat}{t':gQ}(h1:t'.bs.flatten.Nodup)(h2:∀x∈t'.bs.flatten,fW A k x)(h3:∀c,A.tb[k]?=some c->∀xs∈t'.bs,xs.length=c.batch):GA {A with cR:=A.cR.set k t'}:=by
 have get:∀{j t},(A.cR.set k t')[j]?=some t->(j=k/\t=t')\/(j≠k/\A.cR[j]?=some t):=by
  intro j t a;by_cases hjk:j=k
  .subst hjk;have g:j<A.cR.length:=by have:=(cY.1 a).1;simpa using this
   rw[zO g]at a;exact .inl ⟨rfl,(Option.some.inj a).symm⟩
  .rw[zh (Ne.symm hjk)]at a;exact .inr ⟨hjk,a⟩
 refine⟨h.pg.same rfl rfl rfl rfl,h.tb,h.lc,by simp[h.lt],h.cG,h.one,h.ow,h.jX,h.sM,h.gU,h.kQ,λj t a=>?_,λj c i t b a x d=>?_,λj c t b a=>?_⟩
 .rcases get a with⟨rfl,rfl⟩|⟨_,a⟩
  .exact h1
  .exact h.qF j t a
 .rcases get a with⟨rfl,rfl⟩|⟨_,a⟩
  .exact(VO b).1 (h2 x d)
  .exact h.mF j c i t b a x d
 .rcases get a with⟨rfl,rfl⟩|⟨_,a⟩
  .exact h3 c b
  .exact h.pZ j c t b a
theorem Be {t':gQ}{j:Nat}{x:Int}(hk:k<A.cR.length):ic {A with cR:=A.cR.set k t'} j x↔(j=k/\x∈t'.bs.flatten)\/(j≠k/\ic A j x):=by
 by_cases hjk:j=k
 .subst hjk;have a:(A.cR.set j t')[j]?=some t':=zO hk;constructor
  .rintro⟨t,e,hx⟩;have e:(A.cR.set j t')[j]?=some t:=e;rw[a]at e;cases e;exact .inl ⟨rfl,hx⟩
  .rintro(⟨_,hx⟩|⟨hx,_⟩)
   .exact⟨_,a,hx⟩
   .exact(hx rfl).elim
 .have a:(A.cR.set k t')[j]?=A.cR[j]? := zh (Ne.symm hjk);constructor
  .rintro⟨t,e,hx⟩;have e:(A.cR.set k t')[j]?=some t:=e;rw[a]at e;exact .inr ⟨hjk,t,e,hx⟩
  .rintro(⟨hx,_⟩|⟨_,t,e,hx⟩)
   .exact(hjk hx).elim
   .exact⟨t,a.trans e,hx⟩
theorem GZ {t:gQ}(ht:A.cR[k]?=some t){x:Int}:ic A k x↔x∈t.bs.flatten:=by
 constructor
 .rintro⟨t',e,hx⟩;rw[ht]at e;cases e;exact hx
 .intro hx;exact⟨t,ht,hx⟩
theorem F9 (h:GA A)(k:Int):Ob A (Z0 A k)/\(∀j y,fW (Z0 A k) j y↔fW A j y)/\(∀x∈YR A k,ic A k.toNat x)/\(YR A k).Nodup/\(YR A k≠[]->∃j:Nat,k=j/\j<A.tb.length) ∧
 ∀j y,ic (Z0 A k) j y↔ic A j y/\¬(j=k.toNat/\y∈YR A k):=by
 by_cases h0:QD A k=0
 .have r:A.ck k=true:=by
   unfold QD at h0;split at h0
   .assumption
   .cases h0
  obtain⟨j,rfl,B⟩:=Gb.1 r;obtain⟨c,J,t,E,g⟩:=h.cl B;have hne:t.bs≠[]:=by
   intro e;unfold QD at h0;rw[r,zC rfl,dH,g]at h0;simp[e]at h0
  have u:Z0 A (j:Int) = {A with cR:=A.cR.set j t.rem}:=by unfold Z0;rw[zC h0,dH,VE g]
  have C:YR A (j:Int)=t.bs.getLast?.getD []:=by unfold YR;rw[zC h0,dH,g]
  have z:t.bs=t.bs.dropLast++[t.bs.getLast hne]:=(List.dropLast_concat_getLast hne).symm;have F:YR A (j:Int)=t.bs.getLast hne:=by rw[C,List.getLast?_eq_some_getLast hne];rfl
  have d:t.bs.flatten=t.bs.dropLast.flatten++t.bs.getLast hne:=by
   conv=>lhs;rw[z]
   simp
  have p:=h.qF j t g;rw[d]at p;have b:=m9.1 p;have m:t.rem.bs=t.bs.dropLast:=rfl;rw[u,F];refine⟨⟨h.j9 (by rw[m];exact b.1) (λx a=>(VO E).2 (h.mF j c J t E g x (by rw[d];exact kN _ a))) λH w G D=>h.pZ j H t w g G ((List.dropLast_sublist _).subset D),Kp.aG rfl rfl rfl rfl,rfl⟩,λ_ _=>Iff.rfl,λx a=>?_,b.2.1,λ_=>⟨j,rfl,B⟩,λi y=>?_⟩
  .rw[dH,GZ g,d];exact oP _ a
  .rw[Be (by rw[h.lt];exact B),m,dH];by_cases hij:i=j
   .subst hij;rw[GZ g,d,zJ];constructor
    .rintro(⟨_,a⟩|⟨a,_⟩)
     .exact⟨.inl a,λs=>b.2.2 y a y s.2 rfl⟩
     .exact(a rfl).elim
    .rintro⟨a|a,s⟩
     .exact .inl ⟨rfl,a⟩
     .exact(s ⟨rfl,a⟩).elim
   .constructor
    .rintro(⟨a,_⟩|⟨_,a⟩)
     .exact(hij a).elim
     .exact⟨a,λs=>hij s.1⟩
    .rintro⟨a,_⟩;exact .inr ⟨hij,a⟩
 .have u:Z0 A k=A:=by unfold Z0;rw[zB h0]
  have C:YR A k=[]:=by unfold YR;rw[zB h0]
  rw[u,C];exact⟨⟨h,Kp.refl A,rfl⟩,λ_ _=>Iff.rfl,by simp,vd,by simp,by simp⟩
theorem M4 (h:GA A)(k:Int){xs:List Int}(hn:xs.Nodup)(hd:∀x∈xs,¬ic A k.toNat x):Ob A (KH A k xs)/\(∀j y,fW (KH A k xs) j y↔fW A j y) ∧
 (VR A k xs=true->(∃j:Nat,k=j/\j<A.tb.length)/\(∀x∈xs,fW A k.toNat x)/\∀j y,ic (KH A k xs) j y↔ic A j y\/(j=k.toNat/\y∈xs))/\(VR A k xs=false->KH A k xs=A):=by
 by_cases h0:VR A k xs=true
 .have C:HY A k xs=0:=by
   unfold VR at h0;simp only[zF,zV]at h0;exact h0.1
  have z:A.ck k=true:=by
   unfold HY at C;split at C
   .assumption
   .cases C
  obtain⟨j,rfl,D⟩:=Gb.1 z;obtain⟨c,F,t,u,s⟩:=h.cl D;have m:=C;unfold HY at m;rw[z,zC rfl,dH,u.1,u.2]at m;simp only at m;have p:xs.length=c.batch:=by
   apply Classical.byContradiction;intro d;rw[zB d]at m;cases m
  rw[zC p]at m;have w:∀x∈xs,fW A j x:=by
   intro x d;split at m
   .rename_i B;rw[kF]at B;rw[VO u];simpa[Tk]using B x d
   .cases m
  have E:KH A (j:Int) xs = {A with cR:=A.cR.set j {t with bs:=t.bs++[xs]}}:=by unfold KH;rw[zC h0,dH,VE s]
  have r:(t.bs++[xs]).flatten=t.bs.flatten++xs:=by simp
  rw[E];refine⟨⟨h.j9 ?_ ?_ ?_,Kp.aG rfl rfl rfl rfl,rfl⟩,λ_ _=>Iff.rfl,λ_=>⟨⟨j,rfl,D⟩,by rw[dH];exact w,λi y=>?_⟩,λH=>by rw[H]at h0;cases h0⟩
  .show(t.bs++[xs]).flatten.Nodup;rw[r,m9];exact⟨h.qF j t s,hn,λa B b G e=>hd b G (by subst e;rw[dH,GZ s];exact B)⟩
  .intro x d;have d:x∈(t.bs++[xs]).flatten:=d;rw[r,zJ]at d;rcases d with d|d
   .exact(VO u).2 (h.mF j c F t u s x d)
   .exact w x d
  .intro c' hc' ys g;have g:ys∈t.bs++[xs]:=g;rcases zJ.1 g with g|g
   .exact h.pZ j c' t hc' s ys g
   .simp only[zN]at g;rw[u.1]at hc';cases hc';rw[g];exact p
  .rw[Be (by rw[h.lt];exact D),dH];show(i=j/\y∈(t.bs++[xs]).flatten)\/_↔_;rw[r,zJ];by_cases hij:i=j
   .subst hij;rw[GZ s];constructor
    .rintro(⟨_,d|d⟩|⟨d,_⟩)
     .exact .inl d
     .exact .inr ⟨rfl,d⟩
     .exact(d rfl).elim
    .rintro(d|⟨_,d⟩)
     .exact .inl ⟨rfl,.inl d⟩
     .exact .inl ⟨rfl,.inr d⟩
   .constructor
    .rintro(⟨d,_⟩|⟨_,d⟩)
     .exact(hij d).elim
     .exact .inl d
    .rintro(d|⟨d,_⟩)
     .exact .inr ⟨hij,d⟩
     .exact(hij d).elim
 .have E:KH A k xs=A:=by unfold KH;rw[zB h0]
  rw[E];exact⟨⟨h,Kp.refl A,rfl⟩,λ_ _=>Iff.rfl,λd=>(h0 d).elim,λ_=>rfl⟩
end Go.Ar
namespace Go.Ar
open Go.Bu (ZF Kj ZD qJ VI dF take KX Vq Bounded full can YW U7 Z1 Ko Qc WW Kn QI UF HB lj)
variable {A:AR}{sp:Sp}{k:Nat}{c:cA}{ss:List cH}
structure Ow (A:AR) (sp:Sp):Prop where
 l:sp.st.length=A.n
 own:∀p,A.f p≠0->gf sp.st p≠0
 cl:∀p,A.f p=3->gf sp.st p=1
 le:∀p,gf sp.st p<=2
structure St (A B:AR) (sp sp':Sp):Prop where
 ga:GA B
 ow:Ow B sp'
 n:B.n=A.n
 tb:B.tb=A.tb
 room:B.room=A.room
 same:∀p,A.f p=0->B.f p=0->gf sp'.st p=gf sp.st p
 gone:∀p,A.f p≠0->B.f p=0->gf sp'.st p=0
 new:∀p,A.f p=0->B.f p≠0->gf sp.st p=0/\16<=p
theorem St.refl (h:GA A)(hw:Ow A sp):St A A sp sp:=⟨h,hw,rfl,rfl,rfl,λ_ _ _=>rfl,λp a b=>(a b).elim,λp a b=>(b a).elim⟩
theorem Ow.len {B C:AR}{sp sp':Sp}(h:Ow B sp)(k:Ow C sp')(e:C.n=B.n):sp'.st.length=sp.st.length:=by rw[h.l,k.l,e]
theorem St.trans {B C:AR}{sp' sp'':Sp}(h:St A B sp sp')(k:St B C sp' sp''):St A C sp sp'':=by
 refine⟨k.ga,k.ow,k.n.trans h.n,k.tb.trans h.tb,k.room.trans h.room,λp b a=>?_,λp b a=>?_,λp b a=>?_⟩
 .by_cases hB:B.f p=0
  .rw[k.same p hB a,h.same p b hB]
  .rw[k.gone p hB a,(h.new p b hB).1]
 .by_cases hB:B.f p=0
  .rw[k.same p hB a,h.gone p b hB]
  .exact k.gone p hB a
 .by_cases hB:B.f p=0
  .have:=k.new p hB a;rw[h.same p b hB]at this;exact this
  .exact h.new p b hB
theorem Ow.kp {B:AR}(hw:Ow A sp)(h:Kp A B):Ow B sp:=⟨hw.l.trans h.n.symm,λp a=>hw.own p λe=>a ((h.z p).2 e),λp a=>hw.cl p (h.t p a),hw.le⟩
theorem St.kp {B:AR}(hg:GA B)(hw:Ow A sp)(h:Kp A B):St A B sp sp:=
 ⟨hg,hw.kp h,h.n,h.tb,h.room,λ_ _ _=>rfl,λp a b=>(a ((h.z p).1 b)).elim,λp a b=>(b ((h.z p).2 a)).elim⟩
theorem Ob.st {B:AR}(o:Ob A B)(hw:Ow A sp):St A B sp sp:=St.kp o.ga hw o.kp
theorem GA.grown (h:GA A){B:AR}{sp':Sp}{s size:Nat}(g:Grown A B sp sp' s size):GA B:=by
 have e:∀{j d tt},Cl B j d tt↔Cl A j d tt:=λ{j d tt}=>by unfold Cl;rw[g.tb,g.cG]
 exact⟨g.pg,by rw[g.tb];exact h.tb,by rw[g.cG,g.tb];exact h.lc,by rw[g.cR,g.tb];exact h.lt,λj d tt a=>h.cG j d tt (e.1 a),λj d tt a=>h.one j d tt (e.1 a),λj d tt a p=>by rw[g.ow];exact h.ow j d tt (e.1 a) p,
  λp=>by rw[g.ow,g.runs];exact h.jX p,λp=>by rw[g.ow,g.tb];exact h.sM p,by rw[g.runs];exact h.gU,by rw[g.runs];exact h.kQ,by rw[g.cR];exact h.qF,λj d tt t a b=>h.mF j d tt t (e.1 a) (by rw[←g.cR];exact b),by rw[g.tb,g.cR];exact h.pZ⟩
theorem Grown.st (h:GA A)(hw:Ow A sp){B:AR}{sp':Sp}{s size:Nat}(g:Grown A B sp sp' s size):St A B sp sp':=by
 have b:∀p,B.f p≠A.f p->s<=p/\p<s+size:=λp a=>by
  apply Classical.byContradiction;intro hn;exact a (g.o p hn).1
 refine⟨h.grown g,⟨g.l.trans (hw.l.trans g.n.symm),λp a=>?_,λp a=>?_,λp=>?_⟩,g.n,g.tb,g.room,λp j d=>?_,λp j d=>?_,λp j d=>?_⟩
 .by_cases hi:s<=p/\p<s+size
  .rw[(g.i p hi.1 hi.2).2];omega
  .rw[(g.o p hi).2];rw[(g.o p hi).1]at a;exact hw.own p a
 .by_cases hi:s<=p/\p<s+size
  .rw[(g.i p hi.1 hi.2).2]
  .rw[(g.o p hi).2];rw[(g.o p hi).1]at a;exact hw.cl p a
 .by_cases hi:s<=p/\p<s+size
  .rw[(g.i p hi.1 hi.2).2];omega
  .rw[(g.o p hi).2];exact hw.le p
 .refine(g.o p λhi=>?_).2;rw[(g.i p hi.1 hi.2).1]at d;omega
 .have:=b p O;rw[(g.i p this.1 this.2).1]at d;omega
 .have:=b p O;exact⟨g.un p this.1 this.2,by have:=g.s1;omega⟩
theorem φ {n:Nat}{S:Nat->Bool}(hb:Bounded S n)(hn:n<=1024){j q m a:Nat}(hf:full S j q=true)(hm:m<=2^j)(ha:a<=2^j):ZD n S m a≠none:=by
 intro h0;have s:S (q*2^j)=true:=YW.1 hf _ (CG _ (lb j));obtain⟨i,hi⟩:=U7 hb s;have g:j<=i:=by
  apply Classical.byContradiction;intro hlt;exact Ko hi hf rfl (CG _ (lb j)) O
 have r:=Qc hb (Z1.1 hi).1;have d:i<11:=by
  apply Classical.byContradiction;intro hge;have:2^11<=2^i:=pc O O;omega
 have p:2^j<=2^i:=pc O g;have:=HB h0 i d O O;have b:=(Kn hb (k:=i)).2 ⟨_,rfl,hi⟩;rw[this]at b;simp at b
theorem BY (m:Nat):KD m=16\/KD m=32\/KD m=64:=by
 unfold KD;split
 .exact .inl rfl
 .split
  .exact .inr (.inl rfl)
  .exact .inr (.inr rfl)
theorem N2 {m:Nat}(h:m<=64):m<=KD m:=by
 unfold KD;split
 .omega
 .split<;>omega
theorem FR (h:GA A)(hw:Ow A sp){m a no:Nat}(h1:1<=m)(h2:m<=64)(ha:1<=a/\a<=16) :
 (dC A sp m a no=(none,A,sp)/\ZD A.n A.S m a=none/\dB sp (KD (max m a))=none) ∨
 ∃x A1 sp1,dC A sp m a no=(some x,dU A1 x m no,sp1)/\ZD A1.n A1.S m a=some x/\(A1=A/\sp1=sp\/ZD A.n A.S m a=none/\∃s,dB sp (KD (max m a))=some s/\Grown A A1 sp sp1 s (KD (max m a))):=by
 cases ht:ZD A.n A.S m a with
 | some x=>exact .inr ⟨x,A,sp,by unfold dC;rw[ht],ht,.inl ⟨rfl,rfl⟩⟩
 | none=>
  cases hg:Hk A sp (KD (max m a))with
  | none=>
   refine .inl ⟨by unfold dC;rw[ht,hg],rfl,?_⟩;unfold Hk at hg;split at hg
   .assumption
   .cases hg
  | some r=>
   obtain⟨A1,sp1⟩:=r;obtain⟨s,u,g⟩:=NY h.pg hw.l (λp b=>Classical.byContradiction λz=>hw.own p z b) (BY _) hg;have d:ZD A1.n A1.S m a≠none:=by
    have B:=N2 (m:=max m a) O;obtain⟨_,_,⟨i,hi⟩,_⟩:=Hr (by have:=BY (max m a);omega) u;have key:∃j,KD (max m a)=2^j:=by
     rcases BY (max m a)with e|e|e
     .exact⟨4,e⟩
     .exact⟨5,e⟩
     .exact⟨6,e⟩
    obtain⟨j,y⟩:=key;refine φ g.pg.jH g.pg.n2 (j:=j) (q:=i) (YW.2 λp b=>?_) O O;rw[g.pg.fr];rw[QI,←y,←hi]at b;rw[(g.i p b.1 b.2).1];omega
   obtain⟨x,w⟩:=Option.ne_none_iff_exists'.1 d;exact .inr ⟨x,A1,sp1,by unfold dC;rw[ht,hg];simp only;rw[w],w,.inr ⟨rfl,s,u,g⟩⟩
theorem Jb (h:PG A){m a x:Nat}(hx:ZD A.n A.S m a=some x):∀p,x<=p->p<x+m->A.S p=true:=λp d b=>(lj h.jH hx).2 p d b
theorem Wj8 (h:PG A){m a x:Nat}(h1:1<=m)(h4:m<=4)(hx:ZD A.n A.S m a=some x):x/16=(x+m-1)/16:=by
 obtain⟨j,_,b,_,d,_⟩:=UF hx;obtain⟨q,rfl,g⟩:=(Kn h.jH).1 (List.mem_of_head? d)
 match j,b with
 | 0,b=>
  have:m=1:=O
  subst this;rfl
 | 1,b=>
  have:m<=2:=O
  simp only[Nat.pow_one]at *;omega
 | j+2,b=>
  have e:2^(j+2)=4*2^j:=by rw[Nat.pow_add];omega
  rw[e,←yB,Nat.mul_comm q 4,yB];generalize q*2^j=z;omega
theorem EB (h:PG A){a m no:Nat}(h1:1<=m)(hn:no≠0)(hS:∀p,a<=p->p<a+m->A.S p=true):Kp A (dU A a m no):=by
 obtain⟨o,hi,d,g⟩:=BU h h1 hn hS;refine⟨rfl,rfl,rfl,g,λp b=>?_⟩;by_cases hin:a<=p/\p<a+m
 .rw[(hi p hin.1 hin.2).1]at b;omega
 .rw[o.f p hin]at b;exact b
theorem GA.ri (h:GA A)(hk:Cl A k c ss){x:Nat}(hS:∀p,x<=p->p<x+c.aG->A.S p=true)(h1:x/16=(x+c.aG-1)/16) :
 GA {dU A x c.aG (k+1)with cG:=(dU A x c.aG (k+1)).cG.set k (ir c ss x)}/\(∀s∈ss,s.st+c.aG<=x\/x+c.aG<=s.st):=by
 have u:=h.cG k c ss hk;have m:=u.pg;have z:=hk.lt;have C:=h.tb;obtain⟨o,hi,pg,F⟩:=BU h.pg m (no:=k+1) O hS;have r:∀p,x<=p->p<x+c.aG->A.ow p=0:=λp D E=>by
  have B:=(h.pg.fr p).1 (hS p D E);apply Classical.byContradiction;intro hne;have:=(h.pg.us p).2 hne;omega
 have hd:∀s∈ss,s.st+c.aG<=x\/x+c.aG<=s.st:=λs b=>by
  apply Classical.byContradiction;intro hn;have B:=r (max x s.st) O O;have:=(h.used hk b (p:=max x s.st) O O).2;omega
 refine⟨?_,hd⟩;have g:Cl (dU A x c.aG (k+1)) k c ss:=hk;refine⟨pg.same rfl rfl rfl rfl,h.tb,by show(A.cG.set k _).length=_;simp[h.lc];rfl,h.lt,λj d i a=>?_,λj d i a s b=>?_,λj d i a p=>?_,λp=>?_,λp=>?_,h.gU,h.kQ,h.qF,λj d i t a w=>?_,h.pZ⟩
 .rcases U0 g a with⟨rfl,rfl,rfl⟩|⟨hne,a⟩
  .exact Lw u hd
  .exact h.cG j d i a
 .rcases U0 g a with⟨rfl,rfl,rfl⟩|⟨hne,a⟩
  .rcases VZ.1 b with rfl|b
   .exact h1
   .exact h.one _ _ _ hk s b
  .exact h.one j d i a s b
 .show(dU A x c.aG (k+1)).ow p=j+1↔_;by_cases hp:x<=p/\p<x+c.aG
  .rw[(hi p hp.1 hp.2).2];rcases U0 g a with⟨rfl,rfl,rfl⟩|⟨hne,a⟩
   .exact⟨λ_=>⟨_,VZ.2 (.inl rfl),hp.1,hp.2⟩,λ_=>rfl⟩
   .rw[←h.ow j d i a p,r p hp.1 hp.2];omega
  .rw[o.ow p hp];rcases U0 g a with⟨rfl,rfl,rfl⟩|⟨hne,a⟩
   .rw[h.ow _ _ _ hk p];constructor
    .rintro⟨s,b,h3⟩;exact⟨s,VZ.2 (.inr b),h3⟩
    .rintro⟨s,b,h3⟩;rcases VZ.1 b with rfl|b
     .exact(hp h3).elim
     .exact⟨s,b,h3⟩
   .exact h.ow j d i a p
 .show(dU A x c.aG (k+1)).ow p=41↔mS A.runs p;by_cases hp:x<=p/\p<x+c.aG
  .rw[(hi p hp.1 hp.2).2,←h.jX,r p hp.1 hp.2];omega
  .rw[o.ow p hp];exact h.jX p
 .show(dU A x c.aG (k+1)).ow p=41\/(dU A x c.aG (k+1)).ow p<=A.tb.length;by_cases hp:x<=p/\p<x+c.aG
  .rw[(hi p hp.1 hp.2).2];omega
  .rw[o.ow p hp];exact h.sM p
 .rcases U0 g a with⟨rfl,rfl,rfl⟩|⟨hne,a⟩
  .intro y hy;exact(F2 u hd).2 (h.mF _ _ _ t hk w y hy)
  .exact h.mF j d i t a w
theorem GA.ud (h:GA A){x m:Nat}(hm:1<=m)(hS:∀p,x<=p->p<x+m->A.S p=true):GA {dU A x m 41 with runs:=A.runs++[(x,m)]}:=by
 have y:=h.tb;obtain⟨o,hi,pg,B⟩:=BU h.pg hm (no:=41) O hS;have g:∀p,x<=p->p<x+m->A.ow p=0:=λp u z=>by
  have w:=(h.pg.fr p).1 (hS p u z);apply Classical.byContradiction;intro hne;have:=(h.pg.us p).2 hne;omega
 refine⟨pg.same rfl rfl rfl rfl,h.tb,h.lc,h.lt,h.cG,h.one,λj d tt b p=>?_,λp=>?_,λp=>?_,λr a=>?_,?_,h.qF,h.mF,h.pZ⟩
 .have b:Cl A j d tt:=b;have:=b.lt;show(dU A x m 41).ow p=j+1↔_;by_cases hp:x<=p/\p<x+m
  .rw[(hi p hp.1 hp.2).2,←h.ow j d tt b p,g p hp.1 hp.2];omega
  .rw[o.ow p hp];exact h.ow j d tt b p
 .show(dU A x m 41).ow p=41↔mS (A.runs++[(x,m)]) p;by_cases hp:x<=p/\p<x+m
  .rw[(hi p hp.1 hp.2).2];exact⟨λ_=>⟨(x,m),by simp,hp⟩,λ_=>rfl⟩
  .rw[o.ow p hp,h.jX];constructor
   .rintro⟨r,a,h3⟩;exact⟨r,by simp[a],h3⟩
   .rintro⟨r,a,h3⟩;rcases zJ.1 a with a|a
    .exact⟨r,a,h3⟩
    .simp only[zN]at a;subst a;exact(hp h3).elim
 .show(dU A x m 41).ow p=41\/(dU A x m 41).ow p<=A.tb.length;by_cases hp:x<=p/\p<x+m
  .rw[(hi p hp.1 hp.2).2];omega
  .rw[o.ow p hp];exact h.sM p
 .rcases zJ.1 a with a|a
  .exact h.gU r a
  .simp only[zN]at a;subst a;exact hm
 .refine qO.2 ⟨h.kQ,by simp,λr a s i=>?_⟩;simp only[zN]at i;subst i;apply Classical.byContradiction;intro hn;simp only at hn;have:=h.gU r a;have w:=g (max x r.1) O O;have:=(h.jD a (p:=max x r.1) O O).2;omega
theorem TQ {l:List (Nat×Nat)}{x m:Nat}(h:∀r∈l,r.1≠x):cC.mset2 l x m=l++[(x,m)]:=by
 unfold cC.mset2;rw[zB];simp only[zy,zU,not_exists,not_and];exact h
theorem EV (h:GA A)(hw:Ow A sp)(k:Int) :
 ((cQ A sp k=(A,sp))/\Vy A sp k≠0/\(A.ck k=true->Vy A sp k=6)) ∨
 ∃(j:Nat) (c:cA) (ss:List cH) (x:Nat) (A1:AR) (sp1:Sp),k=j/\Cl A j c ss/\Cl A1 j c ss/\Vy A sp k=0/\cQ A sp k=({dU A1 x c.aG (j+1)with cG:=(dU A1 x c.aG (j+1)).cG.set j (ir c ss x)},sp1) ∧
  St A A1 sp sp1/\A1.runs=A.runs/\A1.cR=A.cR/\A1.cG=A.cG/\ZD A1.n A1.S c.aG 1=some x/\(∀s∈ss,s.st+c.aG<=x\/x+c.aG<=s.st)/\St A (cQ A sp k).1 sp (cQ A sp k).2:=by
 by_cases hck:A.ck k=true
 .obtain⟨j,rfl,D⟩:=Gb.1 hck;obtain⟨c,ss,t,b,J⟩:=h.cl D;have F:=h.cG j c ss b;have y:=F.ok;unfold cA.ok at y;have E:=b.lt;rcases FR h hw (m:=c.aG) (a:=1) (no:=j+1) O O O with⟨hg,_⟩|⟨x,A1,sp1,hg,htk,hor⟩
  .left;have z:Vy A sp (j:Int)=6:=by unfold Vy;rw[hck,zC rfl,dH,b.1,b.2];simp only;rw[hg]
   have G:cQ A sp (j:Int)=(A,sp):=by unfold cQ;rw[hck,zC rfl,dH,b.1,b.2];simp only;rw[hg]
   rw[G,z];exact⟨rfl,by simp,λ_=>rfl⟩
  .right;have z:Vy A sp (j:Int)=oh c ss x:=by unfold Vy;rw[hck,zC rfl,dH,b.1,b.2];simp only;rw[hg]
   have w:GA A1:=by
    rcases hor with⟨rfl,rfl⟩|⟨_,s,_,g⟩
    .exact h
    .exact h.grown g
   have d:St A A1 sp sp1:=by
    rcases hor with⟨rfl,rfl⟩|⟨_,s,_,g⟩
    .exact St.refl h hw
    .exact g.st h hw
   have i:A1.runs=A.runs/\A1.cR=A.cR/\A1.cG=A.cG:=by
    rcases hor with⟨rfl,rfl⟩|⟨_,s,_,g⟩
    .exact⟨rfl,rfl,rfl⟩
    .exact⟨g.runs,g.cR,g.cG⟩
   have p:Cl A1 j c ss:=⟨by rw[d.tb];exact b.1,by rw[i.2.2];exact b.2⟩;have B:=Jb w.pg htk;obtain⟨H,hd⟩:=w.ri p B (Wj8 w.pg O O htk);have C:=Pz hd;have r:cQ A sp (j:Int)=({dU A1 x c.aG (j+1)with cG:=(dU A1 x c.aG (j+1)).cG.set j (ir c ss x)},sp1):=by
    unfold cQ;rw[hck,zC rfl,dH,b.1,b.2];simp only;rw[hg];simp only;rw[zC C]
   refine⟨j,c,ss,x,A1,sp1,rfl,b,p,by rw[z];exact C,r,d,i.1,i.2.1,i.2.2,htk,hd,?_⟩;rw[r];have kp:=EB w.pg (no:=j+1) O O B;exact d.trans (St.kp H d.ow (kp.trans (Kp.aG rfl rfl rfl rfl)))
 .left;have u:A.ck k=false:=by simpa using hck
  unfold cQ Vy;rw[u];exact⟨rfl,by simp,λh=>by cases h⟩
theorem WjR (h:GA A)(hw:Ow A sp)(k:Int):St A (cQ A sp k).1 sp (cQ A sp k).2/\(cQ A sp k).1.runs=A.runs/\(cQ A sp k).1.cR=A.cR/\(∀j y,fW (cQ A sp k).1 j y↔fW A j y)/\(Vy A sp k≠0->cQ A sp k=(A,sp)):=by
 rcases EV h hw k with⟨e,_⟩|⟨j,c,ss,x,A1,sp1,rfl,hk,hk1,hE,e,hst,r1,r2,r3,_,hd,hS⟩
 .rw[e];exact⟨St.refl h hw,rfl,rfl,λ_ _=>Iff.rfl,λ_=>rfl⟩
 .refine⟨hS,by rw[e];exact r1,by rw[e];exact r2,λi y=>?_,λd=>(d hE).elim⟩;rw[e];have b:Cl (dU A1 x c.aG (j+1)) j c ss:=hk1;rw[Ba b,F2 (h.cG j c ss hk) hd];have e2:fW (dU A1 x c.aG (j+1)) i y↔fW A i y:=by
   have:(dU A1 x c.aG (j+1)).tb=A.tb/\(dU A1 x c.aG (j+1)).cG=A.cG:=⟨hst.tb,r3⟩;unfold fW Cl;rw[this.1,this.2]
  rw[e2];by_cases hij:i=j
  .subst hij;rw[VO hk];exact⟨λa=>by rcases a with⟨_,a⟩|⟨a,_⟩;exact a;exact(a rfl).elim,λa=>.inl ⟨rfl,a⟩⟩
  .exact⟨λa=>by rcases a with⟨a,_⟩|⟨_,a⟩;exact(hij a).elim;exact a,λa=>.inr ⟨hij,a⟩⟩
theorem Re {m a:Int}(h:KR m a=true):∃x y:Nat,m=x/\a=y/\1<=x/\x<=64/\(y=1\/y=2\/y=4\/y=8\/y=16):=by
 unfold KR at h;simp only[zF,zV,nS,zU]at h;exact⟨m.toNat,a.toNat,O,O,O,O,O⟩
theorem Mf (h:GA A)(hw:Ow A sp)(m a:Int) :
 (cC A sp m a=(A,sp)/\Q3 A sp m a≠0/\(KR m a=true->Q3 A sp m a=6/\ZD A.n A.S m.toNat a.toNat=none/\dB sp (KD (max m.toNat a.toNat))=none)) ∨
 ∃(x:Nat) (A1:AR) (sp1:Sp),KR m a=true/\Q3 A sp m a=0/\QC A sp m a=x/\cC A sp m a=({dU A1 x m.toNat 41 with runs:=A.runs++[(x,m.toNat)]},sp1) ∧
  ZD A1.n A1.S m.toNat a.toNat=some x/\(A1=A/\sp1=sp\/ZD A.n A.S m.toNat a.toNat=none/\∃s,dB sp (KD (max m.toNat a.toNat))=some s/\Grown A A1 sp sp1 s (KD (max m.toNat a.toNat))) ∧
  St A (cC A sp m a).1 sp (cC A sp m a).2/\(cC A sp m a).1.cR=A.cR/\(∀j y,fW (cC A sp m a).1 j y↔fW A j y):=by
 by_cases hp:KR m a=true
 .obtain⟨b,w,rfl,rfl,H,K,R⟩:=Re hp;have G:Q3 A sp (b:Int) (w:Int)=if(dC A sp b w 41).1.isSome then 0 else 6:=by unfold Q3;rw[zC hp,dH,dH]
  have L:QC A sp (b:Int) (w:Int)=(dC A sp b w 41).1.getD 0:=by unfold QC;rw[zC hp,dH,dH]
  rcases FR h hw (m:=b) (a:=w) (no:=41) H K O with⟨hg,hn1,hn2⟩|⟨x,A1,sp1,hg,htk,hor⟩
  .left;have M:cC A sp (b:Int) (w:Int)=(A,sp):=by unfold cC;rw[zC hp,dH,dH,hg]
   rw[M,G,hg,dH,dH];exact⟨rfl,by simp,λ_=>⟨rfl,hn1,hn2⟩⟩
  .right;have z:GA A1:=by
    rcases hor with⟨rfl,rfl⟩|⟨_,s,_,g⟩
    .exact h
    .exact h.grown g
   have u:St A A1 sp sp1:=by
    rcases hor with⟨rfl,rfl⟩|⟨_,s,_,g⟩
    .exact St.refl h hw
    .exact g.st h hw
   have d:A1.runs=A.runs/\A1.cR=A.cR/\A1.cG=A.cG:=by
    rcases hor with⟨rfl,rfl⟩|⟨_,s,_,g⟩
    .exact⟨rfl,rfl,rfl⟩
    .exact⟨g.runs,g.cR,g.cG⟩
   have D:=Jb z.pg htk;have B:∀r∈A.runs,r.1≠x:=λr N e=>by
    have C:r∈A1.runs:=by rw[d.1];exact N
    have:=z.gU r C;have P:=(z.jD C (p:=x) O O).1;have Q:=(z.pg.fr x).1 (D x O O);omega
   have i:cC A sp (b:Int) (w:Int)=({dU A1 x b 41 with runs:=A.runs++[(x,b)]},sp1):=by
    unfold cC;rw[zC hp,dH,dH,hg];show({dU A1 x b 41 with runs:=cC.mset2 A1.runs x b},sp1)=_;rw[d.1,TQ B]
   have F:=z.ud O D;rw[d.1]at F;have kp:=EB z.pg (no:=41) O O D;refine⟨x,A1,sp1,hp,by rw[G,hg];rfl,by rw[L,hg];rfl,by rw[dH];exact i,by rw[dH,dH];exact htk,by rw[dH,dH];exact hor,?_,by rw[i];exact d.2.1,λj y=>?_⟩
   .rw[i];exact u.trans (St.kp F u.ow (kp.trans (Kp.aG rfl rfl rfl rfl)))
   .rw[i];have e1:({dU A1 x b 41 with runs:=A.runs++[(x,b)]}:AR).tb=A.tb:=u.tb;have e2:({dU A1 x b 41 with runs:=A.runs++[(x,b)]}:AR).cG=A.cG:=d.2.2;unfold fW Cl;rw[e1,e2]
 .left;have E:KR m a=false:=by simpa using hp
  unfold cC Q3;rw[E];exact⟨rfl,by simp,λJ=>by cases J⟩
theorem Mo {x:Int}{r:Nat×Nat}(h:qX A x=some r):r∈A.runs/\x=(r.1:Int):=by
 unfold qX at h;exact⟨tO h,by have:=tY h;simpa using Eq.symm (by simpa using this)⟩
theorem Sk (h:GA A)(x:Int):(Kp A (Kb A x)/\GA (Kb A x))/\(Kb A x).cR=A.cR/\(∀j y,fW (Kb A x) j y↔fW A j y)/\(VB A x≠0->Kb A x=A) ∧
 (VB A x=0->∃r∈A.runs,x=(r.1:Int)/\(Kb A x).runs=A.runs.filter λq=>!(q==r)):=by
 cases hr:qX A x with
 | none=>
  have e:Kb A x=A:=by unfold Kb;rw[hr]
  have B:VB A x=8:=by unfold VB;rw[hr];rfl
  rw[e,B];exact⟨⟨Kp.refl A,h⟩,rfl,λ_ _=>Iff.rfl,λ_=>rfl,λi=>by cases i⟩
 | some r=>
  obtain⟨b,i⟩:=Mo hr;have z:=h.gU r b;have s:A.runs.filter (λq=>!((q.1:Int)==x))=A.runs.filter λq=>!(q==r):=by
   apply wa;intro q g;have:((q.1:Int)==x)=(q==r):=by
    rw[kZ];simp only[zU];constructor
    .intro e;have G:=h.gU q g;exact h.gV g b (x:=q.1) O O O O
    .rintro rfl;exact i.symm
   rw[this]
  have e:Kb A x=UC {A with runs:=A.runs.filter λq=>!(q==r)} r:=by unfold Kb;rw[hr];simp only;rw[s]
  have B:VB A x=0:=by unfold VB;rw[hr];rfl
  obtain⟨a,m⟩:=r;obtain⟨o,hi,pg,H⟩:=IC (A:={A with runs:=A.runs.filter λq=>!(q==(a,m))}) (h.pg.same rfl rfl rfl rfl) z (λp C E=>(h.jD b C E).1);have own:∀p,a<=p->p<a+m->A.ow p=41:=λp C E=>(h.jD b C E).2;have F:=h.tb;rw[e,B];refine⟨⟨⟨rfl,rfl,rfl,H,λp D=>?_⟩,?_⟩,rfl,λ_ _=>Iff.rfl,λi=>(i rfl).elim,λ_=>⟨_,b,i,rfl⟩⟩
  .by_cases hin:a<=p/\p<a+m
   .rw[(hi p hin.1 hin.2).1]at D;omega
   .rw[o.f p hin]at D;exact D
  .refine⟨pg,h.tb,h.lc,h.lt,h.cG,h.one,λj d tt u p=>?_,λp=>?_,λp=>?_,λq g=>h.gU q (zK.1 g).1,h.kQ.filter _,h.qF,h.mF,h.pZ⟩
   .have u:Cl A j d tt:=u;have:=u.lt;by_cases hin:a<=p/\p<a+m
    .rw[(hi p hin.1 hin.2).2,←h.ow j d tt u p,own p hin.1 hin.2];omega
    .rw[o.ow p hin];exact h.ow j d tt u p
   .show _↔mS (A.runs.filter λq=>!(q==(a,m))) p;by_cases hin:a<=p/\p<a+m
    .rw[(hi p hin.1 hin.2).2];constructor
     .intro i;omega
     .rintro⟨q,g,q1,q2⟩;have w:=zK.1 g;have:=h.gV w.1 b q1 q2 hin.1 hin.2;subst this;simp at w
    .rw[o.ow p hin];show A.ow p=41↔_;rw[h.jX];constructor
     .rintro⟨q,g,q1⟩;refine⟨q,zK.2 ⟨g,?_⟩,q1⟩;have:q≠(a,m):=by rintro rfl;exact hin q1
      simpa using this
     .rintro⟨q,g,q1⟩;exact⟨q,(zK.1 g).1,q1⟩
   .by_cases hin:a<=p/\p<a+m
    .rw[(hi p hin.1 hin.2).2];omega
    .rw[o.ow p hin];exact h.sM p
theorem Bp (k:Nat):∀(outs:List (List Int)) {A:AR},GA A->outs.flatten.Nodup->(∀x∈outs.flatten,fW A k x/\¬ic A k x) →
 Ob A (outs.foldl (λA' xs=>ZY A' (k:Int) xs) A)/\(outs.foldl (λA' xs=>ZY A' (k:Int) xs) A).cR=A.cR/\∀j y,fW (outs.foldl (λA' xs=>ZY A' (k:Int) xs) A) j y↔fW A j y/\¬(j=k/\y∈outs.flatten)
 | [],A,h,_,_=>⟨⟨h,Kp.refl A,rfl⟩,rfl,by simp⟩
 | xs::outs,A,h,hn,ht=>by
  rw[vY]at hn ht;have hn':=m9.1 hn;have p:∀x∈xs,fW A k x/\¬ic A k x:=λx i=>ht x (kN _ i);rw[ry];cases xs with
  | nil=>
   have s:ZY A (k:Int) []=A\/Kv A (k:Int) []=0:=by
    by_cases w:Kv A (k:Int) []=0
    .exact .inr w
    .exact .inl (by unfold ZY;rw[zB w])
   obtain⟨o,e,t,_⟩:=Bw h (k:=(k:Int)) (xs:=[]) (λ_=>by simp);have u:∀j y,fW (ZY A (k:Int) []) j y↔fW A j y:=λj y=>by
    rcases s with s|s
    .rw[s]
    .rw[t s];simp
   have m:∀j y,ic (ZY A (k:Int) []) j y↔ic A j y:=λj y=>by unfold ic;rw[e]
   obtain⟨o2,e2,z⟩:=Bp k outs o.ga hn'.2.1 λx i=>by rw[u,m];exact ht x (oP _ i)
   exact⟨⟨o2.ga,o.kp.trans o2.kp,o2.runs.trans o.runs⟩,e2.trans e,λj y=>by rw[z,u];simp⟩
  | cons x0 xs=>
   obtain⟨c,C,B,_⟩:=(p x0 aA).1;have w:Kv A (k:Int) (x0::xs)=0:=by
    rw[Gw h B];exact IA ⟨λx i=>(VO B).1 (p x i).1,hn'.1⟩
   obtain⟨o,e,t,_⟩:=Bw h (k:=(k:Int)) (xs:=x0::xs) (λ_ x i=>by rw[dH];exact(p x i).2);have u:=t w;have m:∀j y,ic (ZY A (k:Int) (x0::xs)) j y↔ic A j y:=λj y=>by unfold ic;rw[e]
   obtain⟨o2,e2,z⟩:=Bp k outs o.ga hn'.2.1 λx i=>by
    rw[u,m];have:=ht x (oP _ i);exact⟨⟨this.1,λg=>hn'.2.2 x g.2 x i rfl⟩,this.2⟩
   refine⟨⟨o2.ga,o.kp.trans o2.kp,o2.runs.trans o.runs⟩,e2.trans e,λj y=>?_⟩;rw[z,u,dH,vY,zJ];constructor
   .rintro⟨⟨a,b⟩,d⟩;refine⟨a,λ⟨r,g⟩=>?_⟩;rcases g with g|g
    .exact b ⟨r,g⟩
    .exact d ⟨r,g⟩
   .rintro⟨a,b⟩;exact⟨⟨a,λ⟨r,g⟩=>b ⟨r,.inl g⟩⟩,λ⟨r,g⟩=>b ⟨r,.inr g⟩⟩
structure uL (A B:AR):Prop where
 ob:Ob A B
 sub:∀j y,ic B j y->ic A j y
 tk:∀j y,fW B j y↔fW A j y/\(ic A j y->ic B j y)
theorem uL.trans {B C:AR}(h:uL A B)(k:uL B C):uL A C:=
 ⟨⟨k.ob.ga,h.ob.kp.trans k.ob.kp,k.ob.runs.trans h.ob.runs⟩,λj y g=>h.sub j y (k.sub j y g),λj y=>by
  rw[k.tk,h.tk];exact⟨λ⟨⟨a,b⟩,d⟩=>⟨a,λe=>d (b e)⟩,λ⟨a,b⟩=>⟨⟨a,λe=>k.sub j y (b e)⟩,λe=>b (h.sub j y e)⟩⟩⟩
theorem MP (h:GA A)(hk:k<A.tb.length):uL A (vC A k):=by
 obtain⟨c,H,t,E,m⟩:=h.cl hk;have r:k<A.cR.length:=by rw[h.lt];exact hk
 have e:vC A k=t.out.foldl (λA' w=>ZY A' (k:Int) w) {A with cR:=A.cR.set k t.tick}:=by unfold vC;rw[m]
 have B:t.bs=t.out++t.tick.bs:=(oQ ((t.low+1)/2) t.bs).symm;have i:t.bs.flatten=t.out.flatten++t.tick.bs.flatten:=by conv=>lhs;rw[B];rw[List.flatten_append]
 have u:=h.qF k t m;rw[i]at u;have g:=m9.1 u;have p:∀x∈t.bs.flatten,fW A k x:=λx d=>(VO E).2 (h.mF k c H t E m x d);have F:GA {A with cR:=A.cR.set k t.tick}:=h.j9 g.2.1 (λx d=>p x (by rw[i];exact oP _ d)) λG z w C=>h.pZ k G t z m w (t.oV w C);obtain⟨o,e2,D⟩:=Bp k t.out F g.1 λx d=>by
  refine⟨p x (by rw[i];exact kN _ d),?_⟩;rw[Be r];rintro(⟨_,hy⟩|⟨hy,_⟩)
  .exact g.2.2 x d x hy rfl
  .exact hy rfl
 rw[←e]at o e2 D;have s:∀j y,ic (vC A k) j y↔(j=k/\y∈t.tick.bs.flatten)\/(j≠k/\ic A j y):=λj y=>by
  rw[←Be r];unfold ic;rw[e2]
 refine⟨⟨o.ga,(Kp.aG rfl rfl rfl rfl:Kp A {A with cR:=A.cR.set k t.tick}).trans o.kp,o.runs⟩,λj y d=>?_,λj y=>?_⟩
 .rcases(s j y).1 d with⟨rfl,hy⟩|⟨_,hy⟩
  .rw[GZ m,i];exact oP _ hy
  .exact hy
 .rw[D,s];show fW A j y/\_↔_;by_cases hjk:j=k
  .subst hjk;rw[GZ m,i,zJ];constructor
   .rintro⟨a,b⟩;refine⟨a,λd=>?_⟩;rcases d with d|d
    .exact(b ⟨rfl,d⟩).elim
    .exact .inl ⟨rfl,d⟩
   .rintro⟨a,b⟩;refine⟨a,λ⟨_,d⟩=>?_⟩;rcases b (.inl d)with⟨_,hy⟩|⟨hy,_⟩
    .exact g.2.2 y d y hy rfl
    .exact hy rfl
  .exact⟨λ⟨a,_⟩=>⟨a,λd=>.inr ⟨hjk,d⟩⟩,λ⟨a,_⟩=>⟨a,λ⟨d,_⟩=>hjk d⟩⟩
theorem Lz (h:GA A):∀m,m<=A.tb.length->uL A ((List.range m).foldl vC A)
 | 0,_=>⟨⟨h,Kp.refl A,rfl⟩,λ_ _=>id,λ_ _=>⟨λa=>⟨a,id⟩,λa=>a.1⟩⟩
 | m+1,hm=>by
  have t:=Lz h m O;rw[qN,vX,ry,List.foldl_nil];exact t.trans (MP t.ob.ga (by rw[t.ob.kp.tb];omega))
theorem ξ (h:GA A):uL A (tv A):=Lz h _ (by rw[h.lt];exact zD _)
end Go.Ar
namespace Go.Ar
open Go.Bu (ZF Kj ZD qJ VI dF take KX Vq Bounded)
variable {A:AR}{sp:Sp}{k:Nat}{c:cA}{ss:List cH}
end Go.Ar
namespace Go.Ar
structure Pc where
 k:Nat
 cls:Int
 addr:Nat
 size:Nat
 eV:Bool
 deriving DecidableEq
structure Wd where
 tb:List cA
 sp:Sp
 bZ:List AR
 held:List Pc
structure Act where
 kd:Int
 ar:Int
 cl:Int
 a:Int
 b:Int
 l:List Int
abbrev Key:=Nat×Int×Nat
def Pc.key (p:Pc):Key:=(p.k,p.cls,p.addr)
def lS (k:Nat)(cls x:Int)(p:Pc):Bool:=p.k==k&&(p.cls==cls&&((p.addr:Int)==x && !p.eV))
def vt (held:List Pc)(k:Nat)(cls x:Int):Option Nat:=held.findIdx? (lS k cls x)
def jr (held:List Pc)(k:Nat)(cls:Int)(l:List Int):Bool:=l.all (λx=>(vt held k cls x).isSome)&&decide l.Nodup
def lX (k:Nat)(cls:Int)(held:List Pc)(x:Int):List Pc:=match vt held k cls x with
 | some i=>held.take i++held.drop (i+1)
 | none=>held
def wR (held:List Pc)(k:Nat)(cls:Int)(l:List Int):List Pc:=l.foldl (lX k cls) held
def eI (k:Nat)(cls:Int)(l:List Int)(p:Pc):Bool:=p.k==k&&(p.cls==cls&&l.contains (p.addr:Int))
def Gr (held:List Pc)(k:Nat)(cls:Int)(l:List Int)(m:Bool):List Pc:=held.map λp=>if eI k cls l p then{p with eV:=m}else p
def I7 (held:List Pc)(x:Int):Bool:=held.any λp=>decide ((p.addr:Int)<=x)&&decide (x-(p.addr:Int)<(p.size:Int))
def y8 (us:List AR)(held:List Pc):List Pc:=held.filter λp=>!p.eV||(match us[p.k]? with
 | some A=>wL A (p.addr:Int)
 | none=>false)
def oZ (tb:List cA)(k:Int):Nat:=((tb[k.toNat]?).map (·.size)).getD 0
def Wd.put (W:Wd)(k:Nat)(A:AR)(sp:Sp)(held:List Pc):Wd:={W with sp:=sp,bZ:=W.bZ.set k A,held:=held}
def Hd (A:AR)(p:Pc):Prop:=(p.cls = -1/\p.eV=false/\∃r∈A.runs,p.addr=r.1*256/\p.size=r.2*256) ∨
 ∃(j:Nat) (c:cA),p.cls=j/\A.tb[j]?=some c/\p.size=c.size/\fW A j (p.addr:Int)/\(p.eV=true↔ic A j (p.addr:Int))
structure WI (W:Wd):Prop where
 ga:∀(k:Nat) (A:AR),W.bZ[k]?=some A->GA A
 ow:∀(k:Nat) (A:AR),W.bZ[k]?=some A->Ow A W.sp
 tb:∀(k:Nat) (A:AR),W.bZ[k]?=some A->A.tb=W.tb
 low:∀(k:Nat) (A:AR),W.bZ[k]?=some A->∀p,p<16->A.f p=0
 own:∀p,gf W.sp.st p≠0->∃(k:Nat) (A:AR),W.bZ[k]?=some A/\A.f p≠0
 one:∀p (k l:Nat) (A B:AR),W.bZ[k]?=some A->W.bZ[l]?=some B->A.f p≠0->B.f p≠0->k=l
 hk:(W.held.map Pc.key).Nodup
 hf:∀p∈W.held,∃A,W.bZ[p.k]?=some A/\Hd A p
 ht:∀(k:Nat) (A:AR),W.bZ[k]?=some A->∀(j:Nat) (y:Int),fW A j y->∃p∈W.held,p.k=k/\p.cls=j/\(p.addr:Int)=y
 hr:∀(k:Nat) (A:AR),W.bZ[k]?=some A->∀r∈A.runs,∃p∈W.held,p.k=k/\p.cls = -1/\p.addr=r.1*256
variable {W:Wd}{k:Nat}{A:AR}
theorem VK {α:Type}{l:List α}{k j:Nat}{x y:α}(h:(l.set k x)[j]?=some y):(j=k/\y=x/\k<l.length)\/(j≠k/\l[j]?=some y):=by
 by_cases hjk:j=k
 .subst hjk;have a:j<l.length:=by have:=(cY.1 h).1;simpa using this
  rw[zO a]at h;exact .inl ⟨rfl,(Option.some.inj h).symm,a⟩
 .rw[zh (Ne.symm hjk)]at h;exact .inr ⟨hjk,h⟩
theorem WI.unique (h:WI W){p q:Pc}(hp:p∈W.held)(hq:q∈W.held)(e:p.key=q.key):p=q:=by
 obtain⟨i,hi⟩:=zP hp;obtain⟨j,d⟩:=zP hq;obtain⟨a,rfl⟩:=cY.1 hi;obtain⟨b,rfl⟩:=cY.1 d;have:=mB.1 h.hk;rcases qQ i j with hl|hl|hl
 .exact(this i j (by simpa using a) (by simpa using b) hl (by simpa using e)).elim
 .subst hl;rfl
 .exact(this j i (by simpa using b) (by simpa using a) hl (by simpa using e.symm)).elim
theorem WI.step (h:WI W)(hk:W.bZ[k]?=some A){B:AR}{sp':Sp}{held':List Pc}(s:St A B W.sp sp')(h1:(held'.map Pc.key).Nodup)(h2:∀p∈held',p.k=k->Hd B p)(h3:∀p,p.k≠k->(p∈held'↔p∈W.held))
 (h4:∀(j:Nat) (y:Int),fW B j y->∃p∈held',p.k=k/\p.cls=j/\(p.addr:Int)=y) (h5:∀r∈B.runs,∃p∈held',p.k=k/\p.cls = -1/\p.addr=r.1*256):WI (W.put k B sp' held'):=by
 have F:=(cY.1 hk).1;have u:(W.bZ.set k B)[k]?=some B:=zO F;have H:∀{j:Nat} {C:AR},j≠k->W.bZ[j]?=some C->(W.bZ.set k B)[j]?=some C:=λa g=>(zh (Ne.symm a)).trans g;have m:∀{j:Nat} {C:AR},j≠k->W.bZ[j]?=some C->∀p,C.f p≠0->A.f p=0/\B.f p=0/\gf sp'.st p=gf W.sp.st p:=by
  intro j C a g p b;have w:A.f p=0:=Classical.byContradiction λz=>a (h.one p j k C A g hk b z);have x:B.f p=0:=Classical.byContradiction λz=>by
   have:=(s.new p w z).1;exact(h.ow j C g).own p b this
  exact⟨w,x,s.same p w x⟩
 refine⟨λj C a=>?_,λj C a=>?_,λj C a=>?_,λj C a p b=>?_,λp b=>?_,λp j l C D a K g G=>?_,h1,λp b=>?_,λj C a i y J=>?_,λj C a r hr=>?_⟩
 .rcases VK a with⟨rfl,rfl,_⟩|⟨_,a⟩
  .exact s.ga
  .exact h.ga j C a
 .rcases VK a with⟨rfl,rfl,_⟩|⟨d,a⟩
  .exact s.ow
  .have o:=h.ow j C a;have L:=h.ow k A hk;refine⟨?_,λp b=>?_,λp b=>?_,s.ow.le⟩
   .show sp'.st.length=C.n;rw[s.ow.l,s.n,←L.l,o.l]
   .show gf sp'.st p≠0;rw[(m d a p b).2.2];exact o.own p b
   .show gf sp'.st p=1;rw[(m d a p O).2.2];exact o.cl p b
 .rcases VK a with⟨rfl,rfl,_⟩|⟨_,a⟩
  .exact s.tb.trans (h.tb _ A hk)
  .exact h.tb j C a
 .rcases VK a with⟨rfl,rfl,_⟩|⟨_,a⟩
  .apply Classical.byContradiction;intro z;have:=s.new p (h.low _ A hk p b) z;omega
  .exact h.low j C a p b
 .have b:gf sp'.st p≠0:=b;by_cases x:B.f p=0
  .by_cases w:A.f p=0
   .rw[s.same p w x]at b;obtain⟨j,C,a,g⟩:=h.own p b;have d:j≠k:=by
     rintro rfl;rw[hk]at a;cases a;exact g w
    exact⟨j,C,H d a,g⟩
   .exact(b (s.gone p w x)).elim
  .exact⟨k,B,u,x⟩
 .rcases VK a with⟨rfl,rfl,_⟩|⟨d,hj'⟩
  .rcases VK K with⟨rfl,rfl,_⟩|⟨hne2,hl'⟩
   .rfl
   .exact(g (m hne2 hl' p G).2.1).elim
  .rcases VK K with⟨rfl,rfl,_⟩|⟨hne2,hl'⟩
   .exact(G (m d hj' p g).2.1).elim
   .exact h.one p j l C D hj' hl' g G
 .by_cases hpk:p.k=k
  .exact⟨B,by rw[hpk];exact u,h2 p b hpk⟩
  .obtain⟨C,g,M⟩:=h.hf p ((h3 p hpk).1 b);exact⟨C,H hpk g,M⟩
 .rcases VK a with⟨rfl,rfl,_⟩|⟨d,a⟩
  .exact h4 i y J
  .obtain⟨p,b,e1,e2,E⟩:=h.ht j C a i y J;exact⟨p,(h3 p (by rw[e1];exact d)).2 b,e1,e2,E⟩
 .rcases VK a with⟨rfl,rfl,_⟩|⟨d,a⟩
  .exact h5 r hr
  .obtain⟨p,b,e1,e2,E⟩:=h.hr j C a r hr;exact⟨p,(h3 p (by rw[e1];exact d)).2 b,e1,e2,E⟩
theorem Hd.to {B:AR}{p:Pc}(h:Hd A p)(e1:B.tb=A.tb)(e2:B.runs=A.runs)(e3:∀j y,fW A j y->fW B j y)(e4:∀j y,ic B j y↔ic A j y):Hd B p:=by
 rcases h with⟨h1,h2,r,hr,h3⟩|⟨j,c,h1,h2,h3,h4,h5⟩
 .exact .inl ⟨h1,h2,r,by rw[e2];exact hr,h3⟩
 .exact .inr ⟨j,c,h1,by rw[e1];exact h2,h3,e3 _ _ h4,by rw[e4];exact h5⟩
theorem WI.hd (h:WI W)(hk:W.bZ[k]?=some A){p:Pc}(hp:p∈W.held)(e:p.k=k):Hd A p:=by
 obtain⟨C,a,b⟩:=h.hf p hp;rw[e,hk]at a;cases a;exact b
theorem WI.mq (h:WI W)(hk:W.bZ[k]?=some A){B:AR}{sp':Sp}(s:St A B W.sp sp')(e2:B.runs=A.runs)(e3:∀j y,fW B j y↔fW A j y)(e4:B.cR=A.cR):WI (W.put k B sp' W.held):=
 h.step hk s h.hk (λp b e=>(h.hd hk b e).to s.tb e2 (λj y=>(e3 j y).2) λj y=>by unfold ic;rw[e4]) (λ_ _=>Iff.rfl) (λj y a=>h.ht k A hk j y ((e3 j y).1 a)) λr hr=>h.hr k A hk r (by rw[←e2];exact hr)
theorem WI.cls (h:WI W){p:Pc}(hp:p∈W.held){j:Nat}(e:p.cls=j)(hk:W.bZ[p.k]?=some A):∃c,A.tb[j]?=some c/\p.size=c.size/\fW A j (p.addr:Int)/\(p.eV=true↔ic A j (p.addr:Int)):=by
 rcases h.hd hk hp rfl with⟨h1,_⟩|⟨i,c,h1,h2,h3,h4,h5⟩
 .omega
 .obtain rfl:i=j:=O
  exact⟨c,h2,h3,h4,h5⟩
theorem WI.run (h:WI W){p:Pc}(hp:p∈W.held)(e:p.cls = -1)(hk:W.bZ[p.k]?=some A):p.eV=false/\∃r∈A.runs,p.addr=r.1*256/\p.size=r.2*256:=by
 rcases h.hd hk hp rfl with⟨_,h2⟩|⟨i,c,h1,_⟩
 .exact h2
 .omega
theorem Vm {k:Nat}{cls x:Int}{p:Pc}:lS k cls x p=true↔p.k=k/\p.cls=cls/\(p.addr:Int)=x/\p.eV=false:=by
 simp[lS]
theorem QA {k:Nat}{cls:Int}{l:List Int}{p:Pc}:eI k cls l p=true↔p.k=k/\p.cls=cls/\(p.addr:Int)∈l:=by
 simp[eI]
theorem Mj {held:List Pc}{k:Nat}{cls x:Int}{i:Nat}(h:vt held k cls x=some i):∃p,held[i]?=some p/\lS k cls x p=true:=by
 obtain⟨hi,a,_⟩:=nV.1 h;exact⟨held[i],cW hi,a⟩
theorem Tv {held:List Pc}{k:Nat}{cls x:Int}{p:Pc}(hp:p∈held)(h:lS k cls x p=true):(vt held k cls x).isSome=true:=by
 unfold vt;rw[List.findIdx?_isSome,zy];exact⟨p,hp,h⟩
theorem Vo {held:List Pc}{k:Nat}{cls:Int}{l:List Int}:jr held k cls l=true↔(∀x∈l,∃p∈held,lS k cls x p=true)/\l.Nodup:=by
 unfold jr;rw[zF,kF,zV];refine and_congr_left λ_=>forall_congr' λx=>imp_congr_right λa=>?_;unfold vt;rw[List.findIdx?_isSome,zy]
theorem RQ {held:List Pc}(hn:(held.map Pc.key).Nodup){i:Nat}{p:Pc}(hi:held[i]?=some p):held.take i++held.drop (i+1)=held.filter λq=>!(q.key==p.key):=by
 induction held generalizing i with
 | nil=>simp at hi
 | cons q l ih=>
  rw[zR,zr]at hn;cases i with
  | zero=>
   simp only[yH,Option.some.injEq]at hi;subst hi;have:l.filter (λr=>!(r.key==q.key))=l:=by
    rw[qG];intro r hr;have:r.key≠q.key:=λe=>hn.1 (zE.2 ⟨r,hr,e⟩);simpa using this
   simp[this]
  | succ i=>
   have hi:l[i]?=some p:=by simpa using hi
   have a:q.key≠p.key:=λe=>hn.1 (zE.2 ⟨p,zG hi,e.symm⟩);rw[we,vR,lN,ih hn.2 hi,tZ];have:(!(q.key==p.key))=true:=by simpa using a
   rw[this];rfl
theorem UD {held:List Pc}(hn:(held.map Pc.key).Nodup)(f:Pc->Bool):((held.filter f).map Pc.key).Nodup:=hn.sublist (List.filter_sublist.map _)
theorem J6 {k:Nat}{cls:Int}:∀(l:List Int) {held:List Pc},(held.map Pc.key).Nodup->(∀x∈l,∃p∈held,lS k cls x p=true)->l.Nodup->wR held k cls l=held.filter λp=>!eI k cls l p
 | [],held,_,_,_=>by
  have:∀p,eI k cls [] p=false:=λp=>by simp[eI]
  exact(qG.2 λp _=>by rw[this];rfl).symm
 | x::l,held,hn,ho,hl=>by
  obtain⟨p,B,w⟩:=ho x aA;obtain⟨i,hi⟩:=pv.1 (Tv B w);obtain⟨q,A,j⟩:=Mj hi;have g:=zr.1 hl;have e1:lX k cls held x=held.filter λr=>!(r.key==q.key):=by unfold lX;rw[hi];exact RQ hn A
  obtain⟨q1,q2,q3,q4⟩:=Vm.1 j;have m:=J6 l (held:=held.filter λr=>!(r.key==q.key)) (UD hn _) (λy u=>by
   obtain⟨r,s,d⟩:=ho y (by simp[u]);refine⟨r,zK.2 ⟨s,?_⟩,d⟩;have:r.key≠q.key:=λe=>by
    have C:r.addr=q.addr:=congrArg (λz:Key=>z.2.2) e;have:=(Vm.1 d).2.2.1;have:y=x:=O
    subst this;exact g.1 u
   simpa using this) g.2
  unfold wR at m ⊢;rw[ry,e1,m,BN];apply wa;intro r s;have e:(r.key==q.key)=(r.k==k&&(r.cls==cls&&(r.addr:Int)==x)):=by
   rw[kZ];simp only[Pc.key,zU,zF,Prod.mk.injEq];constructor
   .rintro⟨a,b,c⟩;exact⟨O,O,O⟩
   .rintro⟨a,b,c⟩;exact⟨O,O,O⟩
  rw[e];unfold eI;rw[List.contains_cons];cases r.k==k<;>cases r.cls==cls<;>cases((r.addr:Int)==x)<;>cases l.contains (r.addr:Int)<;>rfl
theorem Kg {held:List Pc}{k:Nat}{cls:Int}{l:List Int}{m:Bool}{p:Pc}:p∈Gr held k cls l m↔∃q∈held,p=if eI k cls l q then{q with eV:=m}else q:=by
 unfold Gr;rw[zE];constructor
 .rintro⟨q,hq,rfl⟩;exact⟨q,hq,rfl⟩
 .rintro⟨q,hq,rfl⟩;exact⟨q,hq,rfl⟩
theorem Sm {held:List Pc}{k:Nat}{cls:Int}{l:List Int}{m:Bool}:(Gr held k cls l m).map Pc.key=held.map Pc.key:=by
 unfold Gr;rw[lQ];apply kh;intro p _;simp only[Function.comp];split<;>rfl
theorem AO (hk:W.bZ[k]?=some A)(h:WI W):WI (W.put k A W.sp W.held):=h.mq hk (St.refl (h.ga k A hk) (h.ow k A hk)) rfl (λ_ _=>Iff.rfl) rfl
theorem PK (h:GA A){j:Nat}{c:cA}{ss:List cH}(hc:Cl A j c ss){l:Nat}{s:cH}{i:Nat}(hs:ss[l]?=some s)(hi:i<c.n){x:Nat}(h1:at_ c s i<=x)(h2:x<at_ c s i+c.size):Ht A (x:Int)=some ((j:Int),at_ c s i):=by
 have b:=h.cG j c ss hc;have d:=GN b.pos hi h1 h2;have a:=h.used hc (zG hs) d.1 d.2;have g:=h.pg.lt (p:=x/256) (by rw[a.1];omega);have u:=h.pg.n2;have r:=hc.lt;have m:=h.tb;unfold Ht;rw[zB O,dH];simp only;rw[zC (show x/256<1024 by omega),a.2,zB O,zB O,Nat.add_sub_cancel,hc.1,hc.2];simp only;rw[(Ii b).2 ⟨l,s,i,hs,hi,rfl,O,O⟩];rfl
theorem EH (h:GA A){r:Nat×Nat}(hr:r∈A.runs){x:Nat}(h1:r.1*256<=x)(h2:x<(r.1+r.2)*256):Ht A (x:Int)=some (-1,r.1*256):=by
 have a:=h.jD hr (p:=x/256) O O;have b:=h.pg.lt (p:=x/256) (by rw[a.1];omega);have d:=h.pg.n2;unfold Ht;rw[zB O,dH];simp only;rw[zC (show x/256<1024 by omega),a.2,zB O,zC rfl,Bv h.pS hr O O];rfl
theorem Wg2 (h:GA A){x:Int}{k:Int}{a:Nat}(hf:Ht A x=some (k,a)):(k = -1/\∃r∈A.runs,a=r.1*256/\((r.1*256:Nat):Int)<=x/\x<(((r.1+r.2)*256:Nat):Int)) ∨
 ∃(j:Nat) (c:cA) (ss:List cH) (l:Nat) (s:cH) (i:Nat),k=j/\Cl A j c ss/\ss[l]?=some s/\i<c.n/\a=at_ c s i/\((at_ c s i:Nat):Int)<=x/\x<((at_ c s i+c.size:Nat):Int):=by
 unfold Ht at hf;split at hf
 .cases hf
 .rename_i hx;obtain⟨y,rfl⟩:=zc (show 0<=x by omega);rw[dH]at hf;simp only at hf;by_cases hlt:y/256<1024
  .rw[zC hlt]at hf;split at hf
   .cases hf
   .split at hf
    .rename_i h0 h41;obtain⟨r,d,b⟩:=oy.1 hf;have u:=tO d;have w:=tY d;simp at w;cases b;exact .inl ⟨rfl,r,u,rfl,O,O⟩
    .rename_i h0 h41;split at hf
     .rename_i c ss h1 h2;obtain⟨C,z,b⟩:=oy.1 hf;cases b;have g:Cl A (A.ow (y/256)-1) c ss:=⟨h1,h2⟩;obtain⟨l,s,i,p,hi,rfl,m,B⟩:=(Ii (h.cG _ _ _ g)).1 z;exact .inr ⟨_,c,ss,l,s,i,rfl,g,p,hi,rfl,m,B⟩
     .cases hf
  .rw[zB hlt,zC rfl]at hf;cases hf
theorem fW.find (h:GA A){j:Nat}{x:Int}(hx:fW A j x):∃y:Nat,x=y/\Ht A x=some ((j:Int),y):=by
 obtain⟨c,m,a,g⟩:=hx;have b:=h.cG j c m a;obtain⟨l,s,i,d,hi,rfl,p⟩:=(Ue b).1 g;exact⟨_,rfl,PK h a d hi (zD _) (by have:=b.pos;omega)⟩
theorem C5 (h:GA A){x:Int}:wL A x=true↔(∃j,fW A j x)\/∃r∈A.runs,x=((r.1*256:Nat):Int):=by
 constructor
 .intro hx;unfold wL at hx;split at hx
  .rename_i k a d;split at hx
   .rename_i he;rcases Wg2 h d with⟨rfl,r,hr,rfl,_⟩|⟨j,c,g,l,s,i,rfl,b,hs,hi,rfl,_⟩
    .exact .inr ⟨r,hr,he.symm⟩
    .rw[zB O,dH,b.1,b.2]at hx;exact .inl ⟨j,c,g,b,by simpa[Tk]using hx⟩
   .cases hx
  .cases hx
 .rintro(⟨j,hj⟩|⟨r,hr,rfl⟩)
  .obtain⟨y,rfl,d⟩:=hj.find h;obtain⟨c,g,b,m⟩:=hj;unfold wL;rw[d];simp only;rw[zC True.intro,zB O,dH,b.1,b.2];unfold Tk at m;show(eD c g (y:Int)==some true)=true;rw[m];rfl
  .unfold wL;have:=h.gU r hr;rw[EH h hr (zD _) O];simp
theorem WI.xw (h:WI W)(hk:W.bZ[k]?=some A){cl:Int}{l:List Int}(ho:jr W.held k cl l=true){j:Nat}(e:cl=j):∀x∈l,¬ic A j x:=by
 intro x hx hin;obtain⟨p,m,a⟩:=(Vo.1 ho).1 x hx;obtain⟨g,r,i,d⟩:=Vm.1 a;obtain⟨c,_,_,_,b⟩:=h.cls m (j:=j) (by rw[r,e]) (by rw[g];exact hk);rw[i]at b;rw[b.2 hin]at d;cases d
theorem WI.grow (h:WI W)(hk:W.bZ[k]?=some A)(x:Int):WI (W.put k (cQ A W.sp x).1 (cQ A W.sp x).2 W.held):=by
 obtain⟨s,e1,e2,a,_⟩:=WjR (h.ga k A hk) (h.ow k A hk) x;exact h.mq hk s e1 a e2
theorem WI.from (h:WI W)(hk:W.bZ[k]?=some A)(cl m:Int):WI (W.put k (YV A cl m) W.sp (W.held++(YB A cl m).map λy=>⟨k,cl,y,oZ W.tb cl,false⟩)):=by
 obtain⟨o,e1,e2,J,E,B⟩:=Jq (h.ga k A hk) cl m;have tb:(YV A cl m).tb=A.tb:=o.kp.tb;have i:∀y∈YB A cl m,∃j:Nat,cl=j/\j<A.tb.length:=λy g=>J (λe=>by rw[e]at g;simp at g);have s:∀y∈YB A cl m,∀p∈W.held,¬(p.k=k/\p.cls=cl/\p.addr=y):=by
  rintro y g p d ⟨F,M,H⟩;obtain⟨j,rfl,_⟩:=i y g;obtain⟨c,_,_,ht,_⟩:=h.cls d M (by rw[F];exact hk);rw[H]at ht;exact E y g (by rw[dH];exact ht)
 refine h.step hk (o.st (h.ow k A hk)) ?_ (λp d e=>?_) (λp z=>?_) (λj y g=>?_) λr hr=>?_
 .rw[zj,m9];refine⟨h.hk,?_,λa G b K e=>?_⟩
  .rw[lQ];exact List.Pairwise.map (R:=(· ≠ ·)) _ (λa b C e=>C (by simpa[Pc.key]using e)) e2
  .subst e;obtain⟨p,d,rfl⟩:=zE.1 G;obtain⟨q,L,e⟩:=zE.1 K;obtain⟨y,g,rfl⟩:=zE.1 L;simp only[Pc.key,Prod.mk.injEq]at e;exact s y g p d ⟨e.1.symm,e.2.1.symm,e.2.2.symm⟩
 .rcases zJ.1 d with d|d
  .exact(h.hd hk d e).to tb o.runs (λj y u=>(B j y).2 (.inl u)) λj y=>by unfold ic;rw[e1]
  .obtain⟨y,g,rfl⟩:=zE.1 d;obtain⟨j,rfl,u⟩:=i y g;refine .inr ⟨j,A.tb[j],rfl,by rw[tb];exact cW u,?_,(B j y).2 (.inr ⟨(dH j).symm,y,g,rfl⟩),?_⟩
   .show oZ W.tb (j:Int)=_;unfold oZ;rw[dH,←h.tb k A hk,cW u];rfl
   .constructor
    .intro hx;cases hx
    .rintro⟨t,ht,hx⟩;rw[e1]at ht;obtain⟨c,N,P,D,w⟩:=(h.ga k A hk).cl u;rw[ht]at w;cases w;exact(E y g (by rw[dH];exact(VO D).2 ((h.ga k A hk).mF j c N t D ht _ hx))).elim
 .rw[zJ];constructor
  .rintro(d|d)
   .exact d
   .obtain⟨y,_,rfl⟩:=zE.1 d;exact(z rfl).elim
  .exact .inl
 .rcases(B j y).1 g with g|⟨rfl,x,hx,rfl⟩
  .obtain⟨p,d,q⟩:=h.ht k A hk j y g;exact⟨p,kN _ d,q⟩
  .obtain⟨j,rfl,_⟩:=i x hx;exact⟨_,oP _ (zE.2 ⟨x,hx,rfl⟩),rfl,by simp,rfl⟩
 .rw[o.runs]at hr;obtain⟨p,d,q⟩:=h.hr k A hk r hr;exact⟨p,kN _ d,q⟩
theorem WI.AE (h:WI W){cl:Int}{l:List Int}(ho:jr W.held k cl l=true):wR W.held k cl l=W.held.filter λp=>!eI k cl l p:=
 J6 l h.hk (Vo.1 ho).1 (Vo.1 ho).2
theorem WI.TI (h:WI W)(hk:W.bZ[k]?=some A){cl:Int}{l:List Int}(ho:jr W.held k cl l=true):WI (W.put k (ZY A cl l) W.sp (if Kv A cl l=0 then wR W.held k cl l else W.held)):=by
 have ga:=h.ga k A hk;obtain⟨o,e1,e2,H⟩:=Bw ga (k:=cl) (xs:=l) λg x m=>by
  obtain⟨j,c,K,rfl,_⟩:=C9 ga g;rw[dH];exact h.xw hk ho rfl x m
 by_cases g:Kv A cl l=0
 .rw[zC g,h.AE ho];obtain⟨j,c,K,rfl,N,M⟩:=C9 ga g;have e2:=e2 g;rw[dH]at e2;refine h.step hk (o.st (h.ow k A hk)) (UD h.hk _) (λp u e=>?_) (λp D=>?_) (λi y J=>?_) λr hr=>?_
  .have s:=zK.1 u;have C:eI k (j:Int) l p=false:=by simpa using s.2
   rcases h.hd hk s.1 e with⟨h1,h2,r,hr,h3⟩|⟨i,d,h1,h2,h3,h4,h5⟩
   .exact .inl ⟨h1,h2,r,by rw[o.runs];exact hr,h3⟩
   .refine .inr ⟨i,d,h1,by rw[o.kp.tb];exact h2,h3,(e2 i _).2 ⟨h4,λ⟨a,b⟩=>?_⟩,by unfold ic at h5 ⊢;rw[e1];exact h5⟩;have:eI k (j:Int) l p=true:=QA.2 ⟨e,by rw[h1,a],b⟩;rw[C]at this;cases this
  .rw[zK];have:eI k (j:Int) l p=false:=by
    apply nX.2;intro m;exact D (QA.1 m).1
   rw[this];simp
  .obtain⟨B,E⟩:=(e2 i y).1 J;obtain⟨p,u,z,F,w⟩:=h.ht k A hk i y B;refine⟨p,zK.2 ⟨u,?_⟩,z,F,w⟩;have:eI k (j:Int) l p=false:=by
    apply nX.2;intro m;obtain⟨_,L,G⟩:=QA.1 m;exact E ⟨O,by rw[←w];exact G⟩
   rw[this];rfl
  .rw[o.runs]at hr;obtain⟨p,u,z,F,w⟩:=h.hr k A hk r hr;refine⟨p,zK.2 ⟨u,?_⟩,z,F,w⟩;have:eI k (j:Int) l p=false:=by
    apply nX.2;intro m;have:=(QA.1 m).2.1;omega
   rw[this];rfl
 .rw[zB g,H g];exact AO hk h
theorem WI.move (h:WI W)(hk:W.bZ[k]?=some A){B:AR}{j:Nat}{l:List Int}{m:Bool}(o:Ob A B)(e1:∀i y,fW B i y↔fW A i y)(e2:∀i y,ic B i y↔if i=j/\y∈l then m=true else ic A i y):WI (W.put k B W.sp (Gr W.held k (j:Int) l m)):=by
 refine h.step hk (o.st (h.ow k A hk)) (by rw[Sm];exact h.hk) (λp b e=>?_) (λp a=>?_) (λi y g=>?_) λr hr=>?_
 .obtain⟨q,x,rfl⟩:=Kg.1 b;have d:q.k=k:=by
   split at e<;>exact e
  rcases h.hd hk x d with⟨h1,h2,r,hr,h3⟩|⟨i,c,h1,h2,h3,h4,h5⟩
  .have:eI k (j:Int) l q=false:=by
    apply nX.2;intro hx;have:=(QA.1 hx).2.1;omega
   rw[this];exact .inl ⟨h1,h2,r,by rw[o.runs];exact hr,h3⟩
  .by_cases hx:eI k (j:Int) l q=true
   .rw[zC hx];obtain⟨_,D,C⟩:=QA.1 hx;have w:i=j:=O
    refine .inr ⟨i,c,h1,by rw[o.kp.tb];exact h2,h3,(e1 _ _).2 h4,?_⟩;show m=true↔ic B i (q.addr:Int);rw[e2,zC ⟨w,C⟩]
   .rw[zB hx];refine .inr ⟨i,c,h1,by rw[o.kp.tb];exact h2,h3,(e1 _ _).2 h4,?_⟩;rw[e2,zB λg=>hx (QA.2 ⟨d,by rw[h1,g.1],g.2⟩)];exact h5
 .rw[Kg];constructor
  .rintro⟨q,x,rfl⟩;have:eI k (j:Int) l q=false:=by
    apply nX.2;intro hx;rw[zC hx]at a;exact a (QA.1 hx).1
   rw[this];exact x
  .intro b;refine⟨p,b,?_⟩;have:eI k (j:Int) l p=false:=by
    apply nX.2;intro hx;exact a (QA.1 hx).1
   rw[this];rfl
 .obtain⟨p,b,u,z,s⟩:=h.ht k A hk i y ((e1 i y).1 g);refine⟨_,Kg.2 ⟨p,b,rfl⟩,?_,?_,?_⟩
  .split<;>exact u
  .split<;>exact z
  .split<;>exact s
 .rw[o.runs]at hr;obtain⟨p,b,u,z,s⟩:=h.hr k A hk r hr;refine⟨_,Kg.2 ⟨p,b,rfl⟩,?_,?_,?_⟩
  .split<;>exact u
  .split<;>exact z
  .split<;>exact s
theorem Ta {held:List Pc}{k:Nat}{cls:Int}{m:Bool}:Gr held k cls [] m=held:=by
 unfold Gr;have:∀p,eI k cls [] p=false:=λp=>by simp[eI]
 simp[this]
theorem WI.xZ (h:WI W)(hk:W.bZ[k]?=some A)(cl:Int):WI (W.put k (Z0 A cl) W.sp (Gr W.held k cl (YR A cl) false)):=by
 obtain⟨o,e1,e2,s,d,a⟩:=F9 (h.ga k A hk) cl;by_cases hv:YR A cl=[]
 .rw[hv,Ta];have g:∀j y,ic (Z0 A cl) j y↔ic A j y:=λj y=>by rw[a,hv];simp
  refine h.step hk (o.st (h.ow k A hk)) h.hk (λp b e=>(h.hd hk b e).to o.kp.tb o.runs (λj y=>(e1 j y).2) g) (λ_ _=>Iff.rfl) (λj y m=>h.ht k A hk j y ((e1 j y).1 m)) λr hr=>h.hr k A hk r (by rw[←o.runs];exact hr)
 .obtain⟨j,rfl,_⟩:=d hv;rw[dH]at a;exact h.move hk o e1 λi y=>by
   rw[a];split
   .rename_i hx;simp[hx]
   .rename_i hx;simp[hx]
theorem WI.SV (h:WI W)(hk:W.bZ[k]?=some A){cl:Int}{l:List Int}(ho:jr W.held k cl l=true):WI (W.put k (KH A cl l) W.sp (if VR A cl l then Gr W.held k cl l true else W.held)):=by
 by_cases a:VR A cl l=true
 .have b:∃j:Nat,cl=j:=by
   have d:HY A cl l=0:=by
    unfold VR at a;simp only[zF,zV]at a;exact a.1
   have b:A.ck cl=true:=by
    unfold HY at d;split at d
    .assumption
    .cases d
   obtain⟨j,g,_⟩:=Gb.1 b;exact⟨j,g⟩
  obtain⟨j,rfl⟩:=b;obtain⟨o,e1,e2,_⟩:=M4 (h.ga k A hk) (j:Int) (xs:=l) (Vo.1 ho).2 (by rw[dH];exact h.xw hk ho rfl);obtain⟨_,_,e2⟩:=e2 a;rw[dH]at e2;rw[a,zC rfl];exact h.move hk o e1 λi y=>by
   rw[e2];split
   .rename_i hx;simp[hx]
   .rename_i hx;simp[hx]
 .have a:VR A cl l=false:=by simpa using a
  have e:KH A cl l=A:=by unfold KH;rw[a];rfl
  rw[a,e];exact AO hk h
theorem WI.xl (h:WI W)(hk:W.bZ[k]?=some A)(m a:Int):WI (W.put k (cC A W.sp m a).1 (cC A W.sp m a).2 (if Q3 A W.sp m a=0 then W.held++[⟨k, -1,QC A W.sp m a*256,m.toNat*256,false⟩]else W.held)):=by
 rcases Mf (h.ga k A hk) (h.ow k A hk) m a with⟨e,hE,_⟩|⟨x,A1,sp1,g,hE,hV,e,htk,hor,s,et,ek⟩
 .rw[zB hE,e];exact AO hk h
 .rw[zC hE,hV];have w:(cC A W.sp m a).1.runs=A.runs++[(x,m.toNat)]:=by rw[e]
  have z:∀r∈A.runs,r.1≠x:=by
   have hd:=s.ga.kQ;rw[w]at hd;intro r hr e2;have u:=(qO.1 hd).2.2 r hr (x,m.toNat) aA;have B:=(h.ga k A hk).gU r hr;have i:=s.ga.gU (x,m.toNat) (by rw[w];simp);simp only at u i;omega
  refine h.step hk s ?_ (λp g e=>?_) (λp C=>?_) (λj y E=>?_) λr hr=>?_
  .rw[zj,m9];refine⟨h.hk,by simp,λb D d hd e2=>?_⟩;subst e2;obtain⟨p,g,rfl⟩:=zE.1 D;simp only[zR,oC,zN,Pc.key,Prod.mk.injEq]at hd;obtain⟨_,r,hr,i,_⟩:=h.run g hd.2.1 (A:=A) (by rw[hd.1];exact hk);exact z r hr O
  .rcases zJ.1 g with g|g
   .rcases h.hd hk g e with⟨u,B,r,hr,i⟩|⟨j,c,u,B,i,h4,h5⟩
    .exact .inl ⟨u,B,r,by rw[w];exact kN _ hr,i⟩
    .exact .inr ⟨j,c,u,by rw[s.tb];exact B,i,(ek _ _).2 h4,by unfold ic at h5 ⊢;rw[et];exact h5⟩
   .simp only[zN]at g;subst g;exact .inl ⟨rfl,rfl,(x,m.toNat),by rw[w];simp,rfl,rfl⟩
  .rw[zJ];constructor
   .rintro(g|g)
    .exact g
    .simp only[zN]at g;subst g;exact(C rfl).elim
   .exact .inl
  .obtain⟨p,g,q⟩:=h.ht k A hk j y ((ek j y).1 E);exact⟨p,kN _ g,q⟩
  .rw[w]at hr;rcases zJ.1 hr with hr|hr
   .obtain⟨p,g,q⟩:=h.hr k A hk r hr;exact⟨p,kN _ g,q⟩
   .simp only[zN]at hr;subst hr;exact⟨_,oP _ (zN.2 rfl),rfl,rfl,rfl⟩
theorem WI.nC (h:WI W)(hk:W.bZ[k]?=some A){r:Nat×Nat}(hr:r∈A.runs):jr W.held k (-1) [(r.1:Int)*256]=true:=by
 refine Vo.2 ⟨λx b=>?_,by simp⟩;simp only[zN]at b;subst b;obtain⟨p,d,a,g,i⟩:=h.hr k A hk r hr;exact⟨p,d,Vm.2 ⟨a,g,O,(h.run d g (by rw[a];exact hk)).1⟩⟩
theorem WI.yC (h:WI W)(hk:W.bZ[k]?=some A)(x:Int):WI (W.put k (Kb A x) W.sp (if VB A x=0 then wR W.held k (-1) [x*256]else W.held)):=by
 have ga:=h.ga k A hk;obtain⟨⟨kp,g⟩,K,G,e1,e2⟩:=Sk ga x;by_cases h0:VB A x=0
 .rw[zC h0];obtain⟨r,hr,rfl,H⟩:=e2 h0;rw[h.AE (h.nC hk hr)];have m:∀p:Pc,eI k (-1) [(r.1:Int)*256] p=true↔p.k=k/\p.cls = -1/\p.addr=r.1*256:=λp=>by
   rw[QA];simp only[zN];constructor
   .rintro⟨a,b,c⟩;exact⟨a,b,O⟩
   .rintro⟨a,b,c⟩;exact⟨a,b,O⟩
  refine h.step hk (St.kp g (h.ow k A hk) kp) (UD h.hk _) (λp z e=>?_) (λp E=>?_) (λi y L=>?_) λq d=>?_
  .have s:=zK.1 z;have u:¬eI k (-1) [(r.1:Int)*256] p=true:=by simpa using s.2
   rw[m]at u;rcases h.hd hk s.1 e with⟨h1,h2,q,d,w⟩|⟨j,c,h1,h2,w,J,B⟩
   .refine .inl ⟨h1,h2,q,?_,w⟩;rw[H,zK];refine⟨d,?_⟩;have:q≠r:=by rintro rfl;exact u ⟨e,h1,w.1⟩
    simpa using this
   .exact .inr ⟨j,c,h1,by rw[kp.tb];exact h2,w,(G _ _).2 J,by unfold ic at B ⊢;rw[K];exact B⟩
  .rw[zK];have:eI k (-1) [(r.1:Int)*256] p=false:=by
    apply nX.2;intro hx;exact E (QA.1 hx).1
   rw[this];simp
  .obtain⟨p,z,D,F,C⟩:=h.ht k A hk i y ((G i y).1 L);refine⟨p,zK.2 ⟨z,?_⟩,D,F,C⟩;have:eI k (-1) [(r.1:Int)*256] p=false:=by
    apply nX.2;intro hx;have:=((m p).1 hx).2.1;omega
   rw[this];rfl
  .rw[H,zK]at d;obtain⟨p,z,D,F,C⟩:=h.hr k A hk q d.1;refine⟨p,zK.2 ⟨z,?_⟩,D,F,C⟩;have:eI k (-1) [(r.1:Int)*256] p=false:=by
    apply nX.2;intro hx;have w:=((m p).1 hx).2.2;have J:=ga.gU q d.1;have B:=ga.gU r hr;have:q=r:=ga.gV d.1 hr (x:=q.1) O O O O;subst this;simp at d
   rw[this];rfl
 .rw[zB h0,e1 h0];exact AO hk h
theorem WI.tick (h:WI W)(hk:W.bZ[k]?=some A):WI (W.put k (tv A) W.sp (y8 (W.bZ.set k (tv A)) W.held)):=by
 have ga:=h.ga k A hk;have t:=ξ ga;have s:=(cY.1 hk).1;have d:(W.bZ.set k (tv A))[k]?=some (tv A):=zO s;have bT:∀p∈W.held,p∈y8 (W.bZ.set k (tv A)) W.held↔(p.k=k->∀j:Nat,p.cls=j->fW (tv A) j (p.addr:Int)):=by
  intro p a;unfold y8;rw[zK];simp only[a,uP,nS,mJ];by_cases hpk:p.k=k
  .rw[hpk,d];simp only[true_implies];rcases h.hd hk a hpk with⟨h1,h2,r,hr,h3⟩|⟨j,c,h1,h2,h3,h4,h5⟩
   .exact⟨λ_ j w=>O,λ_=>.inl h2⟩
   .constructor
    .intro hx i hi;obtain rfl:i=j:=O
     rcases hx with hx|hx
     .refine(t.tk i _).2 ⟨h4,λu=>?_⟩;rw[h5.2 u]at hx;cases hx
     .rcases(C5 t.ob.ga).1 hx with⟨j',hj'⟩|⟨r,hr,e⟩
      .obtain⟨y,e,hf⟩:=((t.tk j' _).1 hj').1.find ga;obtain⟨H,J,b⟩:=h4.find ga;rw[hf]at b;have:j'=i:=by
        have:=congrArg Prod.fst (Option.some.inj b);simp only at this;omega
       rw[←this];exact hj'
      .rw[t.ob.runs]at hr;have:=ga.gU r hr;have G:=EH ga hr (x:=r.1*256) (zD _) O;obtain⟨H,J,b⟩:=h4.find ga;rw[e,G]at b;have:=congrArg Prod.fst (Option.some.inj b);simp only at this;omega
    .intro hx;by_cases hm:p.eV=true
     .exact .inr ((C5 t.ob.ga).2 (.inl ⟨j,hx j h1⟩))
     .exact .inl (by simpa using hm)
  .constructor
   .intro _ hx;exact(hpk hx).elim
   .intro _;obtain⟨C,E,K⟩:=h.hf p a;rw[zh (Ne.symm hpk),E];rcases K with⟨h1,h2,_⟩|⟨j,c,_,_,_,h4,_⟩
    .exact .inl h2
    .exact .inr ((C5 (h.ga _ C E)).2 (.inl ⟨j,h4⟩))
 have sub:∀p,p∈y8 (W.bZ.set k (tv A)) W.held->p∈W.held:=λp a=>(zK.1 a).1;refine h.step hk (t.ob.st (h.ow k A hk)) (UD h.hk _) (λp a e=>?_) (λp z=>⟨sub p,λa=>(bT p a).2 λe=>(z e).elim⟩) (λj y F=>?_) λr hr=>?_
 .have B:=(bT p (sub p a)).1 a e;rcases h.hd hk (sub p a) e with⟨h1,h2,r,hr,h3⟩|⟨j,c,h1,h2,h3,h4,h5⟩
  .exact .inl ⟨h1,h2,r,by rw[t.ob.runs];exact hr,h3⟩
  .have w:=B j h1;refine .inr ⟨j,c,h1,by rw[t.ob.kp.tb];exact h2,h3,w,?_⟩;rw[h5];exact⟨((t.tk j _).1 w).2,t.sub j _⟩
 .obtain⟨p,a,m,D,g⟩:=h.ht k A hk j y ((t.tk j y).1 F).1;refine⟨p,(bT p a).2 λ_ i hi=>?_,m,D,g⟩;obtain rfl:i=j:=O
  rw[g];exact F
 .rw[t.ob.runs]at hr;obtain⟨p,a,m,D,g⟩:=h.hr k A hk r hr;exact⟨p,(bT p a).2 λ_ i hi=>O,m,D,g⟩
theorem WI.pC (h:WI W){p:Pc}(hp:p∈W.held)(hk:W.bZ[p.k]?=some A){x:Nat}(h1:p.addr<=x)(h2:x<p.addr+p.size):A.f (x/256)=1:=by
 have ga:=h.ga _ A hk;rcases h.hd hk hp rfl with⟨_,_,r,hr,e1,e2⟩|⟨j,c,_,hc,e1,ht,_⟩
 .exact(ga.jD hr O O).1
 .obtain⟨d,u,a,b⟩:=ht;have:d=c:=Option.some.inj (a.1.symm.trans hc);subst this;have g:=ga.cG j d u a;obtain⟨l,s,i,m,hi,e,_⟩:=(Ue g).1 b;have w:p.addr=at_ d s i:=Int.ofNat.inj e;have:=GN g.pos hi (s:=s) (x:=x) O O;exact(ga.used a (zG m) this.1 this.2).1
theorem WI.write (h:WI W){x v:Int}(hi:I7 W.held x=true):WI {W with sp:=ZJ W.sp x v}:=by
 unfold I7 at hi;rw[zy]at hi;obtain⟨p,r,u⟩:=hi;simp only[zF,zV]at u;obtain⟨y,rfl⟩:=zc (show 0<=x by omega);obtain⟨A,hk,_⟩:=h.hf p r;have w:=h.pC r hk (x:=y) O O;have m:=(h.ow _ A hk).own (y/256) O;by_cases hacc:eP W.sp (y:Int)=0
 .have e:(ZJ W.sp (y:Int) v).st=W.sp.st.set (y/256) 2:=by
   unfold ZJ;rw[zC hacc];show W.sp.st.set (_/32) 2=_;rw[dH,show y/8/32=y/256 by omega]
  have g:=EM m;have d:∀q,gf (ZJ W.sp (y:Int) v).st q=if q=y/256 then 2 else gf W.sp.st q:=λq=>by
   rw[e];unfold gf;simp only[zQ];by_cases a:q=y/256
   .subst a;rw[zO g,zC rfl];rfl
   .rw[zh (Ne.symm a),zB a]
  have i:∀q,gf (ZJ W.sp (y:Int) v).st q≠0↔gf W.sp.st q≠0:=λq=>by
   rw[d];split
   .rename_i a;subst a;simp[m]
   .exact Iff.rfl
  refine⟨h.ga,λj C b=>?_,h.tb,h.low,λq a=>h.own q ((i q).1 a),h.one,h.hk,h.hf,h.ht,h.hr⟩;have o:=h.ow j C b;refine⟨by show(ZJ W.sp (y:Int) v).st.length=_;rw[e,pH];exact o.l,λq a=>(i q).2 (o.own q a),λq a=>?_,λq=>?_⟩
  .show gf (ZJ W.sp (y:Int) v).st q=1;rw[d,zB]
   .exact o.cl q a
   .rintro rfl;have s:j=p.k:=h.one (y/256) j p.k C A b hk O O;subst s;rw[hk]at b;cases b;omega
  .show gf (ZJ W.sp (y:Int) v).st q<=2;rw[d];have:=o.le q;split<;>omega
 .have e:ZJ W.sp (y:Int) v=W.sp:=by unfold ZJ;rw[zB hacc]
  rw[e];exact h
theorem fW.lt (h:GA A){j:Nat}{x:Int}(hx:fW A j x):∃y:Nat,x=y/\y<262144:=by
 obtain⟨c,r,d,m⟩:=hx;have a:=h.cG j c r d;obtain⟨l,s,i,g,hi,rfl,w⟩:=(Ue a).1 m;have b:=GN a.pos (s:=s) (x:=at_ c s i) hi (zD _) (by have:=a.pos;omega);have u:=(h.used d (zG g) b.1 b.2).1;have:=h.pg.lt (p:=at_ c s i/256) O;have:=h.pg.n2;exact⟨_,rfl,O⟩
theorem WI.jW (h:WI W){p:Pc}(hp:p∈W.held):p.addr<262144/\p.addr+p.size<=270000:=by
 obtain⟨A,i,d⟩:=h.hf p hp;have ga:=h.ga _ A i;have u:=ga.pg.n2;rcases d with⟨_,_,r,hr,h1,h2⟩|⟨j,c,_,hc,h2,h3,_⟩
 .have x:=ga.fit hr;have s:=ga.gU r hr;omega
 .obtain⟨y,e,w⟩:=h3.lt ga;obtain⟨g,m,a,_⟩:=h3;have:g=c:=Option.some.inj (a.1.symm.trans hc);subst this;have b:=(ga.cG j _ m a).ok;unfold cA.ok at b;omega
theorem LQ:∀(N:Nat) (l:List Nat),l.Nodup->(∀x∈l,x<N)->l.length<=N
 | 0,l,_,h=>by
  cases l with
  | nil=>simp
  | cons x l=>have:=h x aA;omega
 | N+1,l,hn,h=>by
  have g:=LQ N (l.filter (· != N)) (hn.sublist uB) λx b=>by
   have b:=zK.1 b;have:=h x b.1;have:x≠N:=by simpa using b.2
   omega
  have d:=List.length_eq_countP_add_countP (l:=l) (p:=(· != N));have i:l.countP (λa=>¬(a != N)=true)<=1:=by
   have e:l.countP (λa=>¬(a != N)=true)=l.count N:=by
    unfold List.count;apply List.countP_congr;intro x _;simp
   rw[e];exact Dc.1 hn N
  rw[AK]at d;omega
theorem WI.apart (h:WI W){p q:Pc}(hp:p∈W.held)(hq:q∈W.held){x:Nat}(p1:p.addr<=x)(p2:x<p.addr+p.size)(q1:q.addr<=x)(q2:x<q.addr+q.size):p=q:=by
 obtain⟨A,m,J⟩:=h.hf p hp;obtain⟨B,y,D⟩:=h.hf q hq;have e1:=h.pC hp m p1 p2;have e2:=h.pC hq y q1 q2;have z:p.k=q.k:=h.one (x/256) p.k q.k A B m y O O;rw[←z,m]at y;cases y;have ga:=h.ga _ A m;have K:=ga.tb;have own:∀{r:Pc},Hd A r->r.addr<=x->x<r.addr+r.size->(r.cls = -1/\A.ow (x/256)=41/\∃u∈A.runs,r.addr=u.1*256/\u.1<=x/256/\x/256<u.1+u.2) ∨
  ∃(j:Nat) (c:cA) (b:List cH) (l:Nat) (s:cH) (i:Nat),r.cls=j/\A.ow (x/256)=j+1/\Cl A j c b/\b[l]?=some s/\i<c.n/\r.addr=at_ c s i/\r.size=c.size:=by
  intro r hr r1 r2;rcases hr with⟨c1,_,u,hu,c2,c3⟩|⟨j,c,c1,c2,c3,c4,_⟩
  .exact .inl ⟨c1,(ga.jD hu O O).2,u,hu,c2,O,O⟩
  .obtain⟨d,b,a,G⟩:=c4;have:d=c:=Option.some.inj (a.1.symm.trans c2);subst this;have C:=ga.cG j d b a;obtain⟨l,s,i,E,hi,e,_⟩:=(Ue C).1 G;have H:r.addr=at_ d s i:=Int.ofNat.inj e;have g:=GN C.pos (s:=s) (x:=x) hi O O;exact .inr ⟨j,d,b,l,s,i,c1,(ga.used a (zG E) g.1 g.2).2,a,E,hi,H,c3⟩
 refine h.unique hp hq ?_;rcases own J p1 p2 with⟨a1,a2,u,hu,a3,a4,a5⟩|⟨j,c,b,l,s,i,a1,a2,a3,a4,a5,a6,a7⟩
 .rcases own D q1 q2 with⟨b1,b2,w,hw,b3,b4,b5⟩|⟨j',d,ss',l',s',i',b1,b2,b3,b4,b5,b6,b7⟩
  .have:=ga.gV hu hw a4 a5 b4 b5;subst this;unfold Pc.key;rw[z,a1,b1,a3,b3]
  .have:=b3.lt;omega
 .rcases own D q1 q2 with⟨b1,b2,w,hw,b3,b4,b5⟩|⟨j',d,ss',l',s',i',b1,b2,b3,b4,b5,b6,b7⟩
  .have:=a3.lt;omega
  .have F:j=j':=O
   subst F;obtain⟨rfl,rfl⟩:=a3.eq b3;have:=U2 (ga.cG j c b a3) a4 b4 a5 b5 (x:=x) O O O O;unfold Pc.key;rw[z,a1,b1,a6,b6,this.2.1,this.2.2]
theorem WI.size_pos (h:WI W){p:Pc}(hp:p∈W.held):8<=p.size/\p.size%8=0:=by
 obtain⟨A,i,d⟩:=h.hf p hp;have ga:=h.ga _ A i;rcases d with⟨_,_,r,hr,h1,h2⟩|⟨j,c,_,hc,h2,h3,_⟩
 .have s:=ga.gU r hr;omega
 .obtain⟨g,m,a,_⟩:=h3;have:g=c:=Option.some.inj (a.1.symm.trans hc);subst this;have b:=(ga.cG j _ m a).ok;unfold cA.ok at b;omega
theorem WI.len (h:WI W):W.held.length<=262144:=by
 have s:(W.held.map (·.addr)).Nodup:=by
  have g:=mB.1 h.hk;refine mB.2 λi j hi m d e=>?_;have a:i<W.held.length:=by simpa using hi
  have b:j<W.held.length:=by simpa using m
  refine g i j (by simpa using a) (by simpa using b) d ?_;simp only[tP]at e ⊢;have s1:=(h.size_pos (ky a)).1;have s2:=(h.size_pos (ky b)).1;rw[h.apart (ky a) (ky b) (x:=W.held[i].addr) (zD _) O O O]
 have:=LQ 262144 _ s λx r=>by
  obtain⟨p,u,rfl⟩:=zE.1 r;exact(h.jW u).1
 simpa using this
end Go.Ar
namespace Go.Ar
open Go.Vc (bS cX cO)
def my (live:List (Int×Bk))(k x:Int):Nat:=live.countP λe=>e.2.2.2.1==k&&e.1==x
def l0 (ls:List Li)(k x:Int):Nat:=if 0<=k then(ls.getD k.toNat im).os.count x else 0
def lR (bs:List Bt)(k x:Int):Nat:=(bs.map λb=>if(b.1:Int)=k then b.2.count x else 0).sum
def jL (p:Option Ph)(k x:Int):Nat:=match p with
 | some (.dF s _)=>if k = -1/\x=s*256 then 1 else 0
 | _=>0
def gT (g:Th)(k x:Int):Nat:=l0 g.ls k x+lR g.bQ k x+jL g.ph k x
def rm (H:Hw)(k x:Int):Nat:=my H.live k x+(H.bR.map λg=>gT g k x).sum
def Um (held:List Pc)(k x:Int):Prop:=∃p∈held,p.eV=false/\p.cls=k/\(p.addr:Int)=x
open Classical in
noncomputable def lH (held:List Pc)(k x:Int):Nat:=if Um held k x then 1 else 0
theorem Fi (held:List Pc)(k x:Int):lH held k x<=1:=by unfold lH;split<;>omega
theorem CM {held:List Pc}{k x:Int}(h:1<=lH held k x):Um held k x:=by
 unfold lH at h;split at h
 .assumption
 .omega
theorem Ua {held:List Pc}{k x:Int}(h:Um held k x):lH held k x=1:=by unfold lH;rw[zC h]
theorem KT {held:List Pc}{k x:Int}(h:¬Um held k x):lH held k x=0:=by unfold lH;rw[zB h]
theorem J8 {l:List Int}(hn:l.Nodup)(x:Int):l.count x=if x∈l then 1 else 0:=by
 split
 .rename_i h;have a:=Dc.1 hn x;have b:=CI.2 h;omega
 .rename_i h;exact AW.2 h
theorem C6 {held held':List Pc}{cl:Int}{l:List Int}(hn:l.Nodup)(h0:∀x∈l,¬Um held cl x)(h:∀k x,Um held' k x↔Um held k x\/(k=cl/\x∈l))(k x:Int):lH held' k x=lH held k x+(if cl=k then l.count x else 0):=by
 by_cases hk:cl=k
 .subst hk;rw[zC rfl,J8 hn];by_cases hx:x∈l
  .rw[zC hx,KT (h0 x hx),Ua ((h _ _).2 (.inr ⟨rfl,hx⟩))]
  .rw[zB hx,kr];by_cases hu:Um held cl x
   .rw[Ua hu,Ua ((h _ _).2 (.inl hu))]
   .rw[KT hu,KT λa=>by rcases(h _ _).1 a with a|⟨_,a⟩;exact hu a;exact hx a]
 .rw[zB hk,kr];by_cases hu:Um held k x
  .rw[Ua hu,Ua ((h _ _).2 (.inl hu))]
  .rw[KT hu,KT λa=>by rcases(h _ _).1 a with a|⟨a,_⟩;exact hu a;exact hk a.symm]
theorem Jc {held held':List Pc}{cl:Int}{l:List Int}(hn:l.Nodup)(h0:∀x∈l,Um held cl x)(h:∀k x,Um held' k x↔Um held k x/\¬(k=cl/\x∈l))(k x:Int):lH held k x=lH held' k x+(if cl=k then l.count x else 0):=by
 by_cases hk:cl=k
 .subst hk;rw[zC rfl,J8 hn];by_cases hx:x∈l
  .rw[zC hx,Ua (h0 x hx),KT λa=>((h _ _).1 a).2 ⟨rfl,hx⟩]
  .rw[zB hx,kr];by_cases hu:Um held cl x
   .rw[Ua hu,Ua ((h _ _).2 ⟨hu,λa=>hx a.2⟩)]
   .rw[KT hu,KT λa=>hu ((h _ _).1 a).1]
 .rw[zB hk,kr];by_cases hu:Um held k x
  .rw[Ua hu,Ua ((h _ _).2 ⟨hu,λa=>hk a.1.symm⟩)]
  .rw[KT hu,KT λa=>hu ((h _ _).1 a).1]
theorem FV {α:Type}(f:α->Nat):∀{l:List α} {t:Nat} {g:α} (g':α),l[t]?=some g->((l.set t g').map f).sum+f g=(l.map f).sum+f g'
 | [],t,g,g',h=>by simp at h
 | a::l,0,g,g',h=>by
  simp only[yH,Option.some.injEq]at h;subst h;simp only[List.set_cons_zero,zR,oA];omega
 | a::l,t+1,g,g',h=>by
  have:=FV f (l:=l) (t:=t) g' (by simpa using h);simp only[tG,zR,oA];omega
theorem Cn {α:Type}(f:α->Nat){l:List α}{g:α}(h:g∈l):f g<=(l.map f).sum:=by
 induction l with
 | nil=>simp at h
 | cons a l ih=>
  simp only[zR,oA];rcases zW.1 h with rfl|h
  .omega
  .have:=ih h;omega
theorem yr (ls:List Li)(k:Nat)(x:Int):l0 ls (k:Int) x=(ls.getD k im).os.count x:=by
 unfold l0;rw[zC O,dH]
theorem LF {ls:List Li}{j:Nat}(l:Li)(k:Nat)(h:j<ls.length):(ls.set j l).getD k im=if k=j then l else ls.getD k im:=by
 rw[zQ,nU];by_cases hkj:k=j
 .subst hkj;simp[h]
 .rw[zB hkj,zB (Ne.symm hkj),zQ]
theorem NM {ls:List Li}{j:Nat}(l:Li)(h:j<ls.length)(k x:Int):l0 (ls.set j l) k x+(if(j:Int)=k then(ls.getD j im).os.count x else 0)=l0 ls k x+(if(j:Int)=k then l.os.count x else 0):=by
 by_cases hk:0<=k
 .obtain⟨k,rfl⟩:=zc hk;rw[yr,yr,LF l k h];by_cases hjk:j=k
  .subst hjk;simp;omega
  .have:¬(j:Int)=(k:Int):=O
   rw[zB (Ne.symm hjk),zB this,zB this]
 .unfold l0;rw[zB hk,zB hk,zB O,zB O]
theorem V6 (k x:Int):lR [] k x=0:=rfl
theorem Vs (b:Bt)(bs:List Bt)(k x:Int):lR (b::bs) k x=(if(b.1:Int)=k then b.2.count x else 0)+lR bs k x:=by
 unfold lR;rw[zR,oA]
theorem I0 (a b:List Bt)(k x:Int):lR (a++b) k x=lR a k x+lR b k x:=by
 unfold lR;rw[zj,List.sum_append]
theorem I9 {f:cA->Li->List Int×Li}(hf:∀c l x,(f c l).1.count x+(f c l).2.os.count x=l.os.count x){tb:List cA}{ls:List Li}(hl:ls.length=tb.length)(k x:Int):lR (KN f tb ls) k x+l0 (KG f tb ls) k x=l0 ls k x:=by
 have key:∀n,n<=tb.length->lR ((List.range n).filterMap λk=>match tb[k]?,ls[k]? with
  | some c,some l=>if(f c l).1=[]then none else some (k,(f c l).1)
  | _,_=>none) k x=if 0<=k/\k<(n:Int)then(match tb[k.toNat]?,ls[k.toNat]? with
  | some c,some l=>(f c l).1.count x
  | _,_=>0)else 0:=by
  intro n
  induction n with
  | zero=>intro _;rw[zB O];rfl
  | succ n i=>
   intro hn;have i:=i O;rw[qN,xD,I0,i];have d:tb[n]?=some tb[n]:=cW O;have a:ls[n]?=some ls[n]:=cW O;have e:lR ([n].filterMap λk=>match tb[k]?,ls[k]? with
    | some c,some l=>if(f c l).1=[]then none else some (k,(f c l).1)
    | _,_=>none) k x=if(n:Int)=k then(f tb[n] ls[n]).1.count x else 0:=by
    rw[CJ,d,a];simp only;by_cases he:(f tb[n] ls[n]).1=[]
    .rw[zC he,he];simp[V6]
    .rw[zB he];simp only[List.filterMap_nil,Vs,V6,kr]
   rw[e];by_cases b:0<=k/\k<(n:Int)
   .rw[zC b,zB (show ¬(n:Int)=k by omega),kr,zC (show 0<=k/\k<((n+1:Nat):Int)from⟨b.1,O⟩)]
   .rw[zB b,zH];by_cases g:(n:Int)=k
    .subst g;rw[zC rfl,zC (show(0:Int)<=(n:Int)/\(n:Int)<((n+1:Nat):Int)from⟨O,O⟩),dH,d,a]
    .rw[zB g,zB O]
 have b:=key tb.length (zD _);have e:KN f tb ls=(List.range tb.length).filterMap λk=>match tb[k]?,ls[k]? with
  | some c,some l=>if(f c l).1=[]then none else some (k,(f c l).1)
  | _,_=>none:=rfl
 rw[e,b];by_cases hk:0<=k
 .obtain⟨k,rfl⟩:=zc hk;rw[yr,yr,dH];by_cases hkl:k<tb.length
  .have d:tb[k]?=some tb[k]:=cW hkl;have a:ls[k]?=some ls[k]:=cW O;rw[zC ⟨O,O⟩,d,a];simp only;have:(KG f tb ls).getD k im=(f tb[k] ls[k]).2:=by
    unfold KG;rw[zQ,Eu,d,a];rfl
   rw[this,zQ,a];exact hf _ _ _
  .rw[zB O,zH];have b:(KG f tb ls).getD k im=im:=by
    unfold KG;rw[zQ,zX (by rw[List.length_zipWith];omega)];rfl
   have g:ls.getD k im=im:=by rw[zQ,zX O];rfl
   rw[b,g]
 .rw[zB O,zH];unfold l0;rw[zB hk,zB hk]
theorem CL (m:Nat)(l:Li)(x:Int):(gO m l).1.count x+(gO m l).2.os.count x=l.os.count x:=by
 show(l.os.take m).count x+(l.os.drop m).count x=_;rw[←xC,oQ]
theorem MI (c:cA)(l:Li)(x:Int):(Vz c l).1.count x+(Vz c l).2.os.count x=l.os.count x:=CL _ l x
theorem NL (c:cA)(l:Li)(x:Int):(Z9 c l).1.count x+(Z9 c l).2.os.count x=l.os.count x:=CL _ l x
theorem Tg (c:cA)(y:Int)(l:Li)(hl:l.os.length<=255)(x:Int):(dO c y l).1.count x+(dO c y l).2.os.count x=l.os.count x + [y].count x:=by
 have a:(eM [y] l).os=l.os++[y]:=by
  unfold eM;rw[zB aE]
 unfold dO;rw[zB O];split
 .rw[a,List.count_nil,zH,xC]
 .rw[CL];have:(mI c (eM [y] l)).os=(eM [y] l).os:=by unfold mI;split<;>rfl
  rw[this,a,xC]
theorem Jm {c:cA}{l l':Li}{y:Int}(h:KM c l=(some y,l'))(x:Int):l.os.count x=l'.os.count x + [y].count x:=by
 unfold KM at h;split at h
 .simp at h
 .rename_i z hz;cases h;have:l.os=l.os.dropLast++[y]:=by
   obtain⟨b,a⟩:=List.getLast?_eq_some_iff.1 hz;rw[a];simp
  conv=>lhs;rw[this]
  rw[xC]
theorem γ {c:cA}{l l':Li}(h:KM c l=(none,l')):l.os=[]/\l'.os=[]:=by
 unfold KM at h;split at h
 .rename_i hz;have:l.os=[]:=by simpa using hz
  cases h;refine⟨this,?_⟩;split<;>exact this
 .simp at h
theorem El {live:List (Int×Bk)}{x:Int}(b:Bk)(h:bS live x=none)(k y:Int):my (cX live x b) k y=my live k y+(if b.2.2.1=k then[x].count y else 0):=by
 have a:live.any (λe=>e.1==x)=false:=by
  rw[mG];intro e he hx;unfold bS at h;rw[sP,oD]at h;exact h e he hx
 unfold cX;rw[a,zB aA];unfold my;rw[List.countP_append]
 congr 1
 rw[xU,List.countP_nil,zH];by_cases h1:b.2.2.1=k
 .by_cases h2:x=y
  .subst h2;simp[h1]
  .simp[h1,h2]
 .simp[h1]
theorem HW {live:List (Int×Bk)}{x:Int}{b:Bk}(h:bS live x=none){e:Int×Bk}:e∈cX live x b↔e∈live\/e=(x,b):=by
 have a:live.any (λe=>e.1==x)=false:=by
  rw[mG];intro e he hx;unfold bS at h;rw[sP,oD]at h;exact h e he hx
 unfold cX;rw[a,zB aA,zJ,zN]
theorem yM {live:List (Int×Bk)}{x:Int}{e:Int×Bk}:e∈cO live x↔e∈live/\e.1≠x:=by
 unfold cO;rw[zK];simp
theorem C4:∀{live:List (Int×Bk)} {x:Int} {b:Bk},(live.map (·.1)).Nodup->bS live x=some b->∀k y,my live k y=my (cO live x) k y+(if b.2.2.1=k then[x].count y else 0)
 | [],x,b,_,h,_,_=>by simp[bS]at h
 | e::l,x,b,hn,h,k,y=>by
  rw[zR,zr]at hn;by_cases he:e.1=x
  .have hb:e.2=b:=by
    unfold bS at h;rw[List.find?_cons_of_pos (by simpa using he)]at h;simpa using h
   have hd:cO (e::l) x=l:=by
    unfold cO;rw[vE (by simpa using he),qG];intro a ha;have:a.1≠x:=λg=>hn.1 (zE.2 ⟨a,ha,g.trans he.symm⟩);simpa using this
   rw[hd];unfold my;rw[xU,hb,he]
   congr 1
   by_cases h1:b.2.2.1=k
   .by_cases h2:x=y
    .subst h2;simp[h1]
    .simp[h1,h2]
   .simp[h1]
  .have i:bS l x=some b:=by
    unfold bS at h ⊢
    rwa [List.find?_cons_of_neg (by simpa using he)]at h
   have d:=C4 hn.2 i k y;have hd:cO (e::l) x=e::cO l x:=by
    unfold cO;rw[vM (by simpa using he)]
   rw[hd];unfold my at d ⊢;rw[xU,xU,d];omega
theorem IU {live:List (Int×Bk)}{e:Int×Bk}(h:e∈live):1<=my live e.2.2.2.1 e.1:=by
 unfold my;exact List.countP_pos_iff.2 ⟨e,h,by simp⟩
structure jJ (s s':Sp):Prop where
 l:s'.st.length=s.st.length
 z:∀p,gf s'.st p=0↔gf s.st p=0
 w:s'.wd=s.wd
def iy (m:Nat)(g:Th):Prop:=match g.ph with
 | none=>g.bQ=[]
 | some (.take k)=>g.bQ=[]/\k<m
 | some (.cJ k w)=>g.bQ=[]/\k<m/\(g.li k).os=[]/\1<=w/\w<=32
 | some (.cL k w)=>g.bQ=[]/\k<m/\(g.li k).os=[]/\1<=w/\w<=32
 | some (.grow k w)=>g.bQ=[]/\k<m/\(g.li k).os=[]/\1<=w/\w<=32
 | some .fill=>∃k x xs,g.bQ=[(k,x::xs)]/\k<m/\(g.li k).os=[]/\xs.length<=128
 | some (.eT n)=>g.bQ=[]/\1<=n/\n<=64
 | some (.find x)=>g.bQ=[]/\iN x
 | some (.put k x)=>g.bQ=[(k,[x])]/\k<m
 | some .back=>g.bQ≠[]
 | some (.dF _ _)=>g.bQ=[]
 | some .drain=>g.bQ=[]
structure uV (m:Nat) (g:Th):Prop where
 ll:g.ls.length=m
 lo:∀l∈g.ls,fP l/\l.os.length<=128
 hb:∀b∈g.bQ,b.1<m/\b.2≠[]/\b.2.length<=256
 hl:g.bQ.length<=41
 ph:iy m g
def Lv (held:List Pc)(e:Int×Bk):Prop:=e.2.1=e.1/\∃p∈held,p.eV=false/\p.cls=e.2.2.2.1/\(p.addr:Int)=e.1/\e.2.2.1=(p.size:Int)/\e.2.2.2.2=(p.k:Int)
def Gv (held:List Pc)(s a:Int):Prop:=∃p∈held,p.eV=false/\p.cls = -1/\(p.addr:Int)=s*256/\a=(p.k:Int)
structure HI (H:Hw) (held:List Pc) (s0:Sp):Prop where
 wi:WI ⟨H.tb,s0,H.bZ,held⟩
 nj:jJ s0 H.sp
 cn:∀k x,rm H k x=lH held k x
 lk:(H.live.map (·.1)).Nodup
 lv:∀e∈H.live,Lv held e
 gv:∀g∈H.bR,∀s a,g.ph=some (.dF s a)->Gv held s a
 th:∀g∈H.bR,uV H.tb.length g
 ok:∀c∈H.tb,c.ok
 a1:1<=H.bZ.length
 sl:H.sp.st.length=H.cf.aG
variable {H:Hw}{held:List Pc}{s0:Sp}{t k:Nat}{g:Th}{A:AR}
theorem jJ.refl (s:Sp):jJ s s:=⟨rfl,λ_=>Iff.rfl,rfl⟩
theorem HI.apart (h:HI H held s0){p q:Pc}(hp:p∈held)(hq:q∈held){x:Nat}(p1:p.addr<=x)(p2:x<p.addr+p.size)(q1:q.addr<=x)(q2:x<q.addr+q.size):p=q:=h.wi.apart hp hq p1 p2 q1 q2
theorem WI.same {W:Wd}(h:WI W){p q:Pc}(hp:p∈W.held)(hq:q∈W.held)(e:p.addr=q.addr):p=q:=by
 have a:=(h.size_pos hp).1;have b:=(h.size_pos hq).1;exact h.apart hp hq (x:=p.addr) (zD _) O O O
theorem WI.um {W:Wd}(h:WI W){p:Pc}(hp:p∈W.held){k x:Int}(hu:Um W.held k x)(e:(p.addr:Int)=x):p.eV=false/\p.cls=k:=by
 obtain⟨q,d,b,a,g⟩:=hu;obtain rfl:=h.same hp d O;exact⟨b,a⟩
theorem HI.nf (h:HI H held s0){e:Int×Bk}(he:e∈H.live):Um held e.2.2.2.1 e.1:=by
 obtain⟨_,p,g,a,b,d,_⟩:=h.lv e he;exact⟨p,g,a,b,d⟩
theorem HI.px (h:HI H held s0){g:Th}(hg:g∈H.bR)(k x:Int):gT g k x<=lH held k x:=by
 rw[←h.cn];unfold rm;have:=Cn (λg=>gT g k x) hg;omega
theorem HI.rh (h:HI H held s0){g:Th}(hg:g∈H.bR){k x:Int}(hc:1<=gT g k x):Um held k x:=CM (kD hc (h.px hg k x))
theorem HI.l8 (h:HI H held s0){g:Th}(hg:g∈H.bR){k x:Int}(hc:1<=gT g k x):bS H.live x=none:=by
 cases hm:bS H.live x with
 | none=>rfl
 | some b=>
  have i:=YT hm;have j:=h.rh hg hc;obtain⟨q,u,y,m,r⟩:=h.nf i;have s:k=b.2.2.1:=by
   have:=(h.wi.um (W:=⟨H.tb,s0,H.bZ,held⟩) u j r).2;exact this.symm.trans m
  have w:=IU i;have a:=h.cn k x;have p:=Fi held k x;have d:=Cn (λg=>gT g k x) hg;simp only at w d;unfold rm at a;rw[s]at a p d hc;omega
theorem HI.uH (h:HI H held s0){x:Int}(hn:∀k,¬Um held k x):bS H.live x=none:=by
 cases hm:bS H.live x with
 | none=>rfl
 | some b=>exact(hn _ (h.nf (YT hm))).elim
theorem HI.eX (h:HI H held s0)(hg:H.bR[t]?=some g){g':Th}{live':List (Int×Bk)}{s0' sp':Sp}{ars':List AR}{held':List Pc}(wi:WI ⟨H.tb,s0',ars',held'⟩)(nj:jJ s0' sp')(hsl:sp'.st.length=H.sp.st.length)(hl:ars'.length=H.bZ.length)
 (sub:∀p∈held',p.eV=false->p∈held\/∀k,¬Um held k (p.addr:Int))
 (cn:∀k x,my live' k x+gT g' k x+lH held k x=my H.live k x+gT g k x+lH held' k x)
 (lk:(live'.map (·.1)).Nodup) (lv:∀e∈live',e∈H.live\/Lv held' e) (gv:∀s a,g'.ph=some (.dF s a)->Gv held' s a) (th:uV H.tb.length g') :
 HI {H with live:=live',sp:=sp',bZ:=ars',bR:=H.bR.set t g'} held' s0':=by
 have u:∀k x,rm {H with live:=live',sp:=sp',bZ:=ars',bR:=H.bR.set t g'} k x=lH held' k x:=λk x=>by
  have b:=h.cn k x;have r:=cn k x;have i:=FV (λg=>gT g k x) g' hg;unfold rm at b ⊢;simp only at i ⊢;omega
 have G:=(cY.1 hg).1;have bT:∀p∈held,p.eV=false->Um held' p.cls (p.addr:Int)->p∈held':=λp m E ⟨q,B,b,r,i⟩=>by
  rcases sub q B b with hs|hs
  .have:q=p:=h.wi.same (W:=⟨H.tb,s0,H.bZ,held⟩) hs m O;rw[←this];exact B
  .exact(hs p.cls ⟨p,m,E,rfl,i.symm⟩).elim
 refine⟨wi,nj,u,lk,λe A=>?_,λw d s a m=>?_,λw d=>?_,h.ok,by simp only;rw[hl];exact h.a1,hsl.trans h.sl⟩
 .rcases lv e A with he'|he'
  .obtain⟨D,p,m,b,r,i,z⟩:=h.lv e he';refine⟨D,p,bT p m b ?_,b,r,i,z⟩;rw[r,i];apply CM;rw[←u];have:1<=my live' e.2.2.2.1 e.1:=IU A;unfold rm;simp only;omega
  .exact he'
 .rcases List.mem_iff_getElem?.1 d with⟨j,hj⟩;rcases VK hj with⟨rfl,rfl,_⟩|⟨hne,hj'⟩
  .exact gv s a m
  .obtain⟨p,y,b,r,i,z⟩:=h.gv w (zG hj') s a m;refine⟨p,bT p y b ?_,b,r,i,z⟩;rw[r,i];apply CM;rw[←u];have C:=Cn (λg=>gT g (-1) (s*256)) d;have F:1<=gT w (-1) (s*256):=by unfold gT;rw[m];simp[jL]
   unfold rm;simp only at C ⊢;omega
 .rcases List.mem_iff_getElem?.1 d with⟨j,hj⟩;rcases VK hj with⟨rfl,rfl,_⟩|⟨hne,hj'⟩
  .exact th
  .exact h.th w (zG hj')
theorem HI.kP (h:HI H held s0)(hg:H.bR[t]?=some g){g':Th}{live':List (Int×Bk)}(cn:∀k x,my live' k x+gT g' k x=my H.live k x+gT g k x)(lk:(live'.map (·.1)).Nodup)(lv:∀e∈live',e∈H.live\/Lv held e)
 (gv:∀s a,g'.ph=some (.dF s a)->Gv held s a) (th:uV H.tb.length g'):HI {H with live:=live',bR:=H.bR.set t g'} held s0:=
 h.eX hg h.wi h.nj rfl rfl (λp b _=>.inl b) (λk x=>by have:=cn k x;omega) lk lv gv th
theorem RU {A:AR}{x:Int}:oT A x=true↔0<=x/\A.f x.toNat≠0:=by
 unfold oT AR.f gf;simp
theorem WI.owner {W:Wd}(h:WI W){p:Pc}(hp:p∈W.held){x:Nat}(h1:p.addr<=x)(h2:x<p.addr+p.size):XS W.bZ (x:Int)=(p.k:Int):=by
 obtain⟨A,b,_⟩:=h.hf p hp;have g:=h.pC hp b h1 h2;have a:=(cY.1 b).1;have own:∀(j:Nat) (B:AR),W.bZ[j]?=some B->(oT B ((x:Int)/256)=true↔j=p.k):=λj B d=>by
  have e:((x:Int)/256).toNat=x/256:=O
  rw[RU,e];constructor
  .rintro⟨_,hf⟩;exact h.one (x/256) j p.k B A d b hf O
  .rintro rfl;rw[b]at d;cases d;exact⟨O,O⟩
 unfold XS;rw[zB O];have hf:W.bZ.findIdx? (λA=>oT A ((x:Int)/256))=some p.k:=by
  rw[nV];refine⟨a,(own p.k _ (cW a)).2 rfl,λj i=>?_⟩;have:=own j W.bZ[j] (cW O);intro hx;have:=this.1 hx;omega
 rw[hf]
theorem HI.owner (h:HI H held s0){p:Pc}(hp:p∈held){x:Nat}(h1:p.addr<=x)(h2:x<p.addr+p.size):XS H.bZ (x:Int)=(p.k:Int):=h.wi.owner (W:=⟨H.tb,s0,H.bZ,held⟩) hp h1 h2
theorem HI.pJ (h:HI H held s0){p:Pc}(hp:p∈held):XS H.bZ (p.addr:Int)=(p.k:Int):=h.owner hp (zD _) (by have:=(h.wi.size_pos (W:=⟨H.tb,s0,H.bZ,held⟩) hp).1;omega)
theorem HI.i63 (h:HI H held s0){k x:Int}(hu:Um held k x):iN x/\0<=x/\0<=XS H.bZ x:=by
 obtain⟨p,a,_,_,rfl⟩:=hu;have:=(h.wi.jW (W:=⟨H.tb,s0,H.bZ,held⟩) a).1;refine⟨by unfold iN;omega,O,?_⟩;rw[h.pJ a];omega
end Go.Ar
namespace Go.Ar
open Go.Vc (bS cX cO)
open Go.Bu (ZF)
structure KS (s s':Sp):Prop where
 l:s'.st.length=s.st.length
 k:∀p,gf s.st p≠0->gf s'.st p≠0/\∀w,w/32=p->s'.wd w=s.wd w
theorem KS.refl (s:Sp):KS s s:=⟨rfl,λp a=>⟨a,λ_ _=>rfl⟩⟩
theorem KS.trans {a b c:Sp}(h:KS a b)(k:KS b c):KS a c:=⟨k.l.trans h.l,λp d=>⟨(k.k p (h.k p d).1).1,λw g=>((k.k p (h.k p d).1).2 w g).trans ((h.k p d).2 w g)⟩⟩
variable {s s' sp sp' s0 s0':Sp}{A B:AR}{k:Nat}
theorem jJ.mz (h:jJ s s'):s'.st.map (λx=>decide (x=0))=s.st.map λx=>decide (x=0):=by
 refine zt λi=>?_;rw[zZ,zZ];have a:=h.z i;unfold gf at a;rw[zQ,zQ]at a;by_cases hi:i<s.st.length
 .have b:i<s'.st.length:=by rw[h.l];exact hi
  rw[cW hi,cW b]at a ⊢;simp only[qL]at a;simp[a]
 .have d:=h.l;rw[zX O,zX O]
theorem Oh {l l':List Nat}(h:l'.map (λx=>decide (x=0))=l.map λx=>decide (x=0))(a m:Nat)(f:Bool->Bool):((l'.drop a).take m).any (λx=>f (decide (x=0)))=((l.drop a).take m).any λx=>f (decide (x=0)):=by
 have e:∀l:List Nat,((l.drop a).take m).any (λx=>f (decide (x=0)))=(((l.map λx=>decide (x=0)).drop a).take m).any f:=λl=>by
  rw[←List.map_drop,←List.map_take,List.any_map];rfl
 rw[e,e,h]
theorem jJ.fF (h:jJ s s')(a m:Int):fF s' a m=fF s a m:=by
 unfold Go.Ar.fF;rw[h.l];have:=Oh h.mz a.toNat m.toNat (λb=>!b);have e:∀l:List Nat,l.any (λx=>x != 0)=l.any λx=>!decide (x=0):=λl=>by
  refine congrArg l.any (funext λx=>?_);cases x<;>rfl
 rw[e,e,this]
theorem jJ.set (h:jJ s s'){a m v:Nat}(hl:a+m<=s.st.length):jJ (s.set a m v) (s'.set a m v):=by
 refine⟨by simp[Sp.set,Vn,h.l],λp=>?_,?_⟩
 .show gf (gH s'.st a (a+m) v) p=0↔gf (gH s.st a (a+m) v) p=0;rw[vU (by rw[h.l];exact hl),vU hl];split
  .exact Iff.rfl
  .exact h.z p
 .show(λw=>if a*32<=w/\w<(a+m)*32 then 0 else s'.wd w)=_
  rw[h.w];rfl
theorem RD {n:Nat}{a m:Int}(h:ZF n a m=true):a.toNat+m.toNat<=n:=by
 by_cases h0:0<=a/\0<=m
 .obtain⟨a,rfl⟩:=zc h0.1;obtain⟨m,rfl⟩:=zc h0.2;rw[dH,dH];exact(UZ.1 h).2
 .exfalso;unfold ZF at h;simp at h;omega
theorem jJ.gp (h:jJ s s')(a m:Int):jJ (gp s a m) (gp s' a m):=by
 unfold Go.Ar.gp;rw[h.fF];split
 .rename_i h0;refine h.set ?_;unfold Go.Ar.fF at h0;split at h0
  .rename_i hr;exact RD hr
  .simp at h0
 .exact h
theorem LS (s:Sp)(a m:Nat):KS s (gp s (a:Int) (m:Int)):=by
 by_cases h:fF s (a:Int) (m:Int)=0
 .have u:=Ec h;obtain⟨i,j,r,_⟩:=IF h;refine⟨i,λp g=>?_⟩;have b:¬(a<=p/\p<a+m):=λd=>g (u.2.2 p d.1 d.2);exact⟨by rw[j,zB b];exact g,λw x=>r w O⟩
 .unfold gp;rw[zB h];exact KS.refl s
theorem jJ.dB (h:jJ s s')(size:Nat):dB s' size=dB s size:=by
 unfold Go.Ar.dB;rw[h.l]
 congr 1
 funext x
 rw[h.fF]
theorem jJ.dC (h:jJ s s')(A:AR)(m a no:Nat):(dC A s' m a no).1=(dC A s m a no).1/\(dC A s' m a no).2.1=(dC A s m a no).2.1/\jJ (dC A s m a no).2.2 (dC A s' m a no).2.2/\KS s' (dC A s' m a no).2.2:=by
 unfold Go.Ar.dC;split
 .exact⟨rfl,rfl,h,KS.refl _⟩
 .unfold Hk;rw[h.dB];cases hg:Go.Ar.dB s (KD (max m a))with
  | none=>exact⟨rfl,rfl,h,KS.refl _⟩
  | some x=>
   simp only;split
   .exact⟨rfl,rfl,h.gp _ _,LS _ _ _⟩
   .exact⟨rfl,rfl,h.gp _ _,LS _ _ _⟩
theorem jJ.cQ (h:jJ s s')(A:AR)(k:Int):(cQ A s' k).1=(cQ A s k).1/\Vy A s' k=Vy A s k/\jJ (cQ A s k).2 (cQ A s' k).2/\KS s' (cQ A s' k).2:=by
 unfold Go.Ar.cQ Vy;split
 .split
  .rename_i c ss _ _;obtain⟨a,b,d,g⟩:=h.dC A c.aG 1 (k.toNat+1);cases e1:Go.Ar.dC A s c.aG 1 (k.toNat+1)with
   | mk o1 r1=>cases e2:Go.Ar.dC A s' c.aG 1 (k.toNat+1)with
    | mk o2 r2=>
     obtain⟨i,p⟩:=r1;obtain⟨m,j⟩:=r2;rw[e1,e2]at a b d;rw[e2]at g;simp only at a b d g;subst a;subst b;cases o2<;>exact⟨rfl,rfl,d,g⟩
  .exact⟨rfl,rfl,h,KS.refl _⟩
 .exact⟨rfl,rfl,h,KS.refl _⟩
theorem jJ.cC (h:jJ s s')(A:AR)(m a:Int):(cC A s' m a).1=(cC A s m a).1/\Q3 A s' m a=Q3 A s m a/\QC A s' m a=QC A s m a/\jJ (cC A s m a).2 (cC A s' m a).2/\KS s' (cC A s' m a).2:=by
 unfold Go.Ar.cC Q3 QC;split
 .obtain⟨b,d,g,i⟩:=h.dC A m.toNat a.toNat 41;cases e1:Go.Ar.dC A s m.toNat a.toNat 41 with
  | mk o1 r1=>cases e2:Go.Ar.dC A s' m.toNat a.toNat 41 with
   | mk o2 r2=>
    obtain⟨j,u⟩:=r1;obtain⟨r,p⟩:=r2;rw[e1,e2]at b d g;rw[e2]at i;simp only at b d g i;subst b;subst d;cases o2<;>exact⟨rfl,rfl,rfl,g,i⟩
 .exact⟨rfl,rfl,rfl,h,KS.refl _⟩
variable {W:Wd}
theorem NC (h:WI W){cl:Int}{l:List Int}(ho:jr W.held k cl l=true)(c x:Int):Um (W.held.filter λp=>!eI k cl l p) c x↔Um W.held c x/\¬(c=cl/\x∈l):=by
 constructor
 .rintro⟨p,hp,h1,h2,h3⟩;obtain⟨a,d⟩:=zK.1 hp;refine⟨⟨p,a,h1,h2,h3⟩,?_⟩;rintro⟨rfl,b⟩;obtain⟨q,r,g⟩:=(Vo.1 ho).1 x b;obtain⟨j,w,s,u⟩:=Vm.1 g;obtain rfl:=h.same (p:=p) (q:=q) a r O;have:eI k c l p=true:=QA.2 ⟨j,h2,by rw[h3];exact b⟩;rw[this]at d;cases d
 .rintro⟨⟨p,hp,h1,h2,h3⟩,d⟩;refine⟨p,zK.2 ⟨hp,?_⟩,h1,h2,h3⟩;have:eI k cl l p=false:=nX.2 λb=>by
   obtain⟨_,m,i⟩:=QA.1 b;exact d ⟨h2.symm.trans m,by rw[←h3];exact i⟩
  rw[this];rfl
theorem S2 {held:List Pc}{cl:Int}{l:List Int}(ho:jr held k cl l=true):∀x∈l,Um held cl x:=λx b=>by
 obtain⟨q,i,a⟩:=(Vo.1 ho).1 x b;obtain⟨m,j,d,g⟩:=Vm.1 a;exact⟨q,i,g,j,d⟩
theorem L7 (h:WI W){cl:Int}{l:List Int}(ho:jr W.held k cl l=true)(c x:Int):Um (Gr W.held k cl l true) c x↔Um W.held c x/\¬(c=cl/\x∈l):=by
 constructor
 .rintro⟨p,hp,h1,h2,h3⟩;obtain⟨q,b,rfl⟩:=Kg.1 hp;by_cases hof:eI k cl l q=true
  .rw[zC hof]at h1;cases h1
  .rw[zB hof]at h1 h2 h3;refine⟨⟨q,b,h1,h2,h3⟩,?_⟩;rintro⟨rfl,hx⟩;obtain⟨r,j,a⟩:=(Vo.1 ho).1 x hx;obtain⟨g,u,m,s⟩:=Vm.1 a;obtain rfl:=h.same b j O;exact hof (QA.2 ⟨g,h2,by rw[h3];exact hx⟩)
 .rintro⟨⟨p,hp,h1,h2,h3⟩,hn⟩;refine⟨p,Kg.2 ⟨p,hp,?_⟩,h1,h2,h3⟩;rw[zB];intro hx;obtain⟨_,i,d⟩:=QA.1 hx;exact hn ⟨h2.symm.trans i,by rw[←h3];exact d⟩
theorem R6 {held:List Pc}{cl:Int}{l:List Int}:∀p∈Gr held k cl l true,p.eV=false->p∈held:=λp d a=>by
 obtain⟨q,b,rfl⟩:=Kg.1 d;by_cases hof:eI k cl l q=true
 .rw[zC hof]at a;cases a
 .rw[zB hof];exact b
theorem TT (h:WI W)(hk:W.bZ[k]?=some A){j:Nat}:(∀x∈YR A (j:Int),∀c,¬Um W.held c x)/\(YR A (j:Int)).Nodup/\(∀c x,Um (Gr W.held k j (YR A (j:Int)) false) c x↔Um W.held c x\/(c=j/\x∈YR A (j:Int))) ∧
 (∀p∈Gr W.held k j (YR A (j:Int)) false,p.eV=false->p∈W.held\/∀c,¬Um W.held c (p.addr:Int)):=by
 obtain⟨o,e1,e2,D,G,H⟩:=F9 (h.ga k A hk) (j:Int);rw[dH]at e2;have s:∀x∈YR A (j:Int),∃q∈W.held,q.k=k/\q.cls=j/\(q.addr:Int)=x/\q.eV=true:=λx b=>by
  have m:=e2 x b;obtain⟨t,ht,g⟩:=m;have r:j<A.tb.length:=by rw[←(h.ga k A hk).lt];exact(cY.1 ht).1
  obtain⟨c,C,F,u,E⟩:=(h.ga k A hk).cl r;have i:fW A j x:=(VO u).2 ((h.ga k A hk).mF j c C t u ht x g);obtain⟨q,a,q1,q2,q3⟩:=h.ht k A hk j x i;obtain⟨_,_,_,_,B⟩:=h.cls a q2 (by rw[q1];exact hk);exact⟨q,a,q1,q2,q3,B.2 (by rw[q3];exact⟨t,ht,g⟩)⟩
 have new:∀x∈YR A (j:Int),∀c,¬Um W.held c x:=λx b c w=>by
  obtain⟨q,a,_,_,q3,q4⟩:=s x b;have:=(h.um a w q3).1;rw[q4]at this;cases this
 refine⟨new,D,λc x=>⟨?_,?_⟩,λp d J=>?_⟩
 .rintro⟨p,d,h1,h2,h3⟩;obtain⟨q,a,rfl⟩:=Kg.1 d;by_cases hof:eI k (j:Int) (YR A (j:Int)) q=true
  .rw[zC hof]at h2 h3;obtain⟨_,z,y⟩:=QA.1 hof;exact .inr ⟨h2.symm.trans z,by rw[←h3];exact y⟩
  .rw[zB hof]at h1 h2 h3;exact .inl ⟨q,a,h1,h2,h3⟩
 .rintro(⟨p,d,h1,h2,h3⟩|⟨rfl,b⟩)
  .refine⟨p,Kg.2 ⟨p,d,?_⟩,h1,h2,h3⟩;split
   .rw[←h1]
   .rfl
  .obtain⟨q,a,q1,q2,q3,q4⟩:=s x b;refine⟨{q with eV:=false},Kg.2 ⟨q,a,?_⟩,rfl,q2,q3⟩;rw[zC (QA.2 ⟨q1,q2,by rw[q3];exact b⟩)]
 .obtain⟨q,a,rfl⟩:=Kg.1 d;by_cases hof:eI k (j:Int) (YR A (j:Int)) q=true
  .rw[zC hof];exact .inr (new _ (QA.1 hof).2.2)
  .rw[zB hof];exact .inl a
theorem Dx {tb:List cA}{bZ:List AR}{sp:Sp}{held new:List Pc}(h:WI ⟨tb,sp,bZ,held++new⟩):∀p∈new,∀c,¬Um held c (p.addr:Int):=by
 rintro p d c ⟨q,b,_,_,g⟩;have e:=h.same (p:=p) (q:=q) (oP _ d) (kN _ b) O;have a:=h.hk;simp only[zj]at a;rw[m9]at a;exact a.2.2 q.key (zE.2 ⟨q,b,rfl⟩) p.key (zE.2 ⟨p,d,rfl⟩) (by rw[e])
theorem LY {held new:List Pc}{cl:Int}{l:List Int}(h1:∀p∈new,p.eV=false/\p.cls=cl/\(p.addr:Int)∈l)(h2:∀x∈l,∃p∈new,(p.addr:Int)=x)(c x:Int):Um (held++new) c x↔Um held c x\/(c=cl/\x∈l):=by
 constructor
 .rintro⟨p,b,a1,a2,a3⟩;rcases zJ.1 b with b|b
  .exact .inl ⟨p,b,a1,a2,a3⟩
  .obtain⟨_,g,d⟩:=h1 p b;exact .inr ⟨a2.symm.trans g,by rw[←a3];exact d⟩
 .rintro(⟨p,b,a⟩|⟨rfl,hx⟩)
  .exact⟨p,kN _ b,a⟩
  .obtain⟨p,b,e⟩:=h2 x hx;exact⟨p,oP _ b,(h1 p b).1,(h1 p b).2.1,e⟩
theorem JH {tb:List cA}{bZ:List AR}{sp:Sp}{held new:List Pc}(h:WI ⟨tb,sp,bZ,held++new⟩):∀p∈held++new,p.eV=false->p∈held\/∀c,¬Um held c (p.addr:Int):=λp a _=>by
 rcases zJ.1 a with a|a
 .exact .inl a
 .exact .inr (Dx h p a)
theorem VD {ss:List cH}:∀{i:Nat},ZE ss i=none->∀k,k<i->∀s,ss[k]?=some s->¬s.many<s.tk.length
 | 0,_,k,hk,_,_=>by omega
 | i+1,h,k,hk,s,hs=>by
  unfold ZE at h;by_cases hki:k=i
  .subst hki;rw[hs]at h;simp only at h;intro hlt;rw[zC hlt]at h;split at h
   .split at h
    .split at h<;>cases h
    .cases h
   .cases h
  .cases hi:ss[i]? with
   | none=>
    rw[hi]at h;exact VD h k O s hs
   | some x=>
    rw[hi]at h;simp only at h;split at h
    .split at h
     .split at h
      .split at h<;>cases h
      .cases h
     .exact VD (by assumption) k O s hs
    .exact VD h k O s hs
theorem O2 (h:GA A)(hw:Ow A sp){j:Nat}(hE:Vy A sp (j:Int)=0){w:Nat}(h1:1<=w):YB (cQ A sp (j:Int)).1 (j:Int) (w:Int)≠[]:=by
 rcases EV h hw (j:Int)with⟨_,hn,_⟩|⟨j',c,ss,x,A1,sp1,hj,hk,hk1,_,e,hst,r1,r2,r3,_,hd,hS⟩
 .exact(hn hE).elim
 .obtain rfl:j=j':=O
  have a:Cl (cQ A sp (j:Int)).1 j c (ir c ss x):=by
   rw[e];have m:Cl (dU A1 x c.aG (j+1)) j c ss:=hk1;exact Hz m _
  have B:=hS.ga.cG j c _ a;have b:(⟨x,List.replicate c.n false⟩:cH)∈ir c ss x:=VZ.2 (.inl rfl);have u:(cQ A sp (j:Int)).1.ck (j:Int)=true:=Gb.2 ⟨j,rfl,a.lt⟩;unfold YB Kc V1;rw[u,zC rfl,zB (show ¬((w:Int)<0) by omega),zC rfl,dH,dH,a.1,a.2];simp only;obtain⟨w,rfl⟩:∃v,w=v+1:=⟨w-1,O⟩;cases ho:ja c (ir c ss x)with
  | some r=>
   obtain⟨y,E⟩:=r;rw[GQ ho];simp
  | none=>
   exfalso;unfold ja iR at ho;obtain⟨l,z⟩:=zP b;have g:=(cY.1 z).1;have d:(⟨x,List.replicate c.n false⟩:cH).many<(⟨x,List.replicate c.n false⟩:cH).tk.length:=by
    have:=B.ok.tK;simp[cH.many,AU];omega
   cases hb:ZE (ir c ss x) (ir c ss x).length with
   | none=>exact VD hb l g _ z d
   | some i=>
    rw[hb]at ho;obtain⟨_,s,C,p⟩:=Km hb;obtain⟨r,D,_⟩:=Av p;simp only[C,D]at ho;cases ho
end Go.Ar
namespace Go.Ar
open Go.Vc (bS cX cO)
variable {H:Hw}{held:List Pc}{s0:Sp}{t k:Nat}{g:Th}{A:AR}{c:cA}
theorem Qz {p:Ph}{H1:Hw}{g1:Th}{nx:Option Ph}{a e:Int}(ht:t<H.bR.length)(hs:WH H t p=({H1 with bR:=H.bR.set t g1},nx,a,e)):Kd H t p = {H1 with bR:=H.bR.set t {g1 with ph:=nx}}:=by
 unfold Kd;rw[hs];show Hw.eB _ t _=_;rw[ZW (g:=g1) (by simp[ht])];simp only[nT]
structure iH (H:Hw) (t:Nat) (p:Ph):Prop where
 ok:wm H t p
 hi:∃held s0,HI (Kd H t p) held s0
 ks:KS H.sp (Kd H t p).sp
theorem iH.mk' {p:Ph}(hg:H.bR[t]?=some g)(hl:g.bQ.length<=41)(h1:vL H t p){H':Hw}{held':List Pc}{s0':Sp}(e:Kd H t p=H')(h2:HI H' held' s0')(h3:KS H.sp H'.sp):iH H t p:=
 ⟨⟨h1,λb a=>by rw[hg]at a;cases a;omega⟩,⟨held',s0',by rw[e];exact h2⟩,by rw[e];exact h3⟩
def Rq (tb:List cA)(g:Th):Ph->Int->Int->Prop
 | .take k,cl,sz=>cl=k/\∃c,tb[k]?=some c/\sz=c.size
 | .cJ k _,cl,sz=>cl=k/\∃c,tb[k]?=some c/\sz=c.size
 | .cL k _,cl,sz=>cl=k/\∃c,tb[k]?=some c/\sz=c.size
 | .grow k _,cl,sz=>cl=k/\∃c,tb[k]?=some c/\sz=c.size
 | .fill,cl,sz=>∃k xs r c,g.bQ=(k,xs)::r/\cl=k/\tb[k]?=some c/\sz=c.size
 | .eT m,cl,sz=>cl = -1/\sz=((m*256:Nat):Int)
 | _,_,_=>False
def pq (H:Hw)(t:Nat):Ph->Nat
 | .take _=>5
 | .cJ _ _=>4
 | .cL k w=>if YB (H.eL t) (k:Int) (w:Int)=[]then 3 else 1
 | .grow _ _=>2
 | _=>0
def uO (H:Hw)(t:Nat)(p:Ph)(cl sz:Int):Prop:=
 (∃p' g',(WH H t p).2.1=some p'/\(Kd H t p).live=H.live/\(Kd H t p).bR[t]?=some g'/\Rq H.tb g' p' cl sz/\pq (Kd H t p) t p'<pq H t p) ∨
 ((WH H t p).2.1=none/\(WH H t p).2.2.2≠0/\(WH H t p).2.2.1=0/\(Kd H t p).live=H.live) ∨
 ((WH H t p).2.1=none/\(WH H t p).2.2.2=0/\bS H.live (WH H t p).2.2.1=none/\(Kd H t p).live=cX H.live (WH H t p).2.2.1 ((WH H t p).2.2.1,sz,cl,XS (Kd H t p).bZ (WH H t p).2.2.1))
theorem HI.mem (h:HI H held s0)(hg:H.bR[t]?=some g):g∈H.bR:=zG hg
theorem HI.j5 (h:HI H held s0)(t:Nat):H.own t<H.bZ.length:=vz _ (by have:=h.a1;omega)
theorem HI.eL (h:HI H held s0)(t:Nat):H.bZ[H.own t]?=some (H.eL t):=by
 have a:=cW (h.j5 t);rw[CT a];exact a
theorem HI.r6 (h:HI H held s0):H.tb.length<=40:=by
 have a:=h.eL 0;have:=(h.wi.ga _ _ a).tb;rw[h.wi.tb _ _ a]at this;exact this
theorem HI.cls (h:HI H held s0)(hk:k<H.tb.length):∃c,H.tb[k]?=some c/\c.ok:=⟨H.tb[k],cW hk,h.ok _ (ky hk)⟩
theorem uV.li {m:Nat}(h:uV m g)(hk:k<m):∃l,g.ls[k]?=some l/\g.li k=l/\fP l/\l.os.length<=128:=by
 have a:=cW (l:=g.ls) (i:=k) (by rw[h.ll];exact hk);have:=h.lo _ (ky (by rw[h.ll];exact hk));exact⟨_,a,Bc a,this.1,this.2⟩
theorem uV.iw {m:Nat}(h:uV m g){l':Li}(h1:fP l')(h2:l'.os.length<=128):(g.ls.set k l').length=m/\∀l∈g.ls.set k l',fP l/\l.os.length<=128:=by
 refine⟨by rw[pH];exact h.ll,λl a=>?_⟩;rcases Al a with a|rfl
 .exact h.lo l a
 .exact⟨h1,h2⟩
theorem Rf {ls:List Li}{l':Li}{hs:List Bt}{ph:Option Ph}(hk:k<ls.length):(⟨ls.set k l',hs,ph⟩:Th).li k=l':=by
 unfold Th.li;rw[LF l' k hk,zC rfl]
theorem HI.xj (h:HI H held s0){y:Int}(hu:Um held (k:Int) y)(hc:H.tb[k]?=some c):Lv held (y,(y,(c.size:Int),(k:Int),XS H.bZ y)):=by
 obtain⟨p,d,j,g,rfl⟩:=hu;obtain⟨A,i,_⟩:=h.wi.hf p d;obtain⟨c',b,m,_⟩:=h.wi.cls d g i;rw[h.wi.tb _ _ i]at b;have a:H.tb[k]?=some c':=b;rw[hc]at a;cases a;exact⟨rfl,p,d,j,g,rfl,by rw[m],by rw[h.pJ d]⟩
theorem Bb {ls:List Li}{l:Li}(hl:ls[k]?=some l)(l':Li)(k' x:Int):l0 (ls.set k l') k' x+(if(k:Int)=k' then l.os.count x else 0)=l0 ls k' x+(if(k:Int)=k' then l'.os.count x else 0):=by
 have:=NM l' (cY.1 hl).1 k' x;rw[zQ,hl]at this;exact this
theorem TN {ls:List Li}{l:Li}(hl:ls[k]?=some l)(x:Int):l0 ls (k:Int) x=l.os.count x:=by
 rw[yr,zQ,hl];rfl
theorem Nh (h:HI H held s0)(hg:H.bR[t]?=some g)(hph:g.ph=some (.take k)){cl sz:Int}(hr:Rq H.tb g (.take k) cl sz):iH H t (.take k)/\uO H t (.take k) cl sz:=by
 have G:=(cY.1 hg).1;have b:=h.th g (h.mem hg);obtain⟨P,C⟩:g.bQ=[]/\k<H.tb.length:=by have:=b.ph;unfold iy at this;rw[hph]at this;exact this
 obtain⟨rfl,c,m,rfl⟩:=hr;have r:=h.ok c (zG m);obtain⟨l,hl,i,J,U⟩:=b.li C;have d:=FU r J;have j:=tD hg;cases hT:KM c l with
 | mk o l'=>
  rw[hT]at d;cases o with
  | some y=>
   have z:WH H t (.take k)=({{H with live:=cX H.live y (y,(c.size:Int),(k:Int),XS H.bZ y)}with bR:=H.bR.set t {g with ls:=g.ls.set k l'}},none,y,0):=by
    simp only[WH,j,UG m,i,hT,V3,ZW hg,Th.iw]
   have e:=Qz G z;have w:1<=gT g (k:Int) y:=by
    have:=Jm hT y;rw[Cq]at this;unfold gT;rw[TN hl];omega
   have N:=h.rh (h.mem hg) w;have L:=h.l8 (h.mem hg) w;have p:l'.os.length<=128:=by
    have:l'.os.length<=l.os.length:=by
     unfold KM at hT;split at hT
     .cases hT
     .cases hT;simp
    omega
   obtain⟨ll,F⟩:=b.iw (k:=k) d p;have hi:=h.kP hg (g':={g with ls:=g.ls.set k l',ph:=none}) (live':=cX H.live y (y,(c.size:Int),(k:Int),XS H.bZ y)) (λD x=>by
    rw[El _ L];have E:=Bb hl l' D x;have V:=Jm hT x;unfold gT;rw[hph];simp only[jL];by_cases hkk:(k:Int)=D
    .simp only[hkk,zT]at E ⊢;omega
    .simp only[hkk,jV]at E ⊢;omega)
    (Go.Vc.hU h.lk) (λS u=>by
     rcases(HW L).1 u with u|rfl
     .exact .inl u
     .exact .inr (h.xj N m))
    (λs a M=>by cases M) ⟨ll,F,b.hb,b.hl,by unfold iy;exact P⟩
   refine⟨iH.mk' hg b.hl ⟨C,λR K B=>?_⟩ e hi (KS.refl _),.inr (.inr ?_)⟩
   .rw[j,i,UG m,hT]at B;cases B;exact(h.i63 N).1
   .rw[e,z];exact⟨rfl,rfl,L,rfl⟩
  | none=>
   have z:WH H t (.take k)=({H with bR:=H.bR.set t {g with ls:=g.ls.set k l'}},some (.cJ k (qc c l')),0,0):=by
    simp only[WH,j,UG m,i,hT,ZW hg,Th.iw]
   have e:=Qz G z;obtain⟨o1,o2⟩:=γ hT;obtain⟨ll,F⟩:=b.iw (k:=k) d (by rw[o2];simp);have A:=d.nQ;have Q:1<=qc c l'/\qc c l'<=32:=by
    unfold cA.ok at r;unfold qc;simp only at A;omega
   have hi:=h.kP hg (g':={g with ls:=g.ls.set k l',ph:=some (.cJ k (qc c l'))}) (live':=H.live) (λD x=>by
    have E:=Bb hl l' D x;rw[o1,o2]at E;unfold gT;rw[hph];simp only[jL];omega) h.lk (λS u=>.inl u) (λs a M=>by cases M) ⟨ll,F,b.hb,b.hl,by
     unfold iy;exact⟨P,C,by rw[Rf (by rw[b.ll];exact C)];exact o2,Q⟩⟩
   refine⟨iH.mk' hg b.hl ⟨C,λR K B=>?_⟩ e hi (KS.refl _),.inl ?_⟩
   .rw[j,i,UG m,hT]at B;cases B
   .rw[e,z];exact⟨_,_,rfl,rfl,zO G,⟨rfl,c,m,rfl⟩,by simp[pq]⟩
theorem G7 (h:GA A)(h0:QD A (k:Int)=0)(hc:A.tb[k]?=some c):∃x xs,YR A (k:Int)=x::xs/\xs.length+1=c.batch:=by
 have a:YR A (k:Int)=(match A.cR[k]? with
  | some t=>t.bs.getLast?.getD []
  | none=>[]):=by unfold YR;rw[zC h0,dH];rfl
 unfold QD at h0;rw[dH]at h0;split at h0
 .split at h0
  .rename_i t ht;split at h0
   .cases h0
   .rename_i hb;rw[ht]at a;simp only at a;have m:t.bs.getLast?=some (t.bs.getLast hb):=List.getLast?_eq_some_getLast hb;rw[m]at a;simp only[qL]at a;have:=h.pZ k c t hc ht _ (List.getLast_mem hb);rw[←a]at this;have j:=h.cG;cases hx:YR A (k:Int)with
    | nil=>
     rw[hx]at this;have d:k<A.tb.length:=(cY.1 hc).1;obtain⟨i,p,_,b,_⟩:=h.cl d;have g:i=c:=Option.some.inj (b.1.symm.trans hc);have:=(h.cG k i p b).ok;unfold cA.ok at this;simp at *;subst g;omega
    | cons x xs=>exact⟨x,xs,rfl,by rw[hx]at this;simpa using this⟩
  .cases h0
 .cases h0
theorem NN (h:HI H held s0)(hg:H.bR[t]?=some g){w:Nat}(hph:g.ph=some (.cJ k w)){cl sz:Int}(hr:Rq H.tb g (.cJ k w) cl sz):iH H t (.cJ k w)/\uO H t (.cJ k w) cl sz:=by
 have A:=(cY.1 hg).1;have d:=h.th g (h.mem hg);obtain⟨G,D,z,S⟩:g.bQ=[]/\k<H.tb.length/\(g.li k).os=[]/\1<=w/\w<=32:=by have:=d.ph;unfold iy at this;rw[hph]at this;exact this
 obtain⟨rfl,c,i,rfl⟩:=hr;have E:=h.ok c (zG i);have r:=E;unfold cA.ok at r;have B:=h.eL t;have ga:=h.wi.ga _ _ B;have m:(H.eL t).tb[k]?=some c:=by rw[h.wi.tb _ _ B];exact i
 have L:vL H t (.cJ k w):=⟨D,λC=>by
  obtain⟨x,u,e,_⟩:=G7 ga C m;rw[e];simp⟩
 by_cases hcase:w=c.batch/\QD (H.eL t) (k:Int)=0
 .obtain⟨rfl,C⟩:=hcase;obtain⟨x,u,K,P⟩:=G7 ga C m;have p:WH H t (.cJ k c.batch)=({H.cE (H.own t) (Z0 (H.eL t) (k:Int))with bR:=H.bR.set t {g with bQ:=[(k,x::u)]}},some .fill,0,0):=by
   simp only[WH,UG i,zT,C,Kr,K];rw[ZW (g:=g) (by exact hg),G];rfl
  have e:=Qz (H1:=H.cE (H.own t) (Z0 (H.eL t) (k:Int))) A p;obtain⟨V,M,R,Q⟩:=TT h.wi B (j:=k);have wi:=h.wi.xZ B (k:Int);have hi:=h.eX hg (g':={g with bQ:=[(k,x::u)],ph:=some .fill}) (live':=H.live) wi h.nj rfl (by simp[Wd.put]) Q (λN y=>by
   rw[C6 M (λy W=>V y W _) R,K];unfold gT;rw[hph,G];simp only[jL,Vs,V6];omega) h.lk (λU F=>.inl F) (λs a J=>by cases J) ⟨d.ll,d.lo,λb hb=>by
    simp only[zN]at hb;subst hb;exact⟨D,by simp,by simp;omega⟩,by simp,by
    unfold iy;exact⟨k,x,u,rfl,D,z,O⟩⟩
  refine⟨iH.mk' hg d.hl L e hi (KS.refl _),.inl ?_⟩;rw[e,p];exact⟨_,_,rfl,rfl,zO A,⟨k,x::u,[],c,rfl,rfl,i,rfl⟩,by simp[pq]⟩
 .have p:WH H t (.cJ k w)=({H with bR:=H.bR.set t g},some (.cL k w),0,0):=by
   have:H.bR.set t g=H.bR:=QN hg;rw[this];simp only[WH,UG i];split
   .split
    .exact(hcase ⟨by assumption,by assumption⟩).elim
    .rfl
   .rfl
  have e:=Qz A p;have hi:=h.kP hg (g':={g with ph:=some (.cL k w)}) (live':=H.live) (λN x=>by
   unfold gT;rw[hph];simp only[jL]) h.lk (λU F=>.inl F) (λs a J=>by cases J) ⟨d.ll,d.lo,d.hb,d.hl,by
    unfold iy;exact⟨G,D,z,S⟩⟩
  refine⟨iH.mk' hg d.hl L e hi (KS.refl _),.inl ?_⟩;rw[e,p];refine⟨_,_,rfl,rfl,zO A,⟨rfl,c,i,rfl⟩,?_⟩;simp only[pq];split<;>omega
theorem Md (h:GA A)(j w:Nat):(YB A (j:Int) (w:Int)).length<=w:=by
 unfold YB;split
 .rename_i h0;have b:A.ck (j:Int)=true:=by
   unfold Kc at h0;split at h0
   .assumption
   .cases h0
  obtain⟨i,hi,d⟩:=Gb.1 b;obtain⟨c,g,t,a,m⟩:=h.cl d;have:i=j:=O
  subst this;unfold V1;rw[dH,dH,a.1,a.2];exact(GO w (h.cG i c g a)).2.2.1
 .simp
theorem Rs (H:Hw)(t:Nat)(B:AR)(h:H.own t<H.bZ.length)(sp:Sp)(bR:List Th):Hw.eL {H.cE (H.own t) B with sp:=sp,bR:=bR} t=B:=by
 refine CT ?_;have:Hw.own {H.cE (H.own t) B with sp:=sp,bR:=bR} t=H.own t:=by unfold Hw.own Hw.cE;simp
 rw[this];simp[Hw.cE,h]
theorem OD (h:HI H held s0)(hg:H.bR[t]?=some g){w:Nat}(hph:g.ph=some (.cL k w)){cl sz:Int}(hr:Rq H.tb g (.cL k w) cl sz):iH H t (.cL k w)/\uO H t (.cL k w) cl sz:=by
 have C:=(cY.1 hg).1;have d:=h.th g (h.mem hg);obtain⟨E,G,A,M⟩:g.bQ=[]/\k<H.tb.length/\(g.li k).os=[]/\1<=w/\w<=32:=by have:=d.ph;unfold iy at this;rw[hph]at this;exact this
 obtain⟨rfl,c,K,rfl⟩:=hr;have J:=h.eL t;have ga:=h.wi.ga _ _ J;have wi:=h.wi.from J (k:Int) (w:Int);have i:=Md ga k w;have m:=(Jq ga (k:Int) (w:Int)).2.2.1;cases hv:YB (H.eL t) (k:Int) (w:Int)with
 | nil=>
  have r:WH H t (.cL k w)=({H.cE (H.own t) (YV (H.eL t) (k:Int) (w:Int))with bR:=H.bR.set t g},some (.grow k w),0,0):=by
   have:H.bR.set t g=H.bR:=QN hg;rw[this];simp only[WH,hv,zT,Hw.cE]
  have e:=Qz (H1:=H.cE (H.own t) (YV (H.eL t) (k:Int) (w:Int))) C r;rw[hv]at wi;simp only[oC,kG]at wi;have hi:=h.eX hg (g':={g with ph:=some (.grow k w)}) (live':=H.live) wi h.nj rfl (by simp[Wd.put]) (λp j _=>.inl j) (λL y=>by
   unfold gT;rw[hph];simp only[jL]) h.lk (λP D=>.inl D) (λs a j=>by cases j) ⟨d.ll,d.lo,d.hb,d.hl,by
    unfold iy;exact⟨E,G,A,M⟩⟩
  refine⟨iH.mk' hg d.hl trivial e hi (KS.refl _),.inl ?_⟩;rw[e,r];exact⟨_,_,rfl,rfl,zO C,⟨rfl,c,K,rfl⟩,by simp[pq,hv]⟩
 | cons v vs=>
  have r:WH H t (.cL k w)=({H.cE (H.own t) (YV (H.eL t) (k:Int) (w:Int))with bR:=H.bR.set t {g with bQ:=[(k,(v::vs).map λ(x:Nat)=>(x:Int))]}},some .fill,0,0):=by
   simp only[WH,hv,Kr];rw[zB aA,ZW (g:=g) (by exact hg),E];rfl
  have e:=Qz (H1:=H.cE (H.own t) (YV (H.eL t) (k:Int) (w:Int))) C r;rw[hv]at wi i m;have u:((v::vs).map λ(x:Nat)=>(x:Int)).Nodup:=List.Pairwise.map (R:=(· ≠ ·)) _ (λa b F e=>F O) m;have app:=LY (held:=held) (new:=(v::vs).map λy=>(⟨H.own t,(k:Int),y,oZ H.tb (k:Int),false⟩:Pc)) (cl:=(k:Int)) (l:=(v::vs).map λ(x:Nat)=>(x:Int)) (λp j=>by
   obtain⟨y,B,rfl⟩:=zE.1 j;exact⟨rfl,rfl,zE.2 ⟨y,B,rfl⟩⟩) λx N=>by
   obtain⟨y,B,rfl⟩:=zE.1 N;exact⟨_,zE.2 ⟨y,B,rfl⟩,rfl⟩
  have new:=Dx wi;have hi:=h.eX hg (g':={g with bQ:=[(k,(v::vs).map λ(x:Nat)=>(x:Int))],ph:=some .fill}) (live':=H.live) wi h.nj rfl (by simp[Wd.put]) (JH wi) (λL y=>by
   rw[C6 u (λy B=>by
    obtain⟨z,Q,rfl⟩:=zE.1 B;exact new ⟨H.own t,(k:Int),z,oZ H.tb (k:Int),false⟩ (zE.2 ⟨z,Q,rfl⟩) _) app]
   unfold gT;rw[hph,E];simp only[jL,Vs,V6];omega) h.lk (λP D=>.inl D) (λs a j=>by cases j) ⟨d.ll,d.lo,λb hb=>by
    simp only[zN]at hb;subst hb;exact⟨G,by simp,by simp at i ⊢;omega⟩,by simp,by
    unfold iy;exact⟨k,(v:Int),vs.map λ(x:Nat)=>(x:Int),rfl,G,A,by simp at i ⊢;omega⟩⟩
  refine⟨iH.mk' hg d.hl trivial e hi (KS.refl _),.inl ?_⟩;rw[e,r];refine⟨_,_,rfl,rfl,zO C,⟨k,_,[],c,rfl,rfl,K,rfl⟩,?_⟩;simp[pq,hv]
theorem Ss (h:HI H held s0)(hg:H.bR[t]?=some g){w:Nat}(hph:g.ph=some (.grow k w)){cl sz:Int}(hr:Rq H.tb g (.grow k w) cl sz):iH H t (.grow k w)/\uO H t (.grow k w) cl sz:=by
 have z:=(cY.1 hg).1;have b:=h.th g (h.mem hg);obtain⟨D,J,A,B⟩:g.bQ=[]/\k<H.tb.length/\(g.li k).os=[]/\1<=w/\w<=32:=by have:=b.ph;unfold iy at this;rw[hph]at this;exact this
 obtain⟨rfl,c,F,rfl⟩:=hr;have u:=h.eL t;have ga:=h.wi.ga _ _ u;obtain⟨e1,e2,C,r⟩:=h.nj.cQ (H.eL t) (k:Int);have wi:=h.wi.grow u (k:Int);by_cases h0:Vy (H.eL t) H.sp (k:Int)=0
 .have m:WH H t (.grow k w)=({{H.cE (H.own t) (cQ (H.eL t) H.sp (k:Int)).1 with sp:=(cQ (H.eL t) H.sp (k:Int)).2}with bR:=H.bR.set t g},some (.cL k w),0,0):=by
   have:H.bR.set t g=H.bR:=QN hg;rw[this];simp only[WH,h0,zT,Hw.cE]
  have e:=Qz (H1:={H.cE (H.own t) (cQ (H.eL t) H.sp (k:Int)).1 with sp:=(cQ (H.eL t) H.sp (k:Int)).2}) z m;have d:=O2 ga (h.wi.ow _ _ u) (j:=k) (by rw[←e2];exact h0) B.1;rw[show(Wd.mk H.tb s0 H.bZ held).sp=s0 from rfl,←e1]at d;rw[show(Wd.mk H.tb s0 H.bZ held).sp=s0 from rfl,←e1]at wi;have hi:=h.eX hg (g':={g with ph:=some (.cL k w)}) (live':=H.live) wi C r.l (by simp[Wd.put]) (λp i _=>.inl i) (λE y=>by
   unfold gT;rw[hph];simp only[jL]) h.lk (λG x=>.inl x) (λs a i=>by cases i) ⟨b.ll,b.lo,b.hb,b.hl,by
    unfold iy;exact⟨D,J,A,B⟩⟩
  refine⟨iH.mk' hg b.hl trivial e hi r,.inl ?_⟩;rw[e,m];refine⟨_,_,rfl,rfl,zO z,⟨rfl,c,F,rfl⟩,?_⟩;have:=Rs H t (cQ (H.eL t) H.sp (k:Int)).1 (h.j5 t) (cQ (H.eL t) H.sp (k:Int)).2 (H.bR.set t {g with ph:=some (.cL k w)});simp only[pq];rw[this,zB d];omega
 .have m:WH H t (.grow k w)=({{H.cE (H.own t) (cQ (H.eL t) H.sp (k:Int)).1 with sp:=(cQ (H.eL t) H.sp (k:Int)).2}with bR:=H.bR.set t g},none,0,Vy (H.eL t) H.sp (k:Int)):=by
   have:H.bR.set t g=H.bR:=QN hg;rw[this];simp only[WH,h0,jV,Hw.cE]
  have e:=Qz (H1:={H.cE (H.own t) (cQ (H.eL t) H.sp (k:Int)).1 with sp:=(cQ (H.eL t) H.sp (k:Int)).2}) z m;rw[show(Wd.mk H.tb s0 H.bZ held).sp=s0 from rfl,←e1]at wi;have hi:=h.eX hg (g':={g with ph:=none}) (live':=H.live) wi C r.l (by simp[Wd.put]) (λp i _=>.inl i) (λE y=>by
   unfold gT;rw[hph];simp only[jL]) h.lk (λG x=>.inl x) (λs a i=>by cases i) ⟨b.ll,b.lo,b.hb,b.hl,by
    unfold iy;exact D⟩
  refine⟨iH.mk' hg b.hl trivial e hi r,.inr (.inl ?_)⟩;rw[e,m];exact⟨rfl,h0,rfl,rfl⟩
theorem Rm (h:HI H held s0)(hg:H.bR[t]?=some g)(hph:g.ph=some .fill){cl sz:Int}(hr:Rq H.tb g .fill cl sz):iH H t .fill/\uO H t .fill cl sz:=by
 have M:=(cY.1 hg).1;have d:=h.th g (h.mem hg);obtain⟨k,x,xs,A,K,j,N⟩:∃k x xs,g.bQ=[(k,x::xs)]/\k<H.tb.length/\(g.li k).os=[]/\xs.length<=128:=by have:=d.ph;unfold iy at this;rw[hph]at this;exact this
 obtain⟨k',W,r,c,w,rfl,J,rfl⟩:=hr;rw[A]at w;obtain⟨i, -⟩:=List.cons.inj w;obtain rfl:k=k':=congrArg Prod.fst i;obtain⟨l,hl,p,D,Q⟩:=d.li K;have u:=tD hg;rw[p]at j;have m:(eM xs.reverse l).os=xs.reverse:=by unfold eM;rw[j,zB aE];simp
 have G:WH H t .fill=({{H with live:=cX H.live x (x,(c.size:Int),(k:Int),XS H.bZ x)}with bR:=H.bR.set t {ls:=g.ls.set k (eM xs.reverse l),bQ:=[],ph:=g.ph}},none,x,0):=by
  simp only[WH,u,A,UG J,V3,ZW hg,p]
 have e:=Qz M G;have z:1<=gT g (k:Int) x:=by
  unfold gT;rw[A,Vs,zC rfl];have:1<=(x::xs).count x:=CI.2 aA;simp only;omega
 have F:=h.rh (h.mem hg) z;have E:=h.l8 (h.mem hg) z;obtain⟨R,L⟩:=d.iw (k:=k) (A8 (xs:=xs.reverse) D) (by rw[m];simp;omega);have hi:=h.kP hg (g':={ls:=g.ls.set k (eM xs.reverse l),bQ:=[],ph:=none}) (live':=cX H.live x (x,(c.size:Int),(k:Int),XS H.bZ x)) (λk' y=>by
  rw[El _ E];have C:=Bb hl (eM xs.reverse l) k' y;rw[j,m,List.count_reverse,List.count_nil]at C;have U:(x::xs).count y=[x].count y+xs.count y:=xC (l₁:=[x]) (l₂:=xs);unfold gT;rw[hph,A];simp only[jL,Vs,V6];by_cases i:(k:Int)=k'
  .simp only[i,zT]at C ⊢;omega
  .simp only[i,jV]at C ⊢;omega)
  (Go.Vc.hU h.lk) (λV B=>by
   rcases(HW E).1 B with B|rfl
   .exact .inl B
   .exact .inr (h.xj F J))
  (λs a S=>by cases S) ⟨R,L,λb P=>by simp at P,by simp,by unfold iy;rfl⟩
 refine⟨iH.mk' hg d.hl ⟨k,x,xs,[],by rw[u];exact A,K,(h.i63 F).1,by rw[u,p,j];simp;omega⟩ e hi (KS.refl _),.inr (.inr ?_)⟩;rw[e,G];exact⟨rfl,rfl,E,rfl⟩
theorem Wj7 (h:HI H held s0)(hg:H.bR[t]?=some g){m:Nat}(hph:g.ph=some (.eT m)){cl sz:Int}(hr:Rq H.tb g (.eT m) cl sz):iH H t (.eT m)/\uO H t (.eT m) cl sz:=by
 have J:=(cY.1 hg).1;have b:=h.th g (h.mem hg);obtain⟨M,Q,U⟩:g.bQ=[]/\1<=m/\m<=64:=by have:=b.ph;unfold iy at this;rw[hph]at this;exact this
 obtain⟨rfl,rfl⟩:=hr;have K:=h.eL t;have ga:=h.wi.ga _ _ K;obtain⟨e1,e2,R,L,B⟩:=h.nj.cC (H.eL t) (m:Int) 1;have wi:=h.wi.xl K (m:Int) 1;rw[show(Wd.mk H.tb s0 H.bZ held).sp=s0 from rfl,←e1,←e2,←R]at wi;by_cases h0:Q3 (H.eL t) H.sp (m:Int) 1=0
 .rw[zC h0]at wi;have j:=Dx wi;have z:=LY (held:=held) (new:=[(⟨H.own t, -1,QC (H.eL t) H.sp (m:Int) 1*256,(m:Int).toNat*256,false⟩:Pc)]) (cl:=-1) (l:=[((QC (H.eL t) H.sp (m:Int) 1*256:Nat):Int)]) (λp d=>by
   simp only[zN]at d;subst d;exact⟨rfl,rfl,by simp⟩) λx C=>by
   simp only[zN]at C;subst C;exact⟨_,zN.2 rfl,rfl⟩
  have i:(⟨H.own t, -1,QC (H.eL t) H.sp (m:Int) 1*256,(m:Int).toNat*256,false⟩:Pc)∈held++[(⟨H.own t, -1,QC (H.eL t) H.sp (m:Int) 1*256,(m:Int).toNat*256,false⟩:Pc)]:=by simp
  have E:=wi.size_pos i;have u:=wi.jW i;have G:=wi.owner i (x:=QC (H.eL t) H.sp (m:Int) 1*256) (zD _) (by simp only at E ⊢;omega);generalize D:QC (H.eL t) H.sp (m:Int) 1=V at *;have r:bS H.live ((V*256:Nat):Int)=none:=h.uH λF P=>j _ (zN.2 rfl) F P;have A:WH H t (.eT m)=({{H.cE (H.own t) (cC (H.eL t) H.sp (m:Int) 1).1 with sp:=(cC (H.eL t) H.sp (m:Int) 1).2,live:=cX H.live ((V*256:Nat):Int) (((V*256:Nat):Int),((m*256:Nat):Int), -1,XS (H.bZ.set (H.own t) (cC (H.eL t) H.sp (m:Int) 1).1) ((V*256:Nat):Int))}with bR:=H.bR.set t g},none,((V*256:Nat):Int),0):=by
   have:H.bR.set t g=H.bR:=QN hg;rw[this];simp only[WH,h0,zT,Hw.cE,V3,D]
  have e:=Qz (H1:={H.cE (H.own t) (cC (H.eL t) H.sp (m:Int) 1).1 with sp:=(cC (H.eL t) H.sp (m:Int) 1).2,live:=cX H.live ((V*256:Nat):Int) (((V*256:Nat):Int),((m*256:Nat):Int), -1,XS (H.bZ.set (H.own t) (cC (H.eL t) H.sp (m:Int) 1).1) ((V*256:Nat):Int))}) J A;have hi:=h.eX hg (g':={g with ph:=none}) (live':=cX H.live ((V*256:Nat):Int) (((V*256:Nat):Int),((m*256:Nat):Int), -1,XS (H.bZ.set (H.own t) (cC (H.eL t) H.sp (m:Int) 1).1) ((V*256:Nat):Int))) wi L B.l (by simp[Wd.put]) (JH wi) (λF y=>by
   rw[El _ r,C6 (l:=[((V*256:Nat):Int)]) (cl:=-1) aA (λy N=>by
    simp only[zN]at N;subst N;exact j _ (zN.2 rfl) _) z]
   unfold gT;rw[hph];simp only[jL];omega) (Go.Vc.hU h.lk) (λS w=>by
    rcases(HW r).1 w with w|rfl
    .exact .inl w
    .refine .inr ⟨rfl,_,i,rfl,rfl,rfl,?_,?_⟩
     .simp
     .exact G) (λs a d=>by cases d) ⟨b.ll,b.lo,b.hb,b.hl,by
    unfold iy;exact M⟩
  refine⟨iH.mk' hg b.hl ?_ e hi B,.inr (.inr ?_)⟩
  .show QC (H.eL t) H.sp (m:Int) 1<=1000000;rw[D];simp only at u;omega
  .rw[e,A];exact⟨rfl,rfl,r,rfl⟩
 .rw[zB h0]at wi;have D:QC (H.eL t) H.sp (m:Int) 1=0:=by
   unfold Q3 at h0;unfold QC;split
   .rename_i d;rw[d,zC rfl]at h0;split at h0
    .exact(h0 rfl).elim
    .rename_i hn;cases C:(dC (H.eL t) H.sp (m:Int).toNat (1:Int).toNat 41).1 with
     | none=>rfl
     | some y=>rw[C]at hn;simp at hn
   .rfl
  have A:WH H t (.eT m)=({{H.cE (H.own t) (cC (H.eL t) H.sp (m:Int) 1).1 with sp:=(cC (H.eL t) H.sp (m:Int) 1).2}with bR:=H.bR.set t g},none,0,Q3 (H.eL t) H.sp (m:Int) 1):=by
   have:H.bR.set t g=H.bR:=QN hg;rw[this];simp only[WH,h0,jV,Hw.cE]
  have e:=Qz (H1:={H.cE (H.own t) (cC (H.eL t) H.sp (m:Int) 1).1 with sp:=(cC (H.eL t) H.sp (m:Int) 1).2}) J A;have hi:=h.eX hg (g':={g with ph:=none}) (live':=H.live) wi L B.l (by simp[Wd.put]) (λp d _=>.inl d) (λF y=>by
   unfold gT;rw[hph];simp only[jL]) h.lk (λS w=>.inl w) (λs a d=>by cases d) ⟨b.ll,b.lo,b.hb,b.hl,by
    unfold iy;exact M⟩
  refine⟨iH.mk' hg b.hl ?_ e hi B,.inr (.inl ?_)⟩
  .show QC (H.eL t) H.sp (m:Int) 1<=1000000;rw[D];omega
  .rw[e,A];exact⟨rfl,h0,rfl,rfl⟩
theorem Nd {W:Wd}(h:WI W)(hk:W.bZ[k]?=some A){j:Nat}{l:List Int}(hl:∀x∈l,∃p∈W.held,lS k (j:Int) x p=true)(hn:l.Nodup)(hj:j<W.tb.length):Kv A (j:Int) l=0/\WI (W.put k (ZY A (j:Int) l) W.sp (W.held.filter λp=>!eI k (j:Int) l p)):=by
 have ga:=h.ga k A hk;have g:jr W.held k (j:Int) l=true:=Vo.2 ⟨hl,hn⟩;obtain⟨c,z,_,d,_⟩:=ga.cl (k:=j) (by rw[h.tb k A hk];exact hj);have i:Kv A (j:Int) l=0:=by
  rw[Gw ga d];refine IA ⟨λx w=>?_,hn⟩;obtain⟨p,s,b⟩:=hl x w;obtain⟨u,m,r,y⟩:=Vm.1 b;obtain⟨_,_,_,a,_⟩:=h.cls s m (by rw[u];exact hk);rw[r]at a;exact(VO d).1 a
 refine⟨i,?_⟩;have:=h.TI hk g;rw[zC i,h.AE g]at this;exact this
theorem Jt {xs:List Int}{tb:List cA}{ars0:List AR}(hH:H.tb=tb)(h:WI ⟨tb,s0,H.bZ,held⟩)(hk:k<tb.length)(hxs:∀x∈xs,Um held (k:Int) x)(hn:xs.Nodup)(ha:∀p∈held,XS ars0 (p.addr:Int)=(p.k:Int)):∀j,j<=H.bZ.length →
 ∃ars',VQ H k (Z8 ars0 xs) (List.range j) = {H with bZ:=ars'}/\ars'.length=H.bZ.length/\WI ⟨tb,s0,ars',held.filter λp=>!(decide (p.k<j)&&(p.cls==(k:Int)&&xs.contains (p.addr:Int)))⟩
 | 0,_=>by
  refine⟨H.bZ,rfl,rfl,?_⟩;have:(held.filter λp=>!(decide (p.k<0)&&(p.cls==(k:Int)&&xs.contains (p.addr:Int))))=held:=qG.2 λp _=>by simp
  rw[this];exact h
 | j+1,hj=>by
  obtain⟨ars',e,y,s⟩:=Jt hH h hk hxs hn ha j O;rw[VN,e];have r:ars'[j]?=some (ars'[j]' O):=cW _;simp only[r];have b:∀{p:Pc},p∈held->p.k=j->((p.addr:Int)∈Z8 ars0 xs j↔(p.addr:Int)∈xs):=λ{p} d a=>by
   unfold Z8;rw[zK,ha p d,a];simp
  have g:((held.filter λp=>!(decide (p.k<j)&&(p.cls==(k:Int)&&xs.contains (p.addr:Int)))).filter λp=>!eI j (k:Int) (Z8 ars0 xs j) p)=held.filter λp=>!(decide (p.k<j+1)&&(p.cls==(k:Int)&&xs.contains (p.addr:Int))):=by
   rw[BN];apply wa;intro p d;have e1:eI j (k:Int) (Z8 ars0 xs j) p=(p.k==j&&(p.cls==(k:Int)&&xs.contains (p.addr:Int))):=by
    unfold eI;by_cases a:p.k=j
    .have:=b d a;have e2:(Z8 ars0 xs j).contains (p.addr:Int)=xs.contains (p.addr:Int):=by
      rw[kZ,Bg,Bg];exact this
     rw[e2]
    .have:(p.k==j)=false:=by simpa using a
     rw[this];rfl
   rw[e1];have A:decide (p.k<j+1)=(decide (p.k<j)||p.k==j):=by
    rw[kZ];simp;omega
   rw[A];cases p.k==j<;>cases decide (p.k<j)<;>cases(p.cls==(k:Int)&&xs.contains (p.addr:Int))<;>rfl
  by_cases d:Z8 ars0 xs j=[]
  .rw[zC d];refine⟨ars',rfl,y,?_⟩;rw[←g,d];have:∀p:Pc,(!eI j (k:Int) [] p)=true:=λp=>by simp[eI]
   rw[qG.2 λp _=>this p];exact s
  .rw[zB d];refine⟨ars'.set j (ZY (ars'[j]' O) (k:Int) (Z8 ars0 xs j)),by simp[Hw.cE],by simp[y],?_⟩;rw[←g];refine(Nd s r (j:=k) (l:=Z8 ars0 xs j) (λx u=>?_) (hn.sublist uB) hk).2;unfold Z8 at u;obtain⟨m,i⟩:=zK.1 u;obtain⟨p,d,z,B,w⟩:=hxs x m;have a:p.k=j:=by
    have:=ha p d;rw[w]at this;rw[this]at i;have:(p.k:Int)=(j:Int):=by simpa using i
    omega
   exact⟨p,zK.2 ⟨d,by simp[a]⟩,Vm.2 ⟨a,B,w,z⟩⟩
theorem Θ {tb:List cA}(hH:H.tb=tb)(h:WI ⟨tb,s0,H.bZ,held⟩){own:Nat}(hown:own<H.bZ.length)(hk:k<tb.length){xs:List Int}(hxs:∀x∈xs,Um held (k:Int) x)(hn:xs.Nodup) :
 ∃ars' held',GG H own k xs = {H with bZ:=ars'}/\ars'.length=H.bZ.length/\WI ⟨tb,s0,ars',held'⟩/\(∀c x,Um held' c x↔Um held c x/\¬(c=(k:Int)/\x∈xs))/\∀p∈held',p.eV=false->p∈held:=by
 have m:H.bZ[own]?=some H.bZ[own]:=cW hown;have y:∀p∈held,XS H.bZ (p.addr:Int)=(p.k:Int):=λp a=>h.owner a (zD _) (by have:=(h.size_pos a).1;omega);have all:∃ars' held',VQ H k (Z8 H.bZ xs) (List.range H.bZ.length) = {H with bZ:=ars'}/\ars'.length=H.bZ.length/\WI ⟨tb,s0,ars',held'⟩/\(∀c x,Um held' c x↔Um held c x/\¬(c=(k:Int)/\x∈xs))/\∀p∈held',p.eV=false->p∈held:=by
  obtain⟨ars',e,s,j⟩:=Jt hH h hk hxs hn y H.bZ.length (zD _);refine⟨ars',_,e,s,j,λc x=>?_,λp a _=>(zK.1 a).1⟩;constructor
  .rintro⟨p,a,g,i,d⟩;obtain⟨a,hf⟩:=zK.1 a;refine⟨⟨p,a,g,i,d⟩,?_⟩;rintro⟨rfl,b⟩;obtain⟨B,A,_⟩:=h.hf p a;have u:p.k<H.bZ.length:=(cY.1 A).1;rw[i,d]at hf;simp[u,b]at hf
  .rintro⟨⟨p,a,g,i,d⟩,hno⟩;refine⟨p,zK.2 ⟨a,?_⟩,g,i,d⟩;rw[i,d];by_cases hc:c=(k:Int)
   .have:x∉xs:=λb=>hno ⟨hc,b⟩;simp[this]
   .simp[hc]
 unfold GG;rw[m];simp only;by_cases hcond:(Z8 H.bZ xs own).length=xs.length/\VR H.bZ[own] (k:Int) xs=true
 .rw[zC hcond];have r:∀x∈xs,XS H.bZ x=(own:Int):=by
   have g:Z8 H.bZ xs own=xs:=by
    unfold Z8 at hcond ⊢;exact List.filter_sublist.eq_of_length hcond.1
   intro x b;rw[←g]at b;unfold Z8 at b;simpa using(zK.1 b).2
  have w:jr held own (k:Int) xs=true:=Vo.2 ⟨λx b=>by
   obtain⟨p,a,g,i,d⟩:=hxs x b;have C:=y p a;rw[d,r x b]at C;exact⟨p,a,Vm.2 ⟨O,i,d,g⟩⟩,hn⟩
  have j:=h.SV m w;rw[zC hcond.2]at j;exact⟨_,_,rfl,by simp[Hw.cE],j,L7 h w,R6⟩
 .rw[zB hcond];have e:(if(Z8 H.bZ xs own).length=xs.length then H.cE own (KH H.bZ[own] (k:Int) xs)else H)=H:=by
   split
   .rename_i s;have z:VR H.bZ[own] (k:Int) xs=false:=by
     apply nX.2;intro b;exact hcond ⟨s,b⟩
    have:KH H.bZ[own] (k:Int) xs=H.bZ[own]:=by unfold KH;rw[z];rfl
    rw[this];exact LI m
   .rfl
  rw[e];exact all
def lL:Ph->Prop
 | .find _=>True
 | .put _ _=>True
 | .back=>True
 | .dF _ _=>True
 | .drain=>True
 | _=>False
def qD (g:Th):Ph->Nat
 | .find _=>101
 | .put _ _=>100
 | .drain=>100
 | .back=>g.bQ.length
 | _=>0
def n4 (H:Hw)(t:Nat)(g:Th)(p:Ph):Prop:=(WH H t p).2.2.1=0 ∧
 ((∃p' g',(WH H t p).2.1=some p'/\lL p'/\(∀x,p'≠.find x)/\(Kd H t p).bR[t]?=some g'/\qD g' p'<qD g p)\/(WH H t p).2.1=none) ∧
 ((∀x,p≠.find x)->(WH H t p).2.2.2=0/\(Kd H t p).live=H.live) ∧
 (∀x,p=.find x->(bS H.live x=none->(WH H t p).2.1=none/\(WH H t p).2.2.2≠0/\(Kd H t p).live=H.live)/\(∀b,bS H.live x=some b->(WH H t p).2.2.2=0/\(Kd H t p).live=cO H.live x))
theorem CX (hg:H.bR[t]?=some g):j6 H t=if g.bQ=[]then none else some .back:=by unfold j6;rw[hg]
theorem NR (h:HI H held s0)(hg:H.bR[t]?=some g){x:Int}(hph:g.ph=some (.find x)):iH H t (.find x)/\n4 H t g (.find x):=by
 have G:=(cY.1 hg).1;have d:=h.th g (h.mem hg);obtain⟨N,C⟩:g.bQ=[]/\iN x:=by have:=d.ph;unfold iy at this;rw[hph]at this;exact this
 have P:∀A∈H.bZ,iT A:=λA U=>by
  obtain⟨j,hj⟩:=zP U;exact(h.wi.ga j A hj).pS
 cases hm:bS H.live x with
 | none=>
  have w:WH H t (.find x)=({H with bR:=H.bR.set t g},none,0,l4 H x):=by
   have:H.bR.set t g=H.bR:=QN hg;rw[this];simp only[WH,HA,hm]
  have e:=Qz G w;have hi:=h.kP hg (g':={g with ph:=none}) (live':=H.live) (λD x=>by
   unfold gT;rw[hph];simp only[jL]) h.lk (λX F=>.inl F) (λs a M=>by cases M) ⟨d.ll,d.lo,d.hb,d.hl,by
    unfold iy;exact N⟩
  refine⟨iH.mk' hg d.hl ⟨C,λ_=>P,λb hb=>by rw[hm]at hb;cases hb⟩ e hi (KS.refl _),?_⟩;unfold n4;rw[e,w];refine⟨rfl,.inr rfl,λi=>(i x rfl).elim,λy m=>?_⟩;cases m;refine⟨λ_=>⟨rfl,?_,rfl⟩,(λb hb=>by rw[hm]at hb;cases hb)⟩;show l4 H x≠0;unfold l4
  repeat' split
  all_goals simp
 | some b=>
  have Q:=YT hm;obtain⟨_,p,M,Z,R,Y,h4,V⟩:=h.lv _ Q;simp only at R Y h4 V;have S:0<=x:=O
  obtain⟨A,U,hd⟩:=h.wi.hf p M;have W:vL H t (.find x):=⟨C,(λi=>by rw[hm]at i;cases i),λ_ _=>S⟩;rcases hd with⟨c1,_,r,hr,c2,c3⟩|⟨j,c,c1,c2,c3,_⟩
  .have K:b.2.2.1 = -1:=by rw[←R,c1]
   have w:WH H t (.find x)=({{H with live:=cO H.live x}with bR:=H.bR.set t g},some (.dF (x/256) b.2.2.2),0,0):=by
    have:H.bR.set t g=H.bR:=QN hg;rw[this];simp only[WH,HA,hm];rw[zC O]
   have e:=Qz (H1:={H with live:=cO H.live x}) G w;have u:x/256*256=x:=O
   have hi:=h.kP hg (g':={g with ph:=some (.dF (x/256) b.2.2.2)}) (live':=cO H.live x) (λD y=>by
    have z:=C4 h.lk hm D y;rw[K]at z;unfold gT;rw[hph];simp only[jL,u];by_cases m:x=y
    .subst m;rw[Cq]at z;by_cases hk : -1=D
     .rw[zC hk]at z;rw[zC ⟨hk.symm,rfl⟩];omega
     .rw[zB hk]at z;rw[zB (λC=>hk C.1.symm)];omega
    .have:[x].count y=0:=AW.2 aE;rw[this]at z;rw[zB (λC=>m C.2.symm)];split at z<;>omega)
    (Go.Vc.jy h.lk) (λX F=>.inl (yM.1 F).1) (λs a B=>by
     cases B;exact⟨p,M,Z,c1,by rw[u];exact Y,V⟩) ⟨d.ll,d.lo,d.hb,d.hl,by
      unfold iy;exact N⟩
   refine⟨iH.mk' hg d.hl W e hi (KS.refl _),?_⟩;unfold n4;rw[e,w];refine⟨rfl,.inl ⟨_,_,rfl,trivial,(λy m=>by cases m),zO G,by simp[qD]⟩,λi=>(i x rfl).elim,λy m=>?_⟩;cases m;exact⟨(λi=>by rw[hm]at i;cases i),λ_ _=>⟨rfl,rfl⟩⟩
  .have E:b.2.2.1=(j:Int):=by rw[←R,c1]
   have L:j<H.tb.length:=by
    rw[h.wi.tb _ _ U]at c2;exact(cY.1 c2).1
   have w:WH H t (.find x)=({{H with live:=cO H.live x}with bR:=H.bR.set t {g with bQ:=[(j,[x])]}},some (.put j x),0,0):=by
    simp only[WH,HA,hm];rw[zB O,E,dH];unfold Kr;rw[ZW (g:=g) (by exact hg),N];rfl
   have e:=Qz (H1:={H with live:=cO H.live x}) G w;have hi:=h.kP hg (g':={g with bQ:=[(j,[x])],ph:=some (.put j x)}) (live':=cO H.live x) (λD y=>by
    have z:=C4 h.lk hm D y;rw[E]at z;unfold gT;rw[hph,N];simp only[jL,Vs,V6];omega)
    (Go.Vc.jy h.lk) (λX F=>.inl (yM.1 F).1) (λs a B=>by cases B) ⟨d.ll,d.lo,λb' J=>by
     simp only[zN]at J;subst J;exact⟨L,by simp,by simp⟩,by simp,by
     unfold iy;exact⟨rfl,L⟩⟩
   refine⟨iH.mk' hg d.hl W e hi (KS.refl _),?_⟩;unfold n4;rw[e,w];refine⟨rfl,.inl ⟨_,_,rfl,trivial,(λy m=>by cases m),zO G,by simp[qD]⟩,λi=>(i x rfl).elim,λy m=>?_⟩;cases m;exact⟨(λi=>by rw[hm]at i;cases i),λ_ _=>⟨rfl,rfl⟩⟩
theorem Lo {f:cA->Li->List Int×Li}{tb:List cA}{ls:List Li}{b:Bt}(h:b∈KN f tb ls):b.1<tb.length/\b.2≠[]/\∃c∈tb,∃l∈ls,b.2=(f c l).1:=by
 unfold KN at h;obtain⟨k,d,a⟩:=yi.1 h;split at a
 .rename_i c l hc hl;split at a
  .cases a
  .cases a;exact⟨zg.1 d,by assumption,c,zG hc,l,zG hl,rfl⟩
 .cases a
theorem LW {f:cA->Li->List Int×Li}{tb:List cA}{ls:List Li}{l':Li}(h:l'∈KG f tb ls):∃c∈tb,∃l∈ls,l'=(f c l).2:=by
 unfold KG at h;obtain⟨i,hi⟩:=zP h;rw[Eu]at hi;split at hi
 .rename_i c l hc hl;cases hi;exact⟨c,zG hc,l,zG hl,rfl⟩
 .cases hi
theorem Ft {f:cA->Li->List Int×Li}{tb:List cA}{ls:List Li}(h:ls.length=tb.length):(KG f tb ls).length=tb.length:=by
 unfold KG;rw[List.length_zipWith];omega
theorem J0 (c:cA)(l:Li):(Vz c l).2.os.length<=l.os.length/\(Vz c l).1.length<=l.os.length:=by
 simp only[Vz,gO,kj,zY];omega
theorem Iw (c:cA)(l:Li):(Z9 c l).2.os.length<=l.os.length/\(Z9 c l).1.length<=l.os.length:=by
 simp only[Z9,gO,kj,zY];omega
theorem SP (h:HI H held s0)(hg:H.bR[t]?=some g)(hph:g.ph=some .drain):iH H t .drain/\n4 H t g .drain:=by
 have m:=(cY.1 hg).1;have d:=h.th g (h.mem hg);have F:g.bQ=[]:=by have:=d.ph;unfold iy at this;rw[hph]at this;exact this
 have G:=h.r6;have z:=D6 Z9 H.tb g.ls;have u:WH H t .drain=({H with bR:=H.bR.set t {g with ls:=KG Z9 H.tb g.ls,bQ:=KN Z9 H.tb g.ls}},(if KN Z9 H.tb g.ls=[]then none else some .back),0,0):=by
  simp only[WH,ZW hg];rw[CX (g:={g with ls:=KG Z9 H.tb g.ls,bQ:=KN Z9 H.tb g.ls}) (by simp[m])]
 have e:=Qz m u;have hi:=h.kP hg (g':={ls:=KG Z9 H.tb g.ls,bQ:=KN Z9 H.tb g.ls,ph:=if KN Z9 H.tb g.ls=[]then none else some .back}) (live':=H.live) (λr x=>by
  have K:=I9 (f:=Z9) NL d.ll r x;unfold gT;rw[hph,F];have:jL (if KN Z9 H.tb g.ls=[]then none else some Ph.back) r x=0:=by split<;>rfl
  simp only[this,V6];simp only[jL];omega) h.lk (λL A=>.inl A) (λs a p=>by
   simp only at p;split at p<;>cases p) ⟨Ft d.ll,λl hl=>by
   obtain⟨c,_,j,i,rfl⟩:=LW hl;have:=d.lo j i;have:=Iw c j;exact⟨WiF (d.lo j i).1,O⟩,λb D=>by
   obtain⟨w,C,c,_,j,i,B⟩:=Lo D;have:=d.lo j i;have:=Iw c j;exact⟨w,C,by rw[B];omega⟩,by simp only;omega,by
   unfold iy;by_cases ho:KN Z9 H.tb g.ls=[]
   .rw[zC ho];exact ho
   .rw[zB ho];exact ho⟩
 refine⟨iH.mk' hg d.hl trivial e hi (KS.refl _),?_⟩;unfold n4;rw[e,u];refine⟨rfl,?_,λ_=>⟨rfl,rfl⟩,λx E=>by cases E⟩;by_cases ho:KN Z9 H.tb g.ls=[]
 .exact .inr (by simp only;rw[zC ho])
 .exact .inl ⟨.back,_,by simp only;rw[zB ho],trivial,(λy J=>by cases J),zO m,by simp only[qD];omega⟩
theorem N6 (h:HI H held s0)(hg:H.bR[t]?=some g){s a:Int}(hph:g.ph=some (.dF s a)):iH H t (.dF s a)/\n4 H t g (.dF s a):=by
 have M:=(cY.1 hg).1;have b:=h.th g (h.mem hg);have S:g.bQ=[]:=by have:=b.ph;unfold iy at this;rw[hph]at this;exact this
 obtain⟨p,C,W,N,Z,h4⟩:=h.gv g (h.mem hg) s a hph;obtain⟨A,w,_⟩:=h.wi.hf p C;have u:H.bZ[p.k]?=some A:=w;have P:=(cY.1 u).1;obtain⟨_,r,K,X,V⟩:=h.wi.run C N w;have ga:=h.wi.ga _ _ w;have d:s=(r.1:Int):=O
 have R:VB A s=0:=by
  unfold VB;rw[zC];unfold qX;rw[Br];exact⟨r,K,by simp[d]⟩
 have E:jr held p.k (-1) [s*256]=true:=by rw[d];exact h.wi.nC w K
 have wi:=h.wi.yC w s;rw[zC R,h.wi.AE E]at wi;have y:a.toNat=p.k:=O
 have G:WH H t (.dF s a)=({H.cE p.k (Kb A s)with bR:=H.bR.set t g},none,0,0):=by
  have:H.bR.set t g=H.bR:=QN hg;rw[this];simp only[WH,y,u,Hw.cE]
 have e:=Qz (H1:=H.cE p.k (Kb A s)) M G;have hi:=h.eX hg (g':={g with ph:=none}) (live':=H.live) wi h.nj rfl (by simp[Wd.put]) (λq F _=>.inl (zK.1 F).1) (λm x=>by
  have i:=Jc (held':=held.filter λD=>!eI p.k (-1) [s*256] D) (l:=[s*256]) (cl:=-1) aA (S2 E) (NC h.wi E) m x;have i:lH held m x=lH (held.filter λD=>!eI p.k (-1) [s*256] D) m x+(if -1=m then[s*256].count x else 0):=i
  unfold gT;rw[hph];simp only[jL];by_cases hy:s*256=x
  .subst hy;rw[Cq]at i;by_cases hk : -1=m
   .rw[zC hk]at i;rw[zC ⟨hk.symm,rfl⟩];omega
   .rw[zB hk]at i;rw[zB (λz=>hk z.1.symm)];omega
  .have:[s*256].count x=0:=AW.2 aE;rw[this]at i;rw[zB (λz=>hy z.2.symm)];split at i<;>omega) h.lk (λY L=>.inl L) (λs a C=>by cases C) ⟨b.ll,b.lo,b.hb,b.hl,by
   unfold iy;exact S⟩
 refine⟨iH.mk' hg b.hl ⟨O,O,λB U q F=>?_⟩ e hi (KS.refl _),?_⟩
 .obtain⟨j,Q⟩:=zP U;have J:=h.wi.ga j B Q;have:=J.fit F;have:=J.pg.n2;omega
 .unfold n4;rw[e,G];exact⟨rfl,.inr rfl,λ_=>⟨rfl,rfl⟩,λx z=>by cases z⟩
theorem π (h:HI H held s0)(hg:H.bR[t]?=some g)(hph:g.ph=some .back):iH H t .back/\n4 H t g .back:=by
 have D:=(cY.1 hg).1;have d:=h.th g (h.mem hg);have Q:g.bQ≠[]:=by have:=d.ph;unfold iy at this;rw[hph]at this;exact this
 have A:=tD hg;cases hhd:g.bQ with
 | nil=>exact(Q hhd).elim
 | cons b r=>
  obtain⟨k,z⟩:=b;obtain⟨L,B,F⟩:=d.hb (k,z) (by rw[hhd];simp);simp only at L B F;have m:∀x,z.count x<=gT g (k:Int) x:=λx=>by
   unfold gT;rw[hhd,Vs,zC rfl];simp only;omega
  have i:∀x∈z,Um held (k:Int) x:=λx u=>h.rh (h.mem hg) (kD (CI.2 u) (m x));have w:z.Nodup:=Dc.2 λx=>by
   have P:=m x;have U:=h.px (h.mem hg) (k:Int) x;have W:=Fi held (k:Int) x;omega
  obtain⟨j,G,N,E,wi,um,sub⟩:=Θ (H:={H with bR:=H.bR.set t {g with bQ:=r}}) (tb:=H.tb) rfl h.wi (h.j5 t) L i w;have K:WH H t .back=({{H with bZ:=j}with bR:=H.bR.set t {g with bQ:=r}},(if r=[]then none else some .back),0,0):=by
   simp only[WH,A,hhd,ZW hg,N];rw[CX (g:={g with bQ:=r}) (by simp[D])]
  have e:=Qz (H1:={H with bZ:=j}) D K;have hi:=h.eX hg (g':={g with bQ:=r,ph:=if r=[]then none else some .back}) (live':=H.live) wi h.nj rfl E (λp C R=>.inl (sub p C R)) (λJ x=>by
   have P:=Jc w i um J x;unfold gT;rw[hph,hhd,Vs];have:jL (if r=[]then none else some Ph.back) J x=0:=by split<;>rfl
   simp only[this];simp only[jL];omega) h.lk (λV M=>.inl M) (λs a C=>by
    simp only at C;split at C<;>cases C) ⟨d.ll,d.lo,λb hb=>d.hb b (by rw[hhd];exact l7 _ hb),by have:=d.hl;rw[hhd]at this;simp at this ⊢;omega,by
    unfold iy;by_cases ho:r=[]
    .rw[zC ho];exact ho
    .rw[zB ho];exact ho⟩
  refine⟨iH.mk' hg d.hl ⟨k,z,r,by rw[A];exact hhd,λx u=>⟨(h.i63 (i x u)).1,(h.i63 (i x u)).2.2⟩,O⟩ e hi (KS.refl _),?_⟩;unfold n4;rw[e,K];refine⟨rfl,?_,λ_=>⟨rfl,rfl⟩,λx u=>by cases u⟩;by_cases ho:r=[]
  .exact .inr (by simp only;rw[zC ho])
  .exact .inl ⟨.back,_,by simp only;rw[zB ho],trivial,(λy S=>by cases S),zO D,by simp only[qD];rw[hhd];simp⟩
theorem Mx (h:HI H held s0)(hg:H.bR[t]?=some g){x:Int}(hph:g.ph=some (.put k x)):iH H t (.put k x)/\n4 H t g (.put k x):=by
 have B:=(cY.1 hg).1;have r:=h.th g (h.mem hg);obtain⟨J,L⟩:g.bQ=[(k,[x])]/\k<H.tb.length:=by have:=r.ph;unfold iy at this;rw[hph]at this;exact this
 obtain⟨c,hc,C⟩:=h.cls L;obtain⟨l,hl,Y,F,hlm⟩:=r.li L;have G:=tD hg;have h40:=h.r6;have W:=RF (x:=x) C F;have V:=Tg c x l O;have N:(dO c x l).1.length<=129/\(dO c x l).2.os.length<=128:=by
  have hlim:=F.lim;have w:(eM [x] l).os=l.os++[x]:=by unfold eM;rw[zB aE]
  have Q:(mI c (eM [x] l)).os=l.os++[x]:=by rw[←w];unfold mI;split<;>rfl
  unfold cA.ok at C;unfold dO;rw[zB O];split
  .rw[w];simp;omega
  .simp only[gO,Q,zY,kj,zM,sC];omega
 obtain⟨Z,M⟩:=r.iw (k:=k) W N.2;have X:∃hs:List Bt,(if(dO c x l).1=[]then[]else[(k,(dO c x l).1)])=hs:=⟨_,rfl⟩
 obtain⟨i,j⟩:=X;have hs2l:i.length<=1:=by rw[←j];split<;>simp
 have z:∀b∈i,b.1<H.tb.length/\b.2≠[]/\b.2.length<=256:=λb p=>by
  rw[←j]at p;split at p
  .simp at p
  .simp only[zN]at p;subst p;exact⟨L,by assumption,by simp only;omega⟩
 have D:∀d y,lR i d y=if(k:Int)=d then(dO c x l).1.count y else 0:=λd y=>by
  rw[←j];split
  .rename_i hn;rw[hn,V6];simp
  .simp only[Vs,V6,kr]
 let g3:Th:={g with ls:=g.ls.set k (dO c x l).2,bQ:=i}
 let g4:Th:=if H.cf.dD<KB H.tb g3.ls then{g3 with ls:=KG Vz H.tb g3.ls,bQ:=g3.bQ++KN Vz H.tb g3.ls}else g3
 have P:iE H t k x = {H with bR:=H.bR.set t g4}:=by
  have e2:(if(dO c x l).1=[]then H.eB t λh=>h.iw k (dO c x l).2 else Kr (H.eB t λh=>h.iw k (dO c x l).2) t k (dO c x l).1) = {H with bR:=H.bR.set t {g with ls:=g.ls.set k (dO c x l).2,bQ:=(k,[x])::i}}:=by
   rw[←j];split
   .rw[ZW hg,←J];rfl
   .rw[ZW hg];unfold Kr;rw[ZW (g:=g.iw k (dO c x l).2) (by simp[B])];simp only[nT,Th.iw,J];rfl
  have e3:({H with bR:=H.bR.set t {g with ls:=g.ls.set k (dO c x l).2,bQ:=(k,[x])::i}}:Hw).eB t (λh=>{h with bQ:=h.bQ.drop 1}) = {H with bR:=H.bR.set t g3}:=by
   rw[ZW (g:={g with ls:=g.ls.set k (dO c x l).2,bQ:=(k,[x])::i}) (by simp[B])];simp only[nT,vR,yQ];rfl
  have u:({H with bR:=H.bR.set t g3}:Hw).bR[t]?=some g3:=by simp[B]
  unfold iE;simp only[UG hc,G,Y,e2,e3,tD u,ZW u,nT];show(if H.cf.dD<KB H.tb g3.ls then _ else _)=_
  simp only[g4];split<;>rfl
 have hg4:g4.ph=g.ph:=by simp only[g4];split<;>rfl
 have U:∀d y,l0 g4.ls d y+lR g4.bQ d y=l0 g.ls d y+lR g.bQ d y:=λd y=>by
  have S:=Bb hl (dO c x l).2 d y;have h2:=V y;have h3:l0 g3.ls d y+lR g3.bQ d y=l0 g.ls d y+lR g.bQ d y:=by
   simp only[g3];rw[D,J,Vs,V6];by_cases hkk:(k:Int)=d
   .simp only[hkk,zT]at S ⊢;omega
   .simp only[hkk,jV]at S ⊢;omega
  simp only[g4];split
  .have h4:=I9 (f:=Vz) MI (tb:=H.tb) (ls:=g3.ls) Z d y;simp only[I0];omega
  .exact h3
 have m:g4.ls.length=H.tb.length/\(∀l∈g4.ls,fP l/\l.os.length<=128)/\(∀b∈g4.bQ,b.1<H.tb.length/\b.2≠[]/\b.2.length<=256)/\g4.bQ.length<=41:=by
  have hsl:=D6 Vz H.tb g3.ls;simp only[g4];split
  .refine⟨Ft Z,λl hl=>?_,λb p=>?_,by simp only[zM,g3]at *;omega⟩
   .obtain⟨K,R,E,A,rfl⟩:=LW hl;have h5:=M E A;have:=J0 K E;exact⟨Lu (h.ok K R) h5.1,O⟩
   .rcases zJ.1 p with p|p
    .exact z b p
    .obtain⟨b1,b2,K,_,E,A,b3⟩:=Lo p;have h5:=M E A;have:=J0 K E;exact⟨b1,b2,by rw[b3];omega⟩
  .exact⟨Z,M,z,by simp only[g3];omega⟩
 have hs:WH H t (.put k x)=({H with bR:=H.bR.set t g4},(if g4.bQ=[]then none else some .back),0,0):=by
  show(iE H t k x,j6 (iE H t k x) t,0,0)=_;rw[P,CX (g:=g4) (by simp[B])]
 have e:=Qz B hs;have hi:=h.kP hg (g':={g4 with ph:=if g4.bQ=[]then none else some .back}) (live':=H.live) (λd y=>by
  have S:=U d y;unfold gT;rw[hph];have:jL (if g4.bQ=[]then none else some Ph.back) d y=0:=by split<;>rfl
  simp only[this];simp only[jL];omega) h.lk (λe' he=>.inl he) (λs a hp=>by
   simp only at hp;split at hp<;>cases hp) ⟨m.1,m.2.1,m.2.2.1,m.2.2.2,by
   unfold iy;by_cases ho:g4.bQ=[]
   .simp only[ho,zT]
   .simp only[ho,jV];exact ho⟩
 refine⟨iH.mk' hg r.hl ⟨L,by rw[G,J];simp⟩ e hi (KS.refl _),?_⟩;unfold n4;rw[e,hs];refine⟨rfl,?_,λ_=>⟨rfl,rfl⟩,λx hx=>by cases hx⟩;by_cases ho:g4.bQ=[]
 .exact .inr (by simp only;rw[zC ho])
 .exact .inl ⟨.back,_,by simp only;rw[zB ho],trivial,(λy hy=>by cases hy),zO B,by simp only[qD];have:=m.2.2.2;omega⟩
end Go.Ar
namespace Go.Ar
open Go Go.Vc Go.Proofs
open Go.Bu (fB VJ Hu)
variable {U u w w':Hp}{F B P Q:Rg}{L:dE}{H H':Hw}{t n:Nat}{g:Th}
def A7 (size:Int):Int:=(size+255)/256*256
def Ge (tb:List cA)(size align:Int):Int×Int:=
 if size<=16384/\Hl size align=true then(match gY tb size align with
  | some k=>((tb.getD k ⟨8,1,1⟩).size:Int)
  | none=>A7 size,0)else(0,1)
theorem Pp {a:Int}(h1:1<=a)(h2:a<=256):(bits .and .i64 a (a-1) != 0) = !fB a:=by
 obtain⟨a,rfl⟩:=zc (show 0<=a by omega);rw[show(a:Int)-1=((a-1:Nat):Int) by omega,Go.Bu.jf O O,VJ,←Hu O O];simp only[bne,Bool.not_inj_iff];rw[kZ];simp only[zU];omega
def Q0 (sp:Sp)(x:Int):Int:=if eP sp x=0 then sp.wd (x.toNat/8)else 0
theorem CV (h:HH U F L H)(x:Int)(hx:x<=9223372036854775807){R:Int->Int->Hp->Prop}(hR:∀σ',aF U σ'->R (Q0 H.sp x) (eP H.sp x) σ'):YK.c (aW L.p) x U R:=RV h x hx hR
end Go.Ar
namespace Go.Ar
open Go Go.Vc Go.Proofs
variable {U u w w':Hp}{F B P Q:Rg}{L:dE}{H H':Hw}{t n:Nat}{g:Th}
def Kl (H:Hw)(x:Int):Option Int:=(bS H.live x).map λb=>b.2.1
theorem F4 {tb:List cA}{size align:Int}{k:Nat}(h:gY tb size align=some k):k<tb.length:=(List.findIdx?_eq_some_iff_findIdx_eq.1 h).1
theorem Lg (h:HH U F L H)(x:Int){R:Int->Int->Hp->Prop}(hR:∀σ',aF U σ'->R ((Kl H x).getD 0) (if(Kl H x).isSome then 0 else 8) σ'):XT.c (aW L.p) x U R:=by
 refine RT h x λσ' e=>?_;have:=hR σ' e;unfold Kl at this;cases hm:bS H.live x with
 | none=>rw[hm]at this;exact this
 | some b=>rw[hm]at this;exact this
end Go.Ar
namespace Go.Ar
open Go.Vc (bS cX cO)
variable {H H':Hw}{held:List Pc}{s0:Sp}{t k j:Nat}{g:Th}{A:AR}{c:cA}
theorem Vr (f:Th->Th)(hj:j≠t):(H.eB t f).bR[j]?=H.bR[j]? := by
 simp[Hw.eB,uN,Ne.symm hj]
theorem SX (x:Int)(hj:j≠t):(iE H t k x).bR[j]?=H.bR[j]? := by
 unfold iE Kr;simp only;split<;>split<;>simp only[Vr _ hj]
theorem P9 (p:Ph)(hj:j≠t):(WH H t p).1.bR[j]?=H.bR[j]? := by
 cases p with
 | take k=>simp only[WH];split<;>simp only[V3,Vr _ hj]
 | cJ k w=>
  simp only[WH];split
  .split
   .unfold Kr;rw[Vr _ hj];rfl
   .rfl
  .rfl
 | cL k w=>
  simp only[WH];split
  .rfl
  .unfold Kr;rw[Vr _ hj];rfl
 | grow k w=>simp only[WH];split<;>rfl
 | fill=>simp only[WH];split<;>simp only[V3,Vr _ hj]
 | eT m=>simp only[WH];split<;>rfl
 | find x=>
  simp only[WH,HA];split
  .rfl
  .split
   .rfl
   .unfold Kr;rw[Vr _ hj]
 | put k x=>exact SX x hj
 | back=>
  simp only[WH];split
  .rw[Dm,Vr _ hj]
  .rfl
 | dF s a=>simp only[WH];split<;>rfl
 | drain=>simp only[WH,Vr _ hj]
theorem UU (p:Ph)(hj:j≠t):(Kd H t p).bR[j]?=H.bR[j]? := by
 unfold Kd fo;rw[Vr _ hj,P9 p hj]
def fG (H:Hw)(j:Nat):Option Ph:=(H.bR[j]?).bind (·.ph)
def wU (H H':Hw)(t:Nat):Prop:=fG H' t=none/\∀j,j≠t->fG H' j=fG H j
theorem Cp (h:HI H held s0)(hg:H.bR[t]?=some g){p:Ph}(hp:g.ph=some p)(hf:¬lL p):∃cl sz,Rq H.tb g p cl sz:=by
 have b:=(h.th g (h.mem hg)).ph;unfold iy at b;rw[hp]at b;cases p with
 | take k=>obtain⟨c,d,_⟩:=h.cls b.2;exact⟨_,_,rfl,c,d,rfl⟩
 | cJ k w=>obtain⟨c,d,_⟩:=h.cls b.2.1;exact⟨_,_,rfl,c,d,rfl⟩
 | cL k w=>obtain⟨c,d,_⟩:=h.cls b.2.1;exact⟨_,_,rfl,c,d,rfl⟩
 | grow k w=>obtain⟨c,d,_⟩:=h.cls b.2.1;exact⟨_,_,rfl,c,d,rfl⟩
 | fill=>
  obtain⟨k,x,r,i,j,_⟩:=b;obtain⟨c,d,_⟩:=h.cls j;exact⟨_,_,k,_,[],c,i,rfl,d,rfl⟩
 | eT m=>exact⟨_,_,rfl,rfl⟩
 | find x=>exact(hf trivial).elim
 | put k x=>exact(hf trivial).elim
 | back=>exact(hf trivial).elim
 | dF s a=>exact(hf trivial).elim
 | drain=>exact(hf trivial).elim
theorem r7 (h:HI H held s0)(hg:H.bR[t]?=some g){p:Ph}(hp:g.ph=some p){cl sz:Int}(hr:Rq H.tb g p cl sz):iH H t p/\uO H t p cl sz:=by
 cases p with
 | take k=>exact Nh h hg hp hr
 | cJ k w=>exact NN h hg hp hr
 | cL k w=>exact OD h hg hp hr
 | grow k w=>exact Ss h hg hp hr
 | fill=>exact Rm h hg hp hr
 | eT m=>exact Wj7 h hg hp hr
 | find x=>exact hr.elim
 | put k x=>exact hr.elim
 | back=>exact hr.elim
 | dF s a=>exact hr.elim
 | drain=>exact hr.elim
theorem sg (h:HI H held s0)(hg:H.bR[t]?=some g){p:Ph}(hp:g.ph=some p)(hf:lL p):iH H t p/\n4 H t g p:=by
 cases p with
 | take k=>exact hf.elim
 | cJ k w=>exact hf.elim
 | cL k w=>exact hf.elim
 | grow k w=>exact hf.elim
 | fill=>exact hf.elim
 | eT m=>exact hf.elim
 | find x=>exact NR h hg hp
 | put k x=>exact Mx h hg hp
 | back=>exact π h hg hp
 | dF s a=>exact N6 h hg hp
 | drain=>exact SP h hg hp
open Classical in
theorem HI.PX (h:HI H held s0)(hg:H.bR[t]?=some g){p:Ph}(hp:g.ph=some p):iH H t p:=by
 by_cases hf:lL p
 .exact(sg h hg hp hf).1
 .obtain⟨cl,b,a⟩:=Cp h hg hp hf;exact(r7 h hg hp a).1
theorem Gi {p:Ph}(ht:t<H.bR.length):∃g',(Kd H t p).bR[t]?=some g'/\g'.ph=(WH H t p).2.1:=Jl ht
theorem Fo {cl sz:Int}:∀(n:Nat) {H:Hw} {held:List Pc} {s0:Sp} {g:Th} {p:Ph},HI H held s0->H.bR[t]?=some g->g.ph=some p->Rq H.tb g p cl sz->pq H t p<=n →
 ∃m H' a e,iJ m H t p H' a e/\(∃held s0,HI H' held s0)/\KS H.sp H'.sp/\wU H H' t/\((e≠0/\a=0/\H'.live=H.live)\/(e=0/\bS H.live a=none/\H'.live=cX H.live a (a,sz,cl,XS H'.bZ a)))
 | n,H,held,s0,g,p,h,hg,hp,hr,hn=>by
  have ht:=(cY.1 hg).1;obtain⟨s,F⟩:=r7 h hg hp hr;have i:(WH H t p).2.1=none->wU H (Kd H t p) t:=λD=>by
   obtain⟨G,y,x⟩:=Gi (p:=p) ht;exact⟨by unfold fG;rw[y];exact x.trans D,λj u=>by unfold fG;rw[UU p u]⟩
  rcases F with⟨p',G,e1,e2,e3,e4,e5⟩|⟨e1,e2,e3,e4⟩|⟨e1,e2,e3,e4⟩
  .obtain⟨w,B,C⟩:=s.hi;obtain⟨J,b,ko⟩:=Gi (p:=p) ht;rw[e3]at b;cases b;have z:(Kd H t p).tb=H.tb:=(Ha H t p).1;have E:pq (Kd H t p) t p'<n:=O
   obtain⟨m,H',a,e,r,hi,ks,A,d⟩:=Fo (pq (Kd H t p) t p') C e3 (ko.trans e1) (by rw[z];exact e4) (zD _);refine⟨m+1,H',a,e,.next s.ok e1 r,hi,s.ks.trans ks,⟨A.1,λj u=>(A.2 j u).trans (by unfold fG;rw[UU p u])⟩,?_⟩;rw[e2]at d;exact d
  .exact⟨1,_,_,_,.done s.ok e1,s.hi,s.ks,i e1,.inl ⟨e2,e3,e4⟩⟩
  .exact⟨1,_,_,_,.done s.ok e1,s.hi,s.ks,i e1,.inr ⟨e2,e3,e4⟩⟩
termination_by n=>n
theorem Ja:∀(n:Nat) {H:Hw} {held:List Pc} {s0:Sp} {g:Th} {p:Ph},HI H held s0->H.bR[t]?=some g->g.ph=some p->lL p->qD g p<=n →
 ∃m H' e,iJ m H t p H' 0 e/\(∃held s0,HI H' held s0)/\KS H.sp H'.sp/\wU H H' t/\((∀x,p≠.find x)->e=0/\H'.live=H.live) ∧
  (∀x,p=.find x->(bS H.live x=none->e≠0/\H'.live=H.live)/\(∀b,bS H.live x=some b->e=0/\H'.live=cO H.live x))
 | n,H,held,s0,g,p,h,hg,hp,hf,hn=>by
  have ht:=(cY.1 hg).1;obtain⟨s,Q,P,F,a⟩:=sg h hg hp hf;rcases P with⟨p',D,e1,e2,e3,e4,e5⟩|e1
  .obtain⟨w,K,L⟩:=s.hi;obtain⟨R,i,ko⟩:=Gi (p:=p) ht;rw[e4]at i;cases i;have N:qD D p'<n:=O
   obtain⟨m,H',e,r,hi,ks,E,z,_⟩:=Ja (qD D p') L e4 (ko.trans e1) e2 (zD _);obtain⟨G,J⟩:=z e3;refine⟨m+1,H',e,.next s.ok e1 r,hi,s.ks.trans ks,⟨E.1,λj u=>(E.2 j u).trans (by unfold fG;rw[UU p u])⟩,λd=>⟨G,J.trans (F d).2⟩,λx d=>⟨λC=>?_,λb M=>⟨G,J.trans ((a x d).2 b M).2⟩⟩⟩;have:=((a x d).1 C).1;rw[e1]at this;cases this
  .have B:wU H (Kd H t p) t:=by
    obtain⟨D,A,y⟩:=Gi (p:=p) ht;exact⟨by unfold fG;rw[A];exact y.trans e1,λj u=>by unfold fG;rw[UU p u]⟩
   have r:=iJ.done (H:=H) (t:=t) s.ok e1;rw[Q]at r;exact⟨1,_,_,r,s.hi,s.ks,B,F,λx d=>⟨λC=>((a x d).1 C).2,(a x d).2⟩⟩
termination_by n=>n
structure fV (H H':Hw):Prop where
 hi:∃held s0,HI H' held s0
 ks:KS H.sp H'.sp
 kp:QY H' H
 ph:∀j,fG H' j=fG H j
theorem fV.refl (h:HI H held s0):fV H H:=⟨⟨held,s0,h⟩,KS.refl _,QY.refl _,λ_=>rfl⟩
theorem fV.trans {H1 H2 H3:Hw}(a:fV H1 H2)(b:fV H2 H3):fV H1 H3:=⟨b.hi,a.ks.trans b.ks,a.kp.trans b.kp,λj=>(b.ph j).trans (a.ph j)⟩
theorem EY {tb:List cA}{kind size align addr:Int}{p:Ph}(h:iP tb kind size align addr=some p)(hx:iN addr)(hh:g.bQ=[]):iy tb.length {g with ph:=some p}:=by
 unfold iP at h;split at h
 .split at h
  .split at h
   .split at h
    .rename_i k hk;cases h;exact⟨hh,F4 hk⟩
    .cases h;exact⟨hh,O,O⟩
   .cases h
  .cases h
 .split at h
  .cases h;exact⟨hh,hx⟩
  .split at h
   .cases h;exact hh
   .cases h
theorem HI.fo (h:HI H held s0)(hg:H.bR[t]?=some g)(hn:g.ph=none){p:Ph}(hp:iy H.tb.length {g with ph:=some p})(hq:∀s a,p≠.dF s a):HI (fo H t (some p)) held s0:=by
 have b:=h.th g (h.mem hg);have e:Go.Ar.fo H t (some p) = {H with bR:=H.bR.set t {g with ph:=some p}}:=ZW hg _;rw[e];refine h.kP hg (live':=H.live) (λd x=>?_) h.lk (λj i=>.inl i) (λs a hp=>by cases hp;exact(hq s a rfl).elim) ⟨b.ll,b.lo,b.hb,b.hl,hp⟩;unfold gT;rw[hn];have:jL (some p) d x=0:=by
  cases p<;>first|rfl|exact(hq _ _ rfl).elim
 simp only[this];simp only[jL]
theorem EK (h:HI H held s0)(hg:H.bR[t]?=some g)(hn:g.ph=none):g.bQ=[]:=by
 have:=(h.th g (h.mem hg)).ph;unfold iy at this;rw[hn]at this;exact this
theorem G3 (H:Hw)(thread kind size align addr:Int):(∃e,Vb H thread kind size align addr=.inl e/\e≠0)\/∃(t:Nat) (p:Ph) (g:Th),thread=(t:Int)/\H.bR[t]?=some g/\g.ph=none/\iP H.tb kind size align addr=some p/\Vb H thread kind size align addr=.inr (t,p):=by
 unfold Vb;split
 .split
  .split
   .split
    .rename_i hth _ g hg hn _ p hp;exact .inr ⟨thread.toNat,p,g,O,hg,hn,hp,rfl⟩
    .exact .inl ⟨1,rfl,by decide⟩
   .exact .inl ⟨5,rfl,by decide⟩
  .exact .inl ⟨1,rfl,by decide⟩
 .exact .inl ⟨1,rfl,by decide⟩
theorem Pa (hg:H.bR[t]?=some g)(p:Option Ph)(hj:j≠t):fG (fo H t p) j=fG H j:=by
 unfold fG fo;rw[Vr _ hj]
theorem EO (hg:H.bR[t]?=some g)(hn:g.ph=none){p:Ph}(ps:wU (fo H t (some p)) H' t):∀j,fG H' j=fG H j:=λj=>by
 by_cases hj:j=t
 .subst hj;rw[ps.1];unfold fG;rw[hg];exact hn.symm
 .rw[ps.2 j hj,Pa hg _ hj]
def nN (H:Hw)(size align:Int)(H':Hw)(a e:Int):Prop:=(e≠0/\a=0/\H'.live=H.live) ∨
 (e=0/\bS H.live a=none/\(1<=size/\size<=16384/\Hl size align=true)/\∃cl,H'.live=cX H.live a (a,(Ge H.tb size align).1,cl,XS H'.bZ a)/\((∃k:Nat,cl=k/\gY H.tb size align=some k)\/cl = -1/\gY H.tb size align=none))
theorem Lt (h:HI H held s0)(thread size align:Int):∃H' a e,KO H thread 0 size align 0 H' a e/\fV H H'/\nN H size align H' a e:=by
 rcases G3 H thread 0 size align 0 with⟨e,hs,hne⟩|⟨t,p,g,rfl,hg,hn,hq,hs⟩
 .exact⟨H,0,e,.inl ⟨hs,hne,rfl,rfl⟩,fV.refl h,.inl ⟨hne,rfl,rfl⟩⟩
 .have D:=EK h hg hn;have i:=EY (g:=g) hq (by unfold iN;decide) D;unfold iP at hq;rw[zC rfl]at hq;split at hq
  .rename_i hsz;split at hq
   .rename_i hok;have b:Ge H.tb size align=(match gY H.tb size align with
     | some k=>((H.tb.getD k ⟨8,1,1⟩).size:Int)
     | none=>A7 size,0):=by
     unfold Ge;rw[zC ⟨hsz.2,hok⟩]
     first|done | (cases gY H.tb size align<;>rfl)
    obtain⟨cl,d,u⟩:∃cl,Rq H.tb {g with ph:=some p} p cl (Ge H.tb size align).1/\((∃k:Nat,cl=k/\gY H.tb size align=some k)\/cl = -1/\gY H.tb size align=none):=by
     cases hcv:gY H.tb size align with
     | some k=>
      rw[hcv]at hq b;cases hq;have x:=F4 hcv;have z:H.tb[k]?=some H.tb[k]:=cW x;refine⟨k,⟨rfl,H.tb[k],z,?_⟩,.inl ⟨k,rfl,rfl⟩⟩;rw[b];simp only;rw[zQ,z];rfl
     | none=>
      rw[hcv]at hq b;cases hq;refine⟨-1,⟨rfl,?_⟩,.inr ⟨rfl,rfl⟩⟩;rw[b];simp only;unfold A7;omega
    have j:∀s a,p≠.dF s a:=λs a e=>by subst e;exact d.elim
    have A:=h.fo hg hn i j;have y:(Go.Ar.fo H t (some p)).bR[t]?=some {g with ph:=some p}:=by
     have C:=(cY.1 hg).1;have e:Go.Ar.fo H t (some p) = {H with bR:=H.bR.set t {g with ph:=some p}}:=ZW hg _;rw[e];simp[C]
    obtain⟨m,H',a,e,r,hi,ks,B,w⟩:=Fo _ A y rfl d (zD _);refine⟨H',a,e,.inr ⟨t,p,m,hs,r⟩,⟨hi,ks,(Vw _ _ _).trans (FC r),EO hg hn B⟩,?_⟩;rcases w with⟨r1,r2,r3⟩|⟨r1,r2,r3⟩
    .exact .inl ⟨r1,r2,r3⟩
    .exact .inr ⟨r1,r2,⟨hsz.1,hsz.2,hok⟩,cl,r3,u⟩
   .cases hq
  .cases hq
def nG (H:Hw)(thread addr:Int)(H':Hw)(e:Int):Prop:=
 (e≠0/\H'=H/\Vb H thread 1 0 0 addr=.inl e)\/((∃p,Vb H thread 1 0 0 addr=.inr p)/\bS H.live addr=none/\e≠0/\H'.live=H.live)\/((∃p,Vb H thread 1 0 0 addr=.inr p)/\∃b,bS H.live addr=some b/\e=0/\H'.live=cO H.live addr)
theorem OM (h:HI H held s0)(hg:H.bR[t]?=some g)(hn:g.ph=none){p:Ph}(hp:iy H.tb.length {g with ph:=some p})(hf:lL p)(hq:∀s a,p≠.dF s a):∃m H' e,iJ m (fo H t (some p)) t p H' 0 e/\fV H H'/\((∀x,p≠.find x)->e=0/\H'.live=H.live) ∧
 (∀x,p=.find x->(bS H.live x=none->e≠0/\H'.live=H.live)/\(∀b,bS H.live x=some b->e=0/\H'.live=cO H.live x)):=by
 have i:=h.fo hg hn hp hq;have d:(Go.Ar.fo H t (some p)).bR[t]?=some {g with ph:=some p}:=by
  have w:=(cY.1 hg).1;have e:Go.Ar.fo H t (some p) = {H with bR:=H.bR.set t {g with ph:=some p}}:=ZW hg _;rw[e];simp[w]
 obtain⟨m,H',e,r,hi,ks,u,j,y⟩:=Ja _ i d rfl hf (zD _);exact⟨m,H',e,r,⟨hi,ks,(Vw _ _ _).trans (FC r),EO hg hn u⟩,j,y⟩
theorem Wgx (h:HI H held s0)(thread addr:Int)(hx:iN addr):∃H' e,KO H thread 1 0 0 addr H' 0 e/\fV H H'/\nG H thread addr H' e:=by
 rcases G3 H thread 1 0 0 addr with⟨e,hs,hne⟩|⟨t,p,g,rfl,hg,hn,hq,hs⟩
 .exact⟨H,e,.inl ⟨hs,hne,rfl,rfl⟩,fV.refl h,.inl ⟨hne,rfl,hs⟩⟩
 .have d:=EY (g:=g) hq hx (EK h hg hn);have j:p=.find addr:=by unfold iP at hq;simp at hq;exact hq.symm
  subst j;obtain⟨m,H',e,r,op,_,i⟩:=OM h hg hn d trivial (λs a e=>by cases e);refine⟨H',e,.inr ⟨t,_,m,hs,r⟩,op,?_⟩;cases hm:bS H.live addr with
  | none=>exact .inr (.inl ⟨⟨_,hs⟩,hm,(i addr rfl).1 hm⟩)
  | some b=>exact .inr (.inr ⟨⟨_,hs⟩,b,hm,(i addr rfl).2 b hm⟩)
end Go.Ar
namespace Go.Ar
open Go Go.Vc Go.Proofs
variable {U u w w':Hp}{F B P Q:Rg}{L:dE}{H H':Hw}{t n k:Nat}{A:AR}{Y:Lay}
theorem Fr.refl (A:AR):Fr A A:=⟨rfl,rfl,rfl⟩
theorem Fr.trans {A B C:AR}(h:Fr B A)(k:Fr C B):Fr C A:=⟨k.1.trans h.1,k.2.1.trans h.2.1,k.2.2.trans h.2.2⟩
end Go.Ar
namespace Go.Ar
variable {A:AR}
def qZ (tb:List cA)(n room m:Nat):Wd:=⟨tb,V7 n,List.replicate m (fH n room tb),[]⟩
theorem Mh {n room:Nat}{tb:List cA}(h1:32<=n)(h2:n<=1024)(h3:n%16=0)(h6:tb.length<=40)(h7:∀c∈tb,c.ok):GA (fH n room tb)/\∀p,(fH n room tb).f p=0:=by
 have g:∀p,(fH n room tb).f p=0:=λp=>by
  show(List.replicate n 0).getD p 0=0;rw[zQ,mY];split<;>rfl
 have b:∀{k:Nat} {i:List cH},(List.replicate tb.length ([]:List cH))[k]?=some i->i=[]:=λh=>by
  rw[mY]at h;split at h<;>simp at h;exact h
 have a:∀{k:Nat} {t:gQ},(List.replicate tb.length (⟨0,[]⟩:gQ))[k]?=some t->t.bs=[]:=λh=>by
  rw[mY]at h;split at h<;>simp at h;rw[←h]
 refine⟨⟨⟨by simp[fH],h1,h2,h3,λp=>by rw[g];omega,λp=>by rw[g];simp[fH],λp=>by rw[g];simp[fH,Go.Bu.iz],λp=>by rw[g,g]⟩,h6,by simp[fH],by simp[fH],λk c i d=>?_,λk c i d s m=>?_,λk c i d p=>?_,λp=>?_,λp=>.inr (Nat.zero_le _),by simp[fH],by simp[fH],λk t j=>?_,λk c i t d j=>?_,λk c t d j=>?_⟩,g⟩
 .have e:=b d.2;subst e;exact⟨h7 c (zG d.1),by simp,by simp⟩
 .have e:=b d.2;subst e;simp at m
 .have e:=b d.2;subst e;constructor
  .intro h;cases h
  .rintro⟨s,m,_⟩;simp at m
 .constructor
  .intro h;cases h
  .rintro⟨r,hr,_⟩;simp[fH]at hr
 .have:=a j;rw[this];exact vd
 .have:=a j;rw[this];simp
 .have:=a j;rw[this];simp
theorem Nt {tb:List cA}{n room m:Nat}(h1:32<=n)(h2:n<=1024)(h3:n%16=0)(h6:tb.length<=40)(h7:∀c∈tb,c.ok):WI (qZ tb n room m):=by
 obtain⟨w,d⟩:=Mh (room:=room) h1 h2 h3 h6 h7;have get:∀{k:Nat} {A:AR},(qZ tb n room m).bZ[k]?=some A->A=fH n room tb:=λ{k A} h=>by
  have h:(List.replicate m (fH n room tb))[k]?=some A:=h;rw[mY]at h;split at h<;>simp at h;exact h.symm
 have b:∀p,gf (V7 n).st p=0:=λp=>by
  show(List.replicate n 0).getD p 0=0;rw[zQ,mY];split<;>rfl
 refine⟨λk A h=>by rw[get h];exact w,λk A h=>?_,λk A h=>by rw[get h];rfl,λk A h p a=>by rw[get h];exact d p,λp a=>(a (b p)).elim,λp k l A B C H h1 h2=>?_,vd,λp a=>by simp[qZ]at a,λk A h j y z=>?_,λk A h r x=>?_⟩
 .rw[get h];exact⟨by simp[qZ,V7,fH],λp a=>(a (d p)).elim,λp a=>by rw[d p]at a;omega,λp=>by show gf (V7 n).st p<=2;rw[b];omega⟩
 .rw[get C]at h1;exact(h1 (d p)).elim
 .rw[get h]at z;obtain⟨c,F,u,D⟩:=z;have g:F=[]:=by
   have h2:=u.2;simp only[fH]at h2;rw[mY]at h2;split at h2<;>simp at h2;exact h2
  subst g;obtain⟨G,s,i,E,_⟩:=(Ue (w.cG _ _ _ u)).1 D;simp at E
 .rw[get h]at x;simp[fH]at x
end Go.Ar
namespace Go.Ar
open Go.Vc (bS cX cO)
variable {H H':Hw}{held:List Pc}{s0:Sp}{t k j:Nat}{g:Th}{A:AR}{c:cA}
theorem Wom {tb:List cA}{cf:Cf}(h1:32<=cf.aG)(h2:cf.aG<=1024)(h3:cf.aG%16=0)(h4:1<=cf.ig)(h6:tb.length<=40)(h7:∀c∈tb,c.ok):HI (Ux tb cf) [] (V7 cf.aG):=by
 have w:=Nt (tb:=tb) (n:=cf.aG) (room:=cf.room) (m:=cf.ig) h1 h2 h3 h6 h7;have d:∀g∈(Ux tb cf).bR,g=⟨List.replicate tb.length im,[],none⟩:=λg i=>(Bi.1 i).2;have r:∀k,(List.replicate tb.length im).getD k im=im:=λk=>by
  rw[zQ,mY];split<;>rfl
 refine⟨w,jJ.refl _,λk x=>?_,vd,λe u=>by simp[Ux]at u,λg i s a j=>?_,λg i=>?_,h7,?_,?_⟩
 .have A:∀(n:Nat) (f:Th->Nat) (g:Th),f g=0->((List.replicate n g).map f).sum=0:=λn f g h=>by
   rw[wB,h]
   induction n with
   | zero=>rfl
   | succ n ih=>rw[sX,oA,ih]
  have y:gT ⟨List.replicate tb.length im,[],none⟩ k x=0:=by
   unfold gT l0;split
   .simp only[r];rfl
   .rfl
  have:rm (Ux tb cf) k x=0:=by
   unfold rm;show my [] k x+((List.replicate cf.threads (⟨List.replicate tb.length im,[],none⟩:Th)).map λg=>gT g k x).sum=0;rw[A _ _ _ y];rfl
  rw[this,KT];rintro⟨p,j,_⟩;simp at j
 .rw[d g i]at j;cases j
 .rw[d g i];refine⟨by simp[Ux],λl B=>?_,λb z=>by simp at z,by simp,by unfold iy;rfl⟩;rw[(Bi.1 B).2];exact⟨fP.nil,by simp[im]⟩
 .show 1<=(List.replicate cf.ig (fH cf.aG cf.room tb)).length;simpa using h4
 .show(List.replicate cf.aG 0).length=cf.aG;simp
def KL (H H':Hw):Prop:=∀e∈H.live,∀w:Nat,e.1<=((8*w:Nat):Int)->((8*w:Nat):Int)<e.1+e.2.2.1->H'.sp.wd w=H.sp.wd w
theorem HI.Bl (h:HI H held s0):WI ⟨H.tb,s0,H.bZ,held⟩:=h.wi
theorem HI.mapped (h:HI H held s0){p:Pc}(hp:p∈held){x:Nat}(h1:p.addr<=x)(h2:x<p.addr+p.size):gf H.sp.st (x/256)≠0:=by
 obtain⟨A,a,_⟩:=h.wi.hf p hp;have e1:=h.wi.pC hp a h1 h2;have:=(h.wi.ow _ A a).own (x/256) O;intro hz;exact this ((h.nj.z _).1 hz)
theorem HI.kl (h:HI H held s0)(k:KS H.sp H'.sp):KL H H':=λe a w i g=>by
 obtain⟨_,p,d,_,_,j,m,_⟩:=h.lv e a;have b:=h.mapped d (x:=8*w) O O;exact(k.k _ b).2 w O
theorem KL.refl (H:Hw):KL H H:=λ_ _ _ _ _=>rfl
theorem KL.trans {H1 H2 H3:Hw}(a:KL H1 H2)(b:KL H2 H3)(hl:∀e∈H1.live,e∈H2.live):KL H1 H3:=λe i w g d=>(b e (hl e i) w g d).trans (a e i w g d)
structure m8 (H H':Hw):Prop where
 hi:∃held s0,HI H' held s0
 live:H'.live=H.live
 bR:H'.bR=H.bR
 kp:QY H' H
 kl:KL H H'
theorem m8.refl (h:HI H held s0):m8 H H:=⟨⟨_,_,h⟩,rfl,rfl,QY.refl _,KL.refl _⟩
theorem m8.trans {H1 H2 H3:Hw}(a:m8 H1 H2)(b:m8 H2 H3):m8 H1 H3:=⟨b.hi,b.live.trans a.live,b.bR.trans a.bR,a.kp.trans b.kp,a.kl.trans b.kl λe d=>by rw[a.live];exact d⟩
theorem HI.n (h:HI H held s0)(hk:H.bZ[k]?=some A):A.n=H.cf.aG:=by
 have:=(h.wi.ow k A hk).l;have a:=h.nj.l;have b:=h.sl;simp only at this;omega
theorem WI.wd {W:Wd}(h:WI W)(f:Nat->Int):WI {W with sp:={W.sp with wd:=f}}:=
 ⟨h.ga,λk A hk=>⟨(h.ow k A hk).l,(h.ow k A hk).own,(h.ow k A hk).cl,(h.ow k A hk).le⟩,h.tb,h.low,h.own,h.one,h.hk,h.hf,h.ht,h.hr⟩
theorem I8 {sp:Sp}{x:Int}(h:eP sp x=0):0<=x/\x%8=0/\gf sp.st (x.toNat/256)≠0:=by
 unfold eP at h;split at h
 .cases h
 .split at h
  .cases h
  .exact⟨O,O,by assumption⟩
theorem BK (sp:Sp)(x v:Int):(ZJ sp x v).st.length=sp.st.length/\(∀p,gf (ZJ sp x v).st p=0↔gf sp.st p=0)/\∀w,(ZJ sp x v).wd w=if eP sp x=0/\w=x.toNat/8 then v else sp.wd w:=by
 unfold ZJ;split
 .rename_i h0;have a:=I8 h0;refine⟨by simp[nY],λp=>?_,λw=>?_⟩
  .show gf (sp.st.set (x.toNat/8/32) 2) p=0↔_;have b:x.toNat/8/32=x.toNat/256:=O
   rw[b];unfold gf at a ⊢;rw[zQ]at a ⊢;rw[zQ,nU];split
   .rename_i he;split
    .rw[←he];simp only[qL];exact⟨λh=>O,λh=>(a.2.2 h).elim⟩
    .rename_i hl;rw[zX O]at a;exact(a.2.2 rfl).elim
   .exact Iff.rfl
  .show(if w=x.toNat/8 then v else sp.wd w)=_
   by_cases hw:w=x.toNat/8
   .rw[zC hw,zC ⟨h0,hw⟩]
   .rw[zB hw,zB λh=>hw h.2]
 .exact⟨rfl,λ_=>Iff.rfl,λw=>by rw[zB λh=>by have:=h.1;contradiction]⟩
theorem HI.write (h:HI H held s0)(x v:Int):HI {H with sp:=ZJ H.sp x v} held {s0 with wd:=(ZJ H.sp x v).wd}:=by
 obtain⟨a,b,_⟩:=BK H.sp x v;exact⟨h.wi.wd _,⟨a.trans h.nj.l,λp=>(b p).trans (h.nj.z p),rfl⟩,h.cn,h.lk,h.lv,h.gv,h.th,h.ok,h.a1,a.trans h.sl⟩
end Go.Ar
namespace Go.Ar
open Go Go.Vc Go.Proofs
variable {U u w w':Hp}{F B P Q:Rg}{L:dE}{H H':Hw}{t n:Nat}{g:Th}
end Go.Ar
namespace Go.Proofs
open Go.Vc
set_option maxRecDepth 100000
def Xi.h:Hn:=.q .o2 (.q (.q (.cU (.seq [.op,.op,.op,.cZ false 2 [.op,.op]])) .aJ) (.q .o1 (.q .o1 (.q (.k (.loop [(4,.one .s),(5,.I)] (.q (.q .o2 (.c .l .l)) (.k (.q .o7 .o6))))) (.q .o6 (.q .o1 (.q (.q .o1 (.k (.loop [(6,.one .s),(7,.I)] (.q (.q .o4 (.c .l .l)) (.q (.k (.q (.cU (.gM true [] [(70,.one .b)] (.tk [0,1,2,3,4,5] (.split 43 (.tk [6,7,8,9,10,11,12,13,14,15,16,17,18,19,20,21,22,23,24,25,26,27,28,29,30,31,32] (.done)) (.tk [6,7,8,9,10,11,12,13,14,15,16,17,18,19] (.split 57 (.tk [20,21,22,23,24,25,26,27,28,29,30,31,32] (.done)) (.tk [20,21,22,23,25,26,27,28,29] (.all [(24,.all [(30,.take 31 (.take 32 (.done)))])])))))))) (.c .o8 .l))) .o3))))) (.q .o3 .l))))))))
def Xi.v (a:Int)(b:Hp)(c:Sl->Int->Hp->Prop):Prop:=bX (λd e=>If d (c ⟨none,0,0⟩ 1 e) (X9 [.s,bO] (λf=>f ⟨none,0,0⟩ 8 e) λg (h:Sl) (i:Int) j=>If (i<512) (XB.c i a j λk l m n=>aV #[.I k,.I l,.I m] 149 n λo p=>App h 3 24 149 [.I 0,.I 0,.I 0] ⟨some o,1,1⟩ p λq r=>Yc.c i a r λs t=>bM (i+s) λu=>g q u t) (XB.c 512 a j λv w x y=>aV #[.I v,.I w,.I x] 149 y λz aa=>App h 3 24 149 [.I 0,.I 0,.I 0] ⟨some z,1,1⟩ aa λab ac=>X9 [.s,bO] (λad=>ad ⟨none,0,0⟩ 0 ac) λae (af:Sl) (ag:Int) ah=>If (ag<((ab.len:Nat):Int)) (Jn [.b] (λ(ai:Bool) aj=>If ai (Ix ab.a ab.len ag 3 λak=>aQ ak 0 aj λal=>aQ ak 1 aj λam=>aQ ak 2 aj λan=>aV #[.I al,.I am,.I an] 149 aj λao ap=>App af 3 24 149 [.I 0,.I 0,.I 0] ⟨some ao,1,1⟩ ap λaq ar=>bM (ag+1) λau=>ae aq au ar) (bM (ag+1) λav=>ae af av aj)) λaw=>dT ah λax=>bM (((ab.len:Nat):Int)-1) λay=>If (ag==ay) (aw true ah) (Ix ab.a ab.len ag 3 λaz=>aS ax az 1 λa0=>bM (ag+1) λa1=>Ix ab.a ab.len a1 3 λa2=>aS ax a2 1 λa3=>If (a0 != a3) (aw true ah) (Ix ab.a ab.len ag 3 λa4=>aS ax a4 0 λa5=>aS ax a4 1 λa6=>aS ax a4 2 λa7=>bM (ag+1) λa8=>Ix ab.a ab.len a8 3 λa9=>aS ax a9 0 λba=>aS ax a9 1 λbb=>aS ax a9 2 λbc=>Xc.c a5 a6 a7 ah λbd be=>
 And (ax be) <| Xc.c ba bb bc be λbf bg=>And (ax bg) <| aw (bd != bf) bg))) (c af 0 ah)))) λbh=>If (a<2) (bh true b) (bh (decide (a>16)) b)
theorem Xi.o {a b c}(d:Xi.v a b c):Xi.c a b c:=Wa Tryz.func96 (x:=Xi.h) (R0 d)
def XB.h:Hn:=.q .o1 (.q .o8 (.q (.q .o1 (.k (.loop [(6,.I)] (.q (.q .o2 (.c .l .l)) (.q (.k (.q (.cU (.seq [.op,.op,.op,.op,.op,.cZ true 9 (RI.ops 9)])) (.c .o3 .l))) .o3))))) .aL))
def XB.v (a b:Int)(c:Hp)(d:Int->Int->Int->Hp->Prop):Prop:=aV #[.I 0,.I 0,.I 0] 149 c λe f=>Nz a<|bM ((512:Int).tdiv a) λg=>aV #[.I 0,.I 0,.I 0] 149 f λh i=>aR h 0 (.I a) i λj=>aR h 1 (.I 4) j λk=>aR h 2 (.I (if 32<(if 2>g then 2 else g)then 32 else(if 2>g then 2 else g))) k λl=>X9 [bO] (λm=>m 4 l) λn (o:Int) p=>If (o≥1) (bM (o*256) λq=>bX (λr s=>If r (aR h 1 (.I o) s λt=>bM (o-1) λu=>n u t) (bM (o-1) λv=>n v s)) λw=>If (q≥a) (bM (o*256) λx=>Nz a <| bM (b*(x.tmod a)) λy=>bM (o*256) λz=>w (decide (y<=z)) p) (w false p)) (aQ h 0 p λaa=>aQ h 1 p λab=>aQ h 2 p λac=>aR e 0 (.I aa) p λad=>aR e 1 (.I ab) ad λae=>aR e 2 (.I ac) ae λaf=>aQ e 0 af λag=>aQ e 1 af λah=>aQ e 2 af λai=>d ag ah ai af)
theorem XB.o {a b c d}(e:XB.v a b c d):XB.c a b c d:=Wa Tryz.func148 (x:=XB.h) (R0 e)
def Yc.h:Hn:=.q .o1 (.q .o1 (.q (.k (.loop [(5,.I)] (.q (.q .o6 (.c .l .l)) (.k .o3)))) .aL))
def Yc.v (a b:Int)(c:Hp)(d:aN):Prop:=X9 [bO] (λe=>e 8 c) λf (g:Int) h=>bM (2*g) λi=>Nz b<|bM (a.tdiv b) λj=>If (i<=j) (bM (2*g) λk=>f k h) (d g h)
theorem Yc.o {a b c d}(e:Yc.v a b c d):Yc.c a b c d:=Wa Tryz.func149 (x:=Yc.h) (R0 e)
def Xc.h:Hn:=.q .o2 (.q .o1 (.q (.k (.loop [(3,.I)] (.q (.q .o9 (.c .l .l)) (.k .o3)))) .aL))
def Xc.v (a b c:Int)(d:Hp)(e:aN):Prop:=aV #[.I a,.I b,.I c] 149 d λf g=>X9 [bO] (λh=>h 0 g) λi (j:Int) k=>bM (j+1) λl=>aQ f 0 k λm=>bM (l*m) λn=>aQ f 1 k λo=>bM (o*256) λp=>If (n<=p) (bM (j+1) λq=>i q k) (e j k)
theorem Xc.o {a b c d e}(f:Xc.v a b c d e):Xc.c a b c d e:=Wa Tryz.func150 (x:=Xc.h) (R0 f)
end Go.Proofs
namespace Go.Ar
open Go Go.Vc Go.Proofs
variable {U w:Hp}
abbrev T3:=Int×Int×Int
def v3 (x:T3):List Value:=[.int .i64 x.1,.int .i64 x.2.1,.int .i64 x.2.2]
def lM (l:List T3):List Value:=l.flatMap v3
theorem CU (l:List T3):(lM l).length=l.length*3:=by
 induction l with
 | nil=>rfl
 | cons x l ih=>simp only[lM,pT,zM,v3,zS,lh]at *;omega
theorem τ (l:List T3)(x:T3):lM (l++[x])=lM l++v3 x:=by simp[lM]
theorem yW:∀{l:List T3} {i:Nat} {x:T3},l[i]?=some x->∀{d:Nat},d<3->(lM l)[i*3+d]?=(v3 x)[d]?
 | [],_,_,h,_,_=>by simp at h
 | y::l,0,x,h,d,hd=>by
  simp at h;subst h;have e:lM (y::l)=v3 y++lM l:=rfl;rw[e,zd (by simp[v3];omega)];congr 1;omega
 | y::l,i+1,x,h,d,hd=>by
  have e:lM (y::l)=v3 y++lM l:=rfl;have a:(v3 y).length=3:=rfl;rw[e,zp O,a,show(i+1)*3+d-3=i*3+d by omega];exact yW (by simpa using h) hd
theorem FH {Q:Rg}{s:Sl}{l:List T3}(h:Go.Vc.Own Q U s 3 (lM l)):iu U s l:=by
 have w:=h.1;rw[CU]at w;refine⟨O,λi x y z d=>?_⟩;obtain⟨b,g,m⟩:=h.cell (j:=i*3+0) (v:=.int .i64 x) ((yW d O).trans rfl);obtain⟨u,a,p⟩:=h.cell (j:=i*3+1) (v:=.int .i64 y) ((yW d O).trans rfl);rw[g]at a;cases a;obtain⟨u,a,r⟩:=h.cell (j:=i*3+2) (v:=.int .i64 z) ((yW d O).trans rfl);rw[g]at a;cases a;refine⟨b,0,g,K0 m,?_,?_,?_⟩
 .rw[show 0+i*3=i*3+0 by omega];exact m
 .rw[show 0+i*3+1=i*3+1 by omega];exact p
 .rw[show 0+i*3+2=i*3+2 by omega];exact r
def vf (s w:Int)(n:Nat):Int:=([4,3,2,1].take n).foldl (λ(r p:Int)=>if s<=p*256/\w*((p*256)%s)<=p*256 then p else r) 4
def Aa (s:Int):Int:=min 32 (max 2 (512/s))
def lx (s w:Int):T3:=(s,vf s w 4,Aa s)
def xz:Nat->Int->Int->Int
 | 0,d,_=>d
 | n+1,d,q=>if 2*d<=q then xz n (2*d) q else d
def yq (s w:Int):Int:=xz 8 8 (s/w)
def m6 (x:T3):Int:=x.2.1*256/x.1
theorem RR (s w:Int)(n:Nat):1<=vf s w n/\vf s w n<=4:=by
 have key:∀(l:List Int) (r:Int),(∀p∈l,1<=p/\p<=4)->1<=r/\r<=4->1<=l.foldl (λ(r p:Int)=>if s<=p*256/\w*((p*256)%s)<=p*256 then p else r) r/\l.foldl (λ(r p:Int)=>if s<=p*256/\w*((p*256)%s)<=p*256 then p else r) r<=4:=by
  intro l
  induction l with
  | nil=>intro r _ h;exact h
  | cons p l ih=>
   intro r hl hr;rw[ry];refine ih _ (λq a=>hl q (l7 _ a)) ?_;split
   .exact hl p mL
   .exact hr
 refine key _ _ (λp b=>?_) O;have:=vu b;simp at this;omega
theorem EL (s w:Int)(h1:8<=s)(h2:s<=512)(hw1:2<=w)(hw2:w<=16){R:Int->Int->Int->Hp->Prop}(hR:∀σ',aF U σ'->R (lx s w).1 (lx s w).2.1 (lx s w).2.2 σ'):XB.c s w U R:=by
 refine XB.o ?_;unfold XB.v;have W:1<=512/s/\512/s<=64:=⟨by rw[Int.le_ediv_iff_mul_le O];omega,Int.ediv_le_of_le_mul O O⟩;refine nw (cs:=[.int .i64 0,.int .i64 0,.int .i64 0]) λv hz e Z=>nz O (ar (by rw[YU O];omega) (by rw[YU O];omega) ?_);rw[YU O];refine nw (cs:=[.int .i64 0,.int .i64 0,.int .i64 0]) λv1 K e1 D=>D.s1 aA λv2 o2 C=>C.s1 aA λS o3 p=>p.s1 aA λv4 o4 b4=>?_;have b:U.size≠v.size:=O
 have B:=WF o4 (WF o3 (WF o2 (e1.bV Z id) b) b) b;have N:aF U v4:=((((e.trans e1).only o2 (.inr O)).only o3 (.inr O)).only o4 (.inr O));have g:(if 32<(if 2>512/s then 2 else 512/s)then 32 else(if 2>512/s then 2 else 512/s))=Aa s:=by unfold Aa;omega
 rw[g]at b4;refine Qg (a:=bO) (λ(z:Int) u=>∃n:Nat,n<=4/\z=4-(n:Int)/\aF U u/\bY u U.size [.int .i64 0,.int .i64 0,.int .i64 0]/\bY u v.size [.int .i64 s,.int .i64 (vf s w n),.int .i64 (Aa s)]) (λz _=>z.toNat) ⟨0,O,rfl,N,B,b4⟩ ?_;rintro(z:Int) u ⟨n,hn,rfl,eu,hu,bu⟩;refine cN (λX=>?_) λV=>?_
 .have L:n<4:=O
  have d:vf s w (n+1)=if s<=(4-(n:Int))*256/\w*(((4-(n:Int))*256)%s)<=(4-(n:Int))*256 then 4-(n:Int)else vf s w n:=by
   have Y:([4,3,2,1]:List Int)[n]?=some (4-(n:Int)):=by
    rcases(show n=0\/n=1\/n=2\/n=3 by omega)with rfl|rfl|rfl|rfl<;>rfl
   unfold vf;rw[kB,Y,vX];rfl
  refine ar O O ?_;refine KC (λr G=>G=u/\r=decide (s<=(4-(n:Int))*256/\w*(((4-(n:Int))*256)%s)<=(4-(n:Int))*256)) (λr G ⟨E,x⟩=>?_) λJ F=>?_
  .subst E;by_cases hc:s<=(4-(n:Int))*256/\w*(((4-(n:Int))*256)%s)<=(4-(n:Int))*256
   .rw[zI hc]at x;rw[zC hc]at d;refine cF x (bu.s1 aA λQ o1 y=>ar O O ⟨⟨n+1,O,O,eu.only o1 (.inr O),WF o1 hu b,by rw[d];exact y⟩,O⟩)
   .rw[zL hc]at x;rw[zB hc]at d;exact cD x (ar O O ⟨⟨n+1,O,O,eu,hu,by rw[d];exact bu⟩,O⟩)
  .have m:=Int.emod_nonneg ((4-(n:Int))*256) (show s≠0 by omega);have P:=Int.emod_lt_of_pos ((4-(n:Int))*256) (show 0<s by omega);have aa:w*(((4-(n:Int))*256)%s)<=16*512:=Int.mul_le_mul hw2 O m O;have H:0<=w*(((4-(n:Int))*256)%s):=Int.mul_nonneg O m;refine cN (λh1=>ar O O (nz O ?_)) λh1=>F _ _ ⟨rfl,(zL λj=>h1 j.1).symm⟩;rw[Ki O];refine ar O O (ar O O (F _ _ ⟨rfl,?_⟩));rw[decide_eq_decide];exact⟨λj=>⟨h1,j⟩,λj=>j.2⟩
 .have A:n=4:=O
  subst A;refine bu.rI rfl (bu.rI rfl (bu.rI rfl (hu.s1 aA λQ o1 y=>y.s1 aA λu2 o2 C=>C.s1 aA λM o3 p=>p.rI rfl (p.rI rfl (p.rI rfl (hR M ?_))))));exact((eu.only o1 (.inr O)).only o2 (.inr O)).only o3 (.inr O)
theorem Nu (s w:Int)(h1:8<=s)(h2:s<=512)(hw1:2<=w){R:aN}(hR:8<=yq s w->yq s w<=256->R (yq s w) U):Yc.c s w U R:=by
 refine Yc.o ?_;unfold Yc.v;have m:0<=s/w/\s/w<=256:=⟨Int.ediv_nonneg O O,by
  have:s/w<=s/2:=by
   apply Int.le_ediv_of_mul_le O;have:=Int.ediv_mul_le s (show w≠0 by omega);have j:s/w*2<=s/w*w:=Int.mul_le_mul_of_nonneg_left hw1 (Int.ediv_nonneg O O);omega
  omega⟩
 refine Qg (a:=bO) (λ(d:Int) u=>u=U/\∃n:Nat,xz n d (s/w)=yq s w/\8<=d/\d<=256/\512<=d*2^n) (λd _=>1000-d.toNat) ⟨rfl,8,rfl,O,O,by decide⟩ ?_;rintro(d:Int) u ⟨rfl,n,hst,hd1,hd2,hdn⟩;refine ar O O (nz O (ar (by rw[YU O];omega) (by rw[YU O];omega) ?_));rw[YU O];cases n with
 | zero=>simp at hdn;omega
 | succ n=>
  refine cN (λg=>ar O O ⟨⟨rfl,n,?_,O,O,?_⟩,O⟩) λb=>?_
  .rw[xz,zC g]at hst;exact hst
  .rw[Int.pow_succ]at hdn;have:2*d*2^n=d*(2^n*2):=by rw[Int.mul_comm 2 d,Int.mul_assoc,Int.mul_comm 2 (2^n)]
   omega
  .rw[xz,zB b]at hst;rw[←hst]at hR;exact hR hd1 hd2
theorem Fy (x:T3)(h1:8<=x.1)(h2:x.1<=512)(h3:1<=x.2.1)(h4:x.2.1<=4){R:aN}(hR:∀σ',aF U σ'->R (m6 x) σ'):Xc.c x.1 x.2.1 x.2.2 U R:=by
 refine Xc.o ?_;unfold Xc.v;refine nw (cs:=[.int .i64 x.1,.int .i64 x.2.1,.int .i64 x.2.2]) λv r e m=>?_;refine Qg (a:=bO) (λ(n:Int) u=>aF U u/\bY u U.size [.int .i64 x.1,.int .i64 x.2.1,.int .i64 x.2.2]/\0<=n/\n<=128/\n*x.1<=x.2.1*256) (λn _=>1000-n.toNat) ⟨e,m,O,O,O⟩ ?_;rintro(n:Int) u ⟨eu,bu,hn0,hn1,hn⟩;have s:(n+1)*x.1<=129*512:=Int.mul_le_mul O h2 O O;have j:0<=(n+1)*x.1:=Int.mul_nonneg O O;refine ar O O (bu.rI rfl (ar O O (bu.rI rfl (ar O O ?_))));refine cN (λb=>ar O O ⟨⟨eu,bu,O,?_,b⟩,O⟩) λg=>?_
 .have:(n+1)*8<=(n+1)*x.1:=Int.mul_le_mul_of_nonneg_left h1 O;omega
 .have:m6 x=n:=by
   unfold m6;have p:n<=x.2.1*256/x.1:=(Int.le_ediv_iff_mul_le O).2 hn;have w:x.2.1*256/x.1<n+1:=(Int.ediv_lt_iff_lt_mul O).2 O;omega
  have d:=hR u eu;rw[this]at d;exact d
end Go.Ar