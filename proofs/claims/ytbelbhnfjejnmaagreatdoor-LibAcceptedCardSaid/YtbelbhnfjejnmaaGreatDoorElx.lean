/- PROVED HERE: a part (Elx) of the tied card of LibAccepted (floodgatelaw25). CONDITIONS: those of the given row and card alone. -/
import Derived.Test.YtbelbhnfjejnmaaGreatDoorEvg
import Derived.Test.YtbelbhnfjejnmaaGreatDoorXd
namespace Go.Ev
open Go.RowKit Go.Proofs
variable {P:Env}
theorem rb_below {j:Inj} {h:H} {w w':World} (hR:RB P j h.blk h.next.toN w) (hB:Below w.heap.size w w'):RB P j h.blk h.next.toN w'∧Ext j h.blk w j h.blk w':=by
 refine ⟨hR.other hB.size (fun b hb=>hB.block b (Nat.lt_of_lt_of_le hb hR.size)) (fun f l ⟨b,k1,k2⟩ hj=>by
  obtain ⟨l',q1,q2,_⟩:=hR.blk f b k1
  rw [hj] at q1; cases q1
  exact hB.block _ (q2 k2)) fun b o hb=>hB.block b (hR.ice_lt hb),?_⟩
 exact ⟨Inj.le_refl j,hB.size,fun b hb _=>hB.block b hb,fun f l hl hj=>.inr ⟨f,l,hl,hj,rfl⟩,hB.os,hB.output,hB.tape,fun _ h _=>h,fun _ h=>h,fun _ _ h=>.inl h⟩
def Inj.with (j:Inj) (g:Nat) (o:Obj):Inj:=⟨j.loc,fun b=>if b=g then some o else j.fro b,j.sy⟩
theorem rb_ice {j:Inj} {h:H} {w w':World} (hR:RB P j h.blk h.next.toN w) (hB:Below w.heap.size w w') {g:Nat} {o:Obj} (hg:w.heap.size≤g) (ho:w'.heap[g]? = some o) (hf:IsFro o) :
 j.le (j.with g o)∧RB P (j.with g o) h.blk h.next.toN w'∧Ext j h.blk w (j.with g o) h.blk w':=by
 obtain ⟨h1,h2⟩:=rb_below hR hB
 have hle:j.le (j.with g o):=⟨fun _ _ h=>h,fun b o' hb=>by
  have:=hR.ice_lt hb
  show (if b=g then some o else j.fro b)=some o'
  rw [if_neg (by omega)]; exact hb,rfl⟩
 have hlt:∀ f l,Live h.blk f→j f=some l→l.blk < w.heap.size:=fun f l ⟨b,k1,k2⟩ hj=>by
  obtain ⟨l',m1,m2,_⟩:=hR.blk f b k1
  rw [hj] at m1; cases m1
  exact m2 k2
 refine ⟨hle,⟨h1.fresh,fun f b hb=>?_,h1.apart,h1.far,fun b o' hb=>?_,h1.size,h1.inv⟩,⟨hle,h2.size,h2.keep,h2.img,h2.os,h2.output,h2.tape,h2.dom,h2.mono,fun b o' hb=>?_⟩⟩
 · obtain ⟨l,m1,m2,m3⟩:=h1.blk f b hb
   refine ⟨l,m1,m2,?_⟩
   cases b with
   | dead=>trivial
   | ice _ _ _=>exact m3.iceKeep hle
   | imap _=>exact m3.imapKeep hle
   | _=>exact m3.keep hle rfl
 · have hb:(if b=g then some o else j.fro b)=some o':=hb
   by_cases hbg:b=g
   · subst hbg
     rw [if_pos rfl] at hb; cases hb
     exact ⟨ho,hf,fun f l hl hj e=>by have:=hlt f l hl hj; omega⟩
   · rw [if_neg hbg] at hb
     exact h1.ice b o' hb
 · have hb:(if b=g then some o else j.fro b)=some o':=hb
   by_cases hbg:b=g
   · subst hbg; exact .inr (.inl hg)
   · rw [if_neg hbg] at hb; exact .inl hb
theorem txB_same (n:Nat→Nat):∀ L,txB n L=Lx.txB n L
 | []=>rfl
 | e :: R=>by
  show enB n e++txB n R=Lx.enB n e++Lx.txB n R
  rw [txB_same n R]; rfl
def cntP:Nat→List Nat→Option (Nat × Nat)
 | 0,_=>some (0,0)
 | _+1,[]=>some (0,0)
 | p+1,e :: R=>match cntP p R with
  | none=>none
  | some (k,m)=>match Nat.ble 256 e with
   | false=>some (k+1,m)
   | true=>match and (Nat.ble (e - 256) 3) (not (Nat.testBit m (e - 256))) with
    | true=>some (k,m+2 ^ (e - 256))
    | false=>none
def lens (n:Nat→Nat) (m:Nat):Nat:=lenIf n m 0+(lenIf n m 1+(lenIf n m 2+lenIf n m 3))
theorem bit_add:∀ m,m < 16→∀ i,i < 4→m.testBit i=false→m+2 ^ i < 16∧∀ j,j < 4→(m+2 ^ i).testBit j=(m.testBit j || Nat.beq j i):=by decide
theorem lens_add (n:Nat→Nat) {m i:Nat} (hm:m < 16) (hi:i < 4) (h:m.testBit i=false):m+2 ^ i < 16∧lens n (m+2 ^ i)=lens n m+(Lib.decDigits (n i)).length:=by
 obtain ⟨h1,h2⟩:=bit_add m hm i hi h
 refine ⟨h1,?_⟩
 unfold lens lenIf
 rw [h2 0 (by omega),h2 1 (by omega),h2 2 (by omega),h2 3 (by omega)]
 have:i=0∨i=1∨i=2∨i=3:=by omega
 rcases this with rfl | rfl | rfl | rfl <;> simp [h,Nat.beq] <;> omega
theorem cntP_ok (n:Nat→Nat):∀ (p:Nat) (R:List Nat) (k m:Nat),cntP p R=some (k,m)→m < 16∧(Lx.txB n (R.take p)).length=k+lens n m
 | 0,R,k,m,h=>by
  have h:some (0,0)=some (k,m):=by cases R <;> exact h
  cases h
  exact ⟨by decide,by rw [List.take_zero]; simp [Lx.txB,lens,lenIf]⟩
 | _+1,[],k,m,h=>by
  cases h
  exact ⟨by decide,by rw [List.take_nil]; simp [Lx.txB,lens,lenIf]⟩
 | p+1,e :: R,k,m,h=>by
  unfold cntP at h
  split at h
  · cases h
  · rename_i k0 m0 h0
    obtain ⟨i1,i2⟩:=cntP_ok n p R k0 m0 h0
    have hl:(Lx.txB n ((e :: R).take (p+1))).length=(Lx.enB n e).length+(Lx.txB n (R.take p)).length:=by
     rw [List.take_succ_cons]
     show (Lx.enB n e++_).length=_
     rw [List.length_append]
    rw [hl,i2]
    split at h
    · rename_i h1
      cases h
      have he:e < 256:=by
       rcases Nat.lt_or_ge e 256 with h | h
       · exact h
       · rw [Nat.ble_eq_true_of_le h] at h1; cases h1
      rw [Lx.enB_byte he]
      exact ⟨i1,by simp; omega⟩
    · rename_i h1
      have he:256≤e:=Nat.le_of_ble_eq_true h1
      split at h
      · rename_i h2
        cases h
        obtain ⟨h3,h4⟩:=and_true h2
        have h3:=Nat.le_of_ble_eq_true h3
        have h4:m0.testBit (e - 256)=false:=by cases hb:m0.testBit (e - 256) with | false=>rfl | true=>rw [hb] at h4; cases h4
        obtain ⟨a,b⟩:=lens_add n i1 (by omega) h4
        rw [Lx.enB_num he]
        exact ⟨a,by rw [b]; omega⟩
      · cases h
def placeV (A:Nat) (R:List Nat) (p:Nat):Option AV:=match Nat.ble p A with
 | true=>some (.int .i64 (.ofNat p))
 | false=>match cntP (p - A) R with
  | some (k,m)=>some (.sym (2 * (16 * (A+k)+m)+1))
  | none=>none
theorem placeV_ok {j:Inj} {A R:List Nat} (hA:∀ e∈A,e < 256) (hs:(Lx.txB j.sy.n (A++R)).length≤2500) {p:Nat} {v:AV} (h:placeV A.length R p=some v):VR j v (.int .i64 ((Lx.txB j.sy.n ((A++R).take p)).length:Nat)):=by
 have tk:∀ q,(Lx.txB j.sy.n (A.take q)).length=(A.take q).length:=fun q=>by
  rw [Lx.txB_map (fun e he=>hA e (List.mem_of_mem_take he))]; simp
 unfold placeV at h
 split at h
 · rename_i h1
   have h1:=Nat.le_of_ble_eq_true h1
   cases h
   rw [List.take_append_of_le_length h1,tk,List.length_take,Nat.min_eq_left h1]
   exact .int _ _
 · rename_i h1
   have h1:A.length < p:=by
    rcases Nat.lt_or_ge A.length p with h | h
    · exact h
    · rw [Nat.ble_eq_true_of_le h] at h1; cases h1
   split at h
   · rename_i k m hc
     cases h
     obtain ⟨c1,c2⟩:=cntP_ok j.sy.n _ _ _ _ hc
     have hl:(Lx.txB j.sy.n ((A++R).take p)).length=A.length+(k+lens j.sy.n m):=by
      rw [List.take_append,List.take_of_length_le (by omega),Lx.txB_app,List.length_append,c2]
      have:=tk A.length
      rw [List.take_length] at this
      rw [this]
     have hle:(Lx.txB j.sy.n ((A++R).take p)).length≤2500:=by
      have:(Lx.txB j.sy.n (A++R)).length=(Lx.txB j.sy.n ((A++R).take p)).length+(Lx.txB j.sy.n ((A++R).drop p)).length:=by
       rw [←List.length_append,← Lx.txB_app,List.take_append_drop]
      omega
     have e:(((Lx.txB j.sy.n ((A++R).take p)).length:Nat):Int)=j.sy.f (2 * (16 * (A.length+k)+m)+1):=by
      unfold Sy.f symF
      rw [if_neg (by omega),show (2 * (16 * (A.length+k)+m)+1) / 2 / 16=A.length+k by omega,show (2 * (16 * (A.length+k)+m)+1) / 2 % 16=m by omega]
      unfold symP
      rw [show lenIf j.sy.n m 0+(lenIf j.sy.n m 1+(lenIf j.sy.n m 2+lenIf j.sy.n m 3))=lens j.sy.n m from rfl]
      congr 1
      omega
     rw [e]
     exact .sym _
   · cases h
def bytB (e:Nat):Bool:=not (Nat.ble 256 e)
theorem bytB_lt {e:Nat} (h:bytB e=true):e < 256:=by
 rcases Nat.lt_or_ge e 256 with h1 | h1
 · exact h1
 · unfold bytB at h; rw [Nat.ble_eq_true_of_le h1] at h; cases h
def txV (T:List Nat):AV:=match T.all bytB with
 | true=>.str T
 | false=>.tx T
theorem txV_ok {j:Inj} (T:List Nat):VR j (txV T) (.string (Lx.bs (Lx.txB j.sy.n T))):=by
 unfold txV
 split
 · rename_i h
   have hT:∀ e∈T,e < 256:=fun e he=>bytB_lt (List.all_eq_true.1 h e he)
   have e:T=bytesOf (Lx.bs (Lx.txB j.sy.n T)):=by
    rw [Lx.txB_map hT]
    show T=((T.map UInt8.ofNat).toArray.toList).map (·.toNat)
    rw [List.toList_toArray,List.map_map]
    conv=>lhs; rw [←List.map_id T]
    apply List.map_congr_left
    intro a ha
    simp [Nat.mod_eq_of_lt (hT a ha)]
   have:=VR.str (j:=j) (Lx.bs (Lx.txB j.sy.n T))
   rw [←e] at this
   exact this
 · have:j.sy.t T=Lx.bs (Lx.txB j.sy.n T):=by rw [←txB_same]; rfl
   rw [←this]
   exact .tx T
def toksV (A:Nat) (R:List Nat):List (Nat × List Nat × Nat)→Option (List AV)
 | []=>some []
 | (kd,T,p) :: l=>match placeV A R p with
  | none=>none
  | some v=>match toksV A R l with
   | none=>none
   | some r=>some (.agg [.int .u8 (.ofNat kd),txV T,v] :: r)
theorem toksV_ok {j:Inj} {A R:List Nat} (hA:∀ e∈A,e < 256) (hs:(Lx.txB j.sy.n (A++R)).length≤2500):∀ (l:List (Nat × List Nat × Nat)) (vs:List AV),toksV A.length R l=some vs→VRs j (cellsOf vs) (Lx.tokCells (Lx.evT j.sy.n (A++R) l))∧vs.length=l.length∧∀ x∈vs,x.cells.length=3
 | [],vs,h=>by cases h; exact ⟨.nil,rfl,fun _ h=>by cases h⟩
 | (kd,T,p) :: l,vs,h=>by
  unfold toksV at h
  split at h
  · cases h
  · rename_i v hv
    split at h
    · cases h
    · rename_i r hr
      cases h
      obtain ⟨h1,h2,h3⟩:=toksV_ok hA hs l r hr
      refine ⟨?_,by simp [h2],fun x hx=>?_⟩
      · exact .cons _ _ _ _ (.int _ _) (.cons _ _ _ _ (txV_ok T) (.cons _ _ _ _ (placeV_ok hA hs hv) h1))
      · rcases List.mem_cons.1 hx with rfl | hx
        · rfl
        · exact h3 x hx
def lenE:List Nat→Nat
 | []=>0
 | e :: R=>(match Nat.ble 256 e with | true=>10 | false=>1)+lenE R
theorem lenE_ok {n:Nat→Nat} (hn:∀ i,n i≤1000000000):∀ L,(Lx.txB n L).length≤lenE L
 | []=>Nat.le_refl _
 | e :: R=>by
  show (Lx.enB n e++Lx.txB n R).length≤_
  rw [List.length_append]
  have h1:=lenE_ok hn R
  have h2:(Lx.enB n e).length≤(match Nat.ble 256 e with | true=>10 | false=>1):=by
   rcases Nat.lt_or_ge e 256 with h | h
   · rw [Lx.enB_byte h,show Nat.ble 256 e=false by rw [Bool.eq_false_iff]; intro h2; have:=Nat.le_of_ble_eq_true h2; omega]
     exact Nat.le_refl _
   · rw [Lx.enB_num h,Nat.ble_eq_true_of_le h]
     exact Lx.dec_len _ (hn _)
  show _≤(match Nat.ble 256 e with | true=>10 | false=>1)+lenE R
  omega
def okE (e:Nat):Bool:=or (Nat.ble 256 e) (or (Nat.beq e 10) (and (Nat.ble 32 e) (Nat.ble e 126)))
theorem okE_ok {n:Nat→Nat}:∀ L:List Nat,L.all okE=true→∀ b∈Lx.txB n L,b.toNat=10∨(32≤b.toNat∧b.toNat≤126)
 | [],_,b,hb=>by cases hb
 | e :: R,h,b,hb=>by
  have h:(okE e && R.all okE)=true:=h
  rw [Bool.and_eq_true] at h
  rcases List.mem_append.1 (show b∈Lx.enB n e++Lx.txB n R from hb) with hb | hb
  · rcases Nat.lt_or_ge e 256 with h2 | h2
    · rw [Lx.enB_byte h2] at hb
      have:=List.mem_singleton.1 hb
      subst this
      have h1:=h.1
      unfold okE at h1
      rw [show Nat.ble 256 e=false by rw [Bool.eq_false_iff]; intro h2; have:=Nat.le_of_ble_eq_true h2; omega] at h1
      simp [Nat.mod_eq_of_lt h2] at h1 ⊢
      exact h1
    · rw [Lx.enB_num h2] at hb
      have:=Lx.dec_dig _ b hb
      omega
  · exact okE_ok R h.2 b hb
def lexV (L:List Nat):Option AV :=
 match and (Nat.ble (lenE L) 2500) (and (L.all okE) (Lx.headGap (L.dropWhile Lx.isBl))) with
 | false=>none
 | true=>match Lx.lexE Lx.isKE L.length (L.takeWhile Lx.isBl).length (L.dropWhile Lx.isBl) with
  | none=>none
  | some l=>match Nat.ble l.length 900 with
   | false=>none
   | true=>match toksV (L.takeWhile bytB).length (L.dropWhile bytB) l with
    | none=>none
    | some vs=>some (.tup [.lst none vs,.int .i64 (.ofNat 0),.int .i64 (.ofNat 0)])
theorem lexV_ok {L:List Nat} {V:AV} (h:lexV L=some V):∃ l vs,lenE L≤2500∧L.all okE=true∧Lx.headGap (L.dropWhile Lx.isBl)=true∧Lx.lexE Lx.isKE L.length (L.takeWhile Lx.isBl).length (L.dropWhile Lx.isBl)=some l∧l.length≤900∧toksV (L.takeWhile bytB).length (L.dropWhile bytB) l=some vs∧V = .tup [.lst none vs,.int .i64 0,.int .i64 0]:=by
 unfold lexV at h
 split at h
 · cases h
 · rename_i h1
   obtain ⟨a,b⟩:=and_true h1
   obtain ⟨b,c⟩:=and_true b
   split at h
   · cases h
   · rename_i l hl
     split at h
     · cases h
     · rename_i h2
       split at h
       · cases h
       · rename_i vs hv
         cases h
         exact ⟨l,vs,Nat.le_of_ble_eq_true a,b,c,hl,Nat.le_of_ble_eq_true h2,hv,rfl⟩
theorem read_known (hP:P.toProgram=Tryz.prog) (hent:∀ vs w,(callFunc 36 vs).run P.toProgram w = .ok (.enter 36 vs) w) (hTab:∀ w,P.inv w→P.n0≤w.heap.size→∀ w',Below w.heap.size w w'→Lx.Tab w') {L:List Nat} {V:AV} (h:lexV L=some V):KnownV P 36 [.tx L] V:=by
 obtain ⟨l,vs,h1,h2,h3,h4,h5,h6,rfl⟩:=lexV_ok h
 intro w j hR vl hvs
 refine ⟨hent _ _,fun n=>callsIn_wide.2 ?_⟩
 obtain ⟨vl⟩:=vl
 cases hvs with
 | cons _ _ xv _ hx hn =>
  cases hn
  cases hx
  have hs:(Lx.txB j.sy.n L).length≤2500:=Nat.le_trans (lenE_ok j.sy.ok L) h1
  have hc:=Lx.Read_text (n:=j.sy.n) (w:=w) j.sy.ok (hTab w hR.inv hR.size) hs h5 (okE_ok L h2) h3 h4
  have ht:j.sy.t L=Lx.bs (Lx.txB j.sy.n L):=by rw [←txB_same]; rfl
  rw [hP]
  show Calls Tryz.prog 36 #[.string (j.sy.t L)] w _
  rw [ht]
  refine hc.mono ?_
  rintro e w' ⟨tv,he,hB,hown⟩
  refine ⟨Nat.le_refl _,_,he,?_⟩
  obtain ⟨hlen,hcase⟩:=hown
  have hL:L=L.takeWhile bytB++L.dropWhile bytB:=List.takeWhile_append_dropWhile.symm
  have hA:∀ e∈L.takeWhile bytB,e < 256:=fun e he=>bytB_lt (List.all_eq_true.1 List.all_takeWhile e he)
  have tk:∀ j':Inj,j'.sy=j.sy→VRs j' (cellsOf vs) (Lx.tokCells (Lx.evT j.sy.n L l))∧vs.length=l.length∧∀ x∈vs,x.cells.length=3:=fun j' hj=>by
   have:=toksV_ok (j:=j') hA (by rw [←hL,hj]; exact hs) l vs h6
   rw [←hL,hj] at this
   exact this
  have two:∀ j':Inj,VRs j' [.int .i64 0,.int .i64 0] [.int .i64 0,.int .i64 0]:=fun j'=>.cons _ _ _ _ (.int _ _) (.cons _ _ _ _ (.int _ _) .nil)
  rcases hcase with ⟨rfl,h0⟩ | ⟨g,cap,cur,rfl,hg,hcur,q1,q2,q3,q4⟩
  · obtain ⟨r1,r2⟩:=rb_below hR hB
    have hv:vs = []:=List.eq_nil_of_length_eq_zero ((tk j rfl).2.1.trans h0)
    subst hv
    exact ⟨j,.tup _ _ (.cons _ _ _ _ (.lstE none none 0 (fun _ h=>by cases h) (fun _=>rfl)) (two j)),r1,r2⟩
  · obtain ⟨r0,r1,r2⟩:=rb_ice hR hB hg hcur (.inl ⟨_,_,_,rfl⟩)
    obtain ⟨t1,t2,t3⟩:=tk (j.with g (.cells cur 118 (0,0))) rfl
    refine ⟨_,.tup _ _ (.cons _ _ _ _ ?_ (two _)),r1,r2⟩
    have:=VR.lst (j:=j.with g (.cells cur 118 (0,0))) none vs g 0 cap 3 cur 118 (0,0) (by show (if g=g then _ else _)=_; rw [if_pos rfl]) (by rw [t2]; exact q1) (fun _ h=>by cases h)
     t3 (by rw [t2,q3]; have:=Nat.mul_le_mul_right 3 q1; omega) (by
      rw [t2,Nat.zero_add]
      have e:(cur.extract 0 (l.length * 3)).toList=Lx.tokCells (Lx.evT j.sy.n L l):=by
       rw [Array.toList_extract,List.extract_eq_take_drop,List.drop_zero,Nat.sub_zero]; exact q4
      rw [e]; exact t1)
    rw [t2] at this
    exact this
def orcAt (f:FuncId):Orc:=fun g args h=>match Nat.beq g f with
 | false=>none
 | true=>match args with
  | [.tx [x]]=>match Nat.ble 256 x with
   | true=>some (.tup [.sym (2 * (x - 256)),.nili],h)
   | false=>none
  | _=>none
theorem orcAt_ok (hP:P.toProgram=Tryz.prog) (hent:∀ vs w,(callFunc 369 vs).run P.toProgram w = .ok (.enter 369 vs) w):OrcOk P (orcAt 369):=by
 intro g args h v h' hr
 unfold orcAt at hr
 split at hr
 · cases hr
 · rename_i hg
   have:=Nat.eq_of_beq_eq_true hg
   subst this
   split at hr
   · rename_i x
     split at hr
     · rename_i hx
       have hx:=Nat.le_of_ble_eq_true hx
       cases hr
       intro w j hR vl hvs
       refine ⟨hent _ _,fun n=>callsIn_wide.2 ?_⟩
       obtain ⟨vl⟩:=vl
       cases hvs with
       | cons _ _ xv _ hxv hn =>
        cases hn
        cases hxv
        have ht:j.sy.t [x]=Lx.dg (j.sy.n (x - 256)):=by
         show (⟨(enB j.sy.n x ++ []).toArray⟩:ByteArray)=⟨_⟩
         rw [List.append_nil,enB,if_neg (by omega)]
        rw [hP]
        show Calls Tryz.prog 369 #[.string (j.sy.t [x])] w _
        rw [ht]
        refine (Lx.atoi_c (j.sy.n (x - 256)) (j.sy.ok _) w).mono ?_
        rintro e w' ⟨he,hB⟩
        obtain ⟨r1,r2⟩:=rb_below hR hB
        have hf:j.sy.f (2 * (x - 256))=((j.sy.n (x - 256):Nat):Int):=by
         unfold Sy.f symF
         rw [if_pos (by omega),show 2 * (x - 256) / 2=x - 256 by omega]
        refine ⟨Nat.le_refl _,_,he,j,.tup _ _ (.cons _ _ _ _ ?_ (.cons _ _ _ _ .nili .nil)),r1,r2⟩
        rw [←hf]
        exact .sym _
     · cases hr
   · cases hr
end Go.Ev
