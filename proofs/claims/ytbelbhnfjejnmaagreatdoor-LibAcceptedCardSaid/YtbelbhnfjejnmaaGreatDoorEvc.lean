/- PROVED HERE: a part (Evc) of the tied card of LibAccepted (floodgatelaw25). CONDITIONS: those of the given row and card alone. -/
import Derived.Test.YtbelbhnfjejnmaaGreatDoorEvb
import Derived.Lib.Bytealg
import Derived.RangeFuncRecord
namespace Go.Ev
variable {P:Env}
section
variable {o:Oper} {a:Act} {w:World} {j:Inj} {n N nt:Nat} {tm:Tm} {h h':H} {v:AV}
theorem zero_VR {t:TypeId} {z:AV} (hz:zeroOf P t=some z) (w:World) (j:Inj):∃ c,(zeroValue t).run P w = .ok c w∧VR j z c:=by
 obtain ⟨c,h1,h2⟩:=q_zeroValue (w:=w) hz
 exact ⟨c,h1,by have:=VR.ofValue j c; rw [h2] at this; exact this⟩
theorem s_ta {x:Operand} {xt t:TypeId} {ok:Bool} {z:Option AV} {d:TypeDesc} (hT:TmR j nt tm a.tmps) (hR:RB P j h.blk n w) (hN:n≤N) (hop:o.op = .typeAssert x xt t ok) (ht:P.underlying t=some d)
 (hd:∀ ms,d≠.interface ms) (hz:(ok=true∧∃ z',z=some z'∧zeroOf P t=some z')∨(ok=false∧z=none)) (hr:r_ta t z (cA x) tm h = .val v h'):OpOk P o a w j h.blk v h'.blk N:=by
 unfold r_ta at hr
 have hx:=evA hT x
 have hfail:∀ (c:Value),a.eval x=c→(c = .nilIface∨∃ u q,c = .iface u q∧u≠t)→ok=true→∀ z',zeroOf P t=some z'→OpOk P o a w j h.blk (.tup [z',.bool false]) h.blk N:=by
  intro c hc hcc hok z' hz'
  obtain ⟨zc,h1,h2⟩:=zero_VR hz' w j
  refine OpOk.same (cv:=.tuple #[zc,.bool false]) ?_ (.tup _ _ (.cons _ _ _ _ h2 (.cons _ _ _ _ (.bool _) .nil))) hR hN
  simp only [execOp,hop,hc]
  refine run_v ?_
  rcases hcc with rfl | ⟨u,q,rfl,hne⟩
  · unfold Instr.typeAssert
    simp only [Sem.run_bind,q_underlying ht,Result.andThen_ok]
    cases d <;> first | exact absurd rfl (hd _) | simp [hok,h1]
  · unfold Instr.typeAssert
    simp only [Sem.run_bind,q_underlying ht,Result.andThen_ok]
    cases d <;> first | exact absurd rfl (hd _) | simp [hok,h1,hne]
 have hgood:∀ q,a.eval x = .iface t q→(Instr.typeAssert (a.eval x) xt t ok).run P w = .ok (if ok then .tuple #[q,.bool true] else q) w:=by
  intro q hq
  rw [hq]
  unfold Instr.typeAssert
  simp only [Sem.run_bind,q_underlying ht,Result.andThen_ok]
  cases d <;> first | exact absurd rfl (hd _) | simp
 split at hr
 · rename_i u vv e
   rw [e] at hx
   generalize hq:a.eval x=q at hx
   cases hx with
   | ifc _ _ cv hv =>
   split at hr
   · rename_i hb
     have hut:=Nat.eq_of_beq_eq_true hb
     subst hut
     have hg:=hgood cv hq
     rcases hz with ⟨hok,z',rfl,hz'⟩ | ⟨hok,rfl⟩
     · cases hr
       refine OpOk.same (cv:=.tuple #[cv,.bool true]) ?_ (.tup _ _ (.cons _ _ _ _ hv (.cons _ _ _ _ (.bool _) .nil))) hR hN
       simp only [execOp,hop]
       exact run_v (by rw [hg,hok]; rfl)
     · cases hr
       refine OpOk.same (cv:=cv) ?_ hv hR hN
       simp only [execOp,hop]
       exact run_v (by rw [hg,hok]; rfl)
   · rename_i hb
     have hne:u≠t:=fun e=>by subst e; rw [Nat.beq_refl] at hb; cases hb
     rcases hz with ⟨hok,z',rfl,hz'⟩ | ⟨hok,rfl⟩
     · cases hr
       exact hfail _ hq (.inr ⟨u,cv,rfl,hne⟩) hok z' hz'
     · cases hr
 · rename_i e
   rw [e] at hx
   generalize hq:a.eval x=q at hx
   cases hx
   rcases hz with ⟨hok,z',rfl,hz'⟩ | ⟨hok,rfl⟩
   · cases hr
     exact hfail _ hq (.inl rfl) hok z' hz'
   · cases hr
 · cases hr
theorem binOp_neg {neg:Bool} {t:TypeId} {p q:Value} {b:Bool} (he:(Op.equal t p q).run P w = .ok b w) (hp:(∃ x,p = .pointer x)∨p = .nilIface∨∃ u c,p = .iface u c) :
 (binOp (if neg then .neq else .eql) t p q).run P w = .ok (.bool (if neg then !b else b)) w:=by
 rcases hp with ⟨x,rfl⟩ | rfl | ⟨u,c,rfl⟩ <;> cases neg <;> simp [binOp,he]
theorem s_peq {neg:Bool} {t e:TypeId} {x y:Operand} {yt:TypeId} {m:Nat} (hT:TmR j nt tm a.tmps) (hR:RB P j h.blk n w) (hN:n≤N) (hop:o.op = .binOp (if neg then .neq else .eql) t x y yt) (ht:P.underlying t=some (.pointer e))
 (hs:sizeOf? P e=some (m+1)) (hr:r_peq neg (cA x) (cA y) tm h = .val v h'):OpOk P o a w j h.blk v h'.blk N:=by
 unfold r_peq at hr
 have hx:=evA hT x
 have hy:=evA hT y
 have fin:∀ b p q,a.eval x = .pointer p→a.eval y = .pointer q→(∀ D,(Op.equalIn (D+1) t (.pointer p) (.pointer q)).run P w = .ok b w)→OpOk P o a w j h.blk (negIf neg b) h.blk N:=by
  intro b p q hp hq he
  refine OpOk.same ?_ (negIf_VR j neg b) hR hN
  simp only [execOp,hop,hp,hq]
  refine run_v ?_
  have h1:(eqGuard (if neg then .neq else .eql) t x y (.pointer p) (.pointer q)).run P w = .ok () w:=q_eqGuard (.inl (by simp)) (.inl (by simp))
  simp only [Sem.run_bind,h1,Result.andThen_ok]
  exact binOp_neg (he 9999) (.inl ⟨p,rfl⟩)
 split at hr
 · rename_i f k g k' e1 e2
   rw [e1] at hx
   rw [e2] at hy
   split at hr
   · rename_i hb
     have hfg:=posEq_eq' hb
     subst hfg
     cases hr
     generalize hp:a.eval x=p at hx
     generalize hq:a.eval y=q at hy
     cases hx with
     | ptr _ _ l hj hk =>
     cases hy with
     | ptr _ _ l' hj' hk' =>
     rw [hj] at hj'; cases hj'
     refine fin _ _ _ hp hq fun D=>?_
     have hdec:(({ block:=l.blk,off:=k - l.base,spot:=none }:Addr)=={ block:=l.blk,off:=k' - l.base,spot:=none })=Nat.beq k k':=by
      have hbb:Nat.beq k k'=decide (k=k'):=by
       cases hkk:Nat.beq k k' with
       | true=>simp [Nat.eq_of_beq_eq_true hkk]
       | false=>simp; intro e; subst e; rw [Nat.beq_refl] at hkk; cases hkk
      rw [hbb,Bool.eq_iff_iff]
      simp
      omega
     simp [Op.equalIn,q_underlying ht,q_sizeOf hs,sameAddr,hdec]
   · rename_i hne
     split at hr
     · rename_i hl
       cases hr
       obtain ⟨h1,h2⟩:=and_true hl
       generalize hp:a.eval x=p at hx
       generalize hq:a.eval y=q at hy
       cases hx with
       | ptr _ _ l hj hk =>
       cases hy with
       | ptr _ _ l' hj' hk' =>
       have hlv:=hR.lvOk
       have hbl:l.blk≠l'.blk:=fun e=>by
        have:=hlv.1 f k g k' l l' h1 h2 hj hj' e
        subst this
        rw [posEq_refl] at hne; cases hne
       obtain ⟨cs,e1,fz1,m1,m2⟩:=hlv.2 f k l h1 hj
       obtain ⟨ds,e2,fz2,m3,m4⟩:=hlv.2 g k' l' h2 hj'
       have:=cold_sameAddr (P:=P) (w:=w) (a:={ block:=l.blk,off:=k - l.base,spot:=none }) (b:={ block:=l'.blk,off:=k' - l'.base,spot:=none }) hbl m1 m2 m3 m4
       exact fin _ _ _ hp hq fun D=>by simp [Op.equalIn,q_underlying ht,q_sizeOf hs,this]
     · cases hr
 · rename_i e1 e2
   rw [e1] at hx; rw [e2] at hy
   cases hr
   generalize hp:a.eval x=p at hx
   generalize hq:a.eval y=q at hy
   cases hx; cases hy
   exact fin _ _ _ hp hq fun D=>by simp [Op.equalIn,q_underlying ht]
 · rename_i f k e1 e2
   rw [e1] at hx; rw [e2] at hy
   cases hr
   generalize hp:a.eval x=p at hx
   generalize hq:a.eval y=q at hy
   cases hx; cases hy
   exact fin _ _ _ hp hq fun D=>by simp [Op.equalIn,q_underlying ht]
 · rename_i f k e1 e2
   rw [e1] at hx; rw [e2] at hy
   cases hr
   generalize hp:a.eval x=p at hx
   generalize hq:a.eval y=q at hy
   cases hx; cases hy
   exact fin _ _ _ hp hq fun D=>by simp [Op.equalIn,q_underlying ht]
 · cases hr
theorem s_ieq {neg:Bool} {t:TypeId} {x:Operand} {yt:TypeId} {ms:Array (String × TypeId)} (hT:TmR j nt tm a.tmps) (hR:RB P j h.blk n w) (hN:n≤N) (hop:o.op = .binOp (if neg then .neq else .eql) t x (.const .nilIface) yt)
 (ht:P.underlying t=some (.interface ms)) (hr:r_ieq neg (cA x) tm h = .val v h'):OpOk P o a w j h.blk v h'.blk N:=by
 unfold r_ieq at hr
 have hx:=evA hT x
 have hy:a.eval (.const .nilIface) = .nilIface:=rfl
 split at hr
 · rename_i e1
   rw [e1] at hx
   cases hr
   generalize hp:a.eval x=p at hx
   cases hx
   refine OpOk.same ?_ (negIf_VR j neg true) hR hN
   simp only [execOp,hop,hp,hy]
   refine run_v ?_
   have h1:(eqGuard (if neg then .neq else .eql) t x (.const .nilIface) .nilIface .nilIface).run P w = .ok () w:=by cases neg <;> simp [eqGuard]
   simp only [Sem.run_bind,h1,Result.andThen_ok]
   have he:∀ D,(Op.equalIn (D+1) t .nilIface .nilIface).run P w = .ok true w:=fun D=>by simp [Op.equalIn,q_underlying ht]
   exact binOp_neg (he 9999) (.inr (.inl rfl))
 · rename_i u vv e1
   rw [e1] at hx
   cases hr
   generalize hp:a.eval x=p at hx
   cases hx with
   | ifc _ _ cv hv =>
   refine OpOk.same ?_ (negIf_VR j neg false) hR hN
   simp only [execOp,hop,hp,hy]
   refine run_v ?_
   have h1:(eqGuard (if neg then .neq else .eql) t x (.const .nilIface) (.iface u cv) .nilIface).run P w = .ok () w:=q_eqGuard (.inl (by simp)) (.inl (by simp))
   simp only [Sem.run_bind,h1,Result.andThen_ok]
   have he:∀ D,(Op.equalIn (D+1) t (.iface u cv) .nilIface).run P w = .ok false w:=fun D=>by simp [Op.equalIn,q_underlying ht]
   exact binOp_neg (he 9999) (.inr (.inr ⟨u,cv,rfl⟩))
 · cases hr
end
end Go.Ev
namespace Go.Ev
variable {P:Env}
section
variable {o:Oper} {a:Act} {w:World} {j:Inj} {n N nt:Nat} {tm:Tm} {h h':H} {v:AV}
theorem q_shape {b:Nat} {cs:Array Value} {e:TypeId} {fz:Nat × Nat} (hb:w.heap[b]? = some (.cells cs e fz)):(shape b).run P w = .ok (some (e,cs.size)) w:=by
 have h1:w.shape? b=some (e,cs.size):=by unfold World.shape?; rw [hb]
 show (Sem.shape b Sem.pure).run P w=_
 simp [Sem.run,h1]
theorem q_viewAt {b:Nat} {cs:Array Value} {e:TypeId} {fz:Nat × Nat} (hb:w.heap[b]? = some (.cells cs e fz)):(viewAt b).run P w = .ok none w:=by
 unfold viewAt
 simp [Sem.run_bind,q_shape hb]
theorem q_seenAt {b k:Nat} {cs:Array Value} {e:TypeId} {fz:Nat × Nat} (hb:w.heap[b]? = some (.cells cs e fz)):(Conv.seenAt ⟨b,k,none⟩).run P w = .ok ⟨b,k,none⟩ w:=by
 unfold Conv.seenAt
 simp [Sem.run_bind,q_viewAt hb]
theorem q_cellsIn {b:Nat} {cs:Array Value} {e:TypeId} {fz:Nat × Nat} (hb:w.heap[b]? = some (.cells cs e fz)):(cellsIn b).run P w = .ok (some cs.size) w:=by
 unfold cellsIn
 simp [Sem.run_bind,q_shape hb]
theorem inCells_some {k:Nat} {b:Option Blk} (hb:inCells k b=true):∃ c lo hi ty,b=some (.cells c lo hi ty)∧lo≤k∧k < hi:=by
 unfold inCells at hb
 split at hb
 · rename_i c lo hi ty
   obtain ⟨h1,h2⟩:=and_true hb
   exact ⟨c,lo,hi,ty,rfl,Nat.le_of_ble_eq_true h1,Nat.le_of_ble_eq_true h2⟩
 · cases hb
theorem s_cup {s d t:TypeId} {m:Nat} {x:Operand} (hT:TmR j nt tm a.tmps) (hR:RB P j h.blk n w) (hN:n≤N) (hop:o.op = .convert s d x) (hs:P.underlying s=some (.pointer t)) (hd:P.underlying d=some .unsafePointer)
 (hz:sizeOf? P t=some (m+1)) (hr:r_cup (cA x) tm h = .val v h'):OpOk P o a w j h.blk v h'.blk N:=by
 unfold r_cup at hr
 have hx:=evA hT x
 split at hr
 · rename_i e1
   rw [e1] at hx
   cases hr
   generalize hp:a.eval x=p at hx
   cases hx
   refine OpOk.same (cv:=.pointer none) ?_ .nilp hR hN
   simp only [execOp,hop,hp]
   refine run_v ?_
   simp [convert,q_underlying hs,q_underlying hd,Conv.unsafePointer]
 · rename_i f k e1
   rw [e1] at hx
   split at hr
   · rename_i hb
     cases hr
     obtain ⟨c,lo,hi,ty,hb1,hb2,hb3⟩:=inCells_some hb
     obtain ⟨l,cs,e,fz,h5,h6,h7,h8,h9⟩:=hR.cells hb1
     generalize hp:a.eval x=p at hx
     cases hx with
     | ptr _ _ l' hj hk =>
     rw [h5] at hj; cases hj
     refine OpOk.same (cv:=.pointer (some ⟨l.blk,k - l.base,none⟩)) ?_ (.ptr f k l h5 hk) hR hN
     simp only [execOp,hop,hp]
     refine run_v ?_
     have hsz:=h9.size
     have hhi:=h9.hiB
     have hlt:¬ cs.size≤k - l.base:=by omega
     simp [convert,q_underlying hs,q_underlying hd,Conv.unsafePointer,q_seenAt h7,q_cellsIn h7,q_sizeOf hz,hlt]
   · cases hr
 · cases hr
theorem inPl_mem {e m k:Nat}:∀ {pl:List (Nat × Nat × Nat)},inPl e m k pl=true→(e,m,k)∈pl:=by
 intro pl
 induction pl with
 | nil=>intro h; cases h
 | cons p ps ih =>
  intro h
  unfold inPl at h
  split at h
  · rename_i hc
    obtain ⟨h1,h2⟩:=and_true hc
    obtain ⟨h2,h3⟩:=and_true h2
    obtain ⟨p1,p2,p3⟩:=p
    have e1:=Nat.eq_of_beq_eq_true h1
    have e2:=Nat.eq_of_beq_eq_true h2
    have e3:=Nat.eq_of_beq_eq_true h3
    simp only at e1 e2 e3
    subst e1; subst e2; subst e3
    exact List.mem_cons_self
  · exact List.mem_cons_of_mem _ (ih h)
theorem placesOk_mem {u:Nat} {p:Nat × Nat × Nat}:∀ {pl:List (Nat × Nat × Nat)},p∈placesOk P u pl→placeOk P u p=true:=by
 intro pl
 induction pl with
 | nil=>intro h; cases h
 | cons q qs ih =>
  intro h
  unfold placesOk at h
  split at h
  · rename_i hq
    rcases List.mem_cons.1 h with rfl | h
    · exact hq
    · exact ih h
  · exact ih h
theorem varAt_some {pl:List (Nat × Nat × Nat)} {k:Nat} {b:Option Blk} (hb:varAt pl k b=true):∃ c lo hi e m,b=some (.cells c lo hi (.var e m))∧(e,m,k)∈pl:=by
 unfold varAt at hb
 split at hb
 · rename_i c lo hi e m
   exact ⟨c,lo,hi,e,m,rfl,inPl_mem hb⟩
 · cases hb
theorem s_cpu {s d u:TypeId} {pl:List (Nat × Nat × Nat)} {x:Operand} (hT:TmR j nt tm a.tmps) (hR:RB P j h.blk n w) (hN:n≤N) (hop:o.op = .convert s d x) (hs:P.underlying s=some .unsafePointer) (hd:P.underlying d=some (.pointer u))
 (hpl:∀ p∈pl,placeOk P u p=true) (hsz:∃ m,sizeOf? P u=some m) (hr:r_cpu pl (cA x) tm h = .val v h'):OpOk P o a w j h.blk v h'.blk N:=by
 unfold r_cpu at hr
 have hx:=evA hT x
 split at hr
 · rename_i e1
   rw [e1] at hx
   cases hr
   generalize hp:a.eval x=p at hx
   cases hx
   refine OpOk.same (cv:=.pointer none) ?_ .nilp hR hN
   simp only [execOp,hop,hp]
   refine run_v ?_
   simp [convert,q_underlying hs,q_underlying hd,Conv.unsafePointer]
 · rename_i f k e1
   rw [e1] at hx
   split at hr
   · rename_i hb
     cases hr
     obtain ⟨c,lo,hi,e,m,hb1,hb2⟩:=varAt_some hb
     obtain ⟨l,cs,e',fz,h5,h6,h7,h8,h9,h10⟩:=hR.cellsTy hb1
     obtain ⟨t1,t2,t3,_⟩:=h10
     generalize hp:a.eval x=p at hx
     cases hx with
     | ptr _ _ l' hj hk =>
     rw [h5] at hj; cases hj
     refine OpOk.same (cv:=.pointer (some ⟨l.blk,k - l.base,none⟩)) ?_ (.ptr f k l h5 hk) hR hN
     simp only [execOp,hop,hp]
     refine run_v ?_
     have hok:=hpl _ hb2
     unfold placeOk at hok
     simp only at hok
     have hcs:cs.size=m:=by rw [h9.size,t3]
     have hvar:(variablesAt ⟨l.blk,k - l.base,none⟩ u 1).run P w = .ok true w:=by
      unfold variablesAt
      simp only [program,Sem.run_bind,Sem.run,Result.andThen_ok]
      simp [q_shape h7,t1,hcs,t2,hok]
     obtain ⟨m',hm'⟩:=hsz
     simp [convert,q_underlying hs,q_underlying hd,Conv.unsafePointer,q_seenAt h7,q_sizeOf hm',hvar]
   · cases hr
 · cases hr
theorem s_sdata {c:Call} {x:Operand} (hT:TmR j nt tm a.tmps) (hR:RB P j h.blk n w) (hN:n≤N) (hop:o.op = .call c) (hc:c.callee = .builtin .unsafeSliceData) (ha:c.args.toList = [x]) (hr:r_sdata (cA x) tm h = .val v h') :
 OpOk P o a w j h.blk v h'.blk N:=by
 unfold r_sdata at hr
 have hx:=evA hT x
 have hargs:c.args.map a.eval=#[a.eval x]:=by
  apply Array.ext'
  simp [ha]
 split at hr
 · rename_i e1
   rw [e1] at hx
   cases hr
   generalize hp:a.eval x=p at hx hargs
   cases hx
   refine OpOk.same (cv:=.pointer none) ?_ .nilp hR hN
   simp only [execOp,hop,resolve,hc,hargs]
   rfl
 · rename_i f k len cap ex sz e1
   rw [e1] at hx
   split at hr
   · rename_i hb
     cases hr
     have hcap:=Nat.le_of_ble_eq_true hb
     generalize hp:a.eval x=p at hx hargs
     cases hx with
     | sl _ _ _ _ _ _ l ad capc hj g1 g2 g3 g4 =>
     have hne:capc≠0:=by omega
     obtain ⟨k1,rfl,_⟩:=g4.resolve_left hne
     refine OpOk.same (cv:=.pointer (some ⟨l.blk,k - l.base,none⟩)) ?_ (.ptr f k l hj k1) hR hN
     simp only [execOp,hop,resolve,hc,hargs,Sem.run_bind,Sem.run_pure,Result.andThen_ok]
     refine run_v (s:=Builtin.unsafeSliceData_ c.argTypes o.type #[.slice (some ⟨l.blk,k - l.base,none⟩) len capc]) ?_
     show (if capc≠0 then pure (.pointer (some ⟨l.blk,k - l.base,none⟩)) else _:Sem Value).run P w=_
     rw [if_pos hne]
     rfl
   · cases hr
 · cases hr
end
end Go.Ev
namespace Go.Ev
variable {P:Env}
section
variable {o:Oper} {a:Act} {w:World} {j:Inj} {n N nt:Nat} {tm:Tm} {h h':H} {v:AV}
theorem s_rngs {t:TypeId} {x:Operand} (hT:TmR j nt tm a.tmps) (hR:RB P j h.blk n w) (hf:j h.next=none) (hN:n≤N) (hN':h'.next.toN≤N) (hop:o.op = .range t x) (ht:P.underlying t=some .string)
 (hr:r_rngs (cA x) tm h = .val v h'):OpOk P o a w j h.blk v h'.blk N:=by
 unfold r_rngs at hr
 have hx:=evA hT x
 split at hr
 · rename_i s e1
   rw [e1] at hx
   cases hr
   rw [H.blk_add]
   generalize hq:a.eval x=q at hx
   cases hx with
   | str bs =>
   refine OpOk.new (f:=h.next) (base:=0) (csz:=0) (cv:=.pointer (some ⟨w.heap.size,0,none⟩)) (ob:=.stringIter bs 0) ?_ hR hf hN (H.add_toN _ _ hN') (fun j' _ _ hj=>.ptr _ 0 _ hj (Nat.le_refl _))
    (fun j' hj=>⟨rfl,bs,heap_push_new _ _,rfl⟩)
   simp only [execOp,hop]
   refine run_v ?_
   simp [Instr.range,hq,q_underlying ht]
 · cases hr
theorem bytesOf_get {bs:ByteArray} {i b:Nat} (h:(bytesOf bs)[i]? = some b):i < bs.size∧(bs.get! i).toNat=b:=by
 unfold bytesOf at h
 rw [List.getElem?_map] at h
 have hsz:bs.data.toList.length=bs.size:=by simp
 cases hg:bs.data.toList[i]? with
 | none=>rw [hg] at h; cases h
 | some c =>
  rw [hg] at h
  have hlt:i < bs.data.toList.length:=(List.getElem?_eq_some_iff.1 hg).1
  have hc:=(List.getElem?_eq_some_iff.1 hg).2
  simp at h
  refine ⟨by omega,?_⟩
  have hb:bs.get! i=c:=by
   show bs.data[i]! = c
   have:i < bs.data.size:=by simpa using hlt
   rw [getElem!_pos bs.data i this,← hc]
   simp
  rw [hb]; exact h
theorem decode_low {bs:ByteArray} {i:Nat} (h:(bs.get! i).toNat≤127):Utf8.decode bs i=((bs.get! i).toNat,1):=by
 unfold Utf8.decode
 simp only [Nat.add_zero]
 rw [if_pos (by omega)]
theorem s_nxts {x:Operand} (hT:TmR j nt tm a.tmps) (hR:RB P j h.blk n w) (hN:n≤N) (hop:o.op = .next x true) (hr:r_nxts (cA x) tm h = .val v h'):OpOk P o a w j h.blk v h'.blk N:=by
 unfold r_nxts at hr
 have hx:=evA hT x
 split at hr
 · rename_i f e1
   rw [e1] at hx
   generalize hq:a.eval x=q at hx
   cases hx with
   | ptr _ _ l hj hbase =>
   have hbase0:0 - l.base=0:=Nat.zero_sub _
   rw [hbase0] at hq
   split at hr
   · rename_i s pos hb
     obtain ⟨l',g1,g2,g3,bs,g4,g5⟩:=hR.blk f _ hb
     have g2:=g2 trivial
     rw [g1] at hj; cases hj
     have hget:=q_getObj (P:=P) g4 (fun _ _ _ e=>by cases e)
     split at hr
     · rename_i b hsb
       rw [←g5] at hsb
       obtain ⟨k1,k2⟩:=bytesOf_get hsb
       split at hr
       · rename_i hle
         have hle':=Nat.le_of_ble_eq_true hle
         cases hr
         have hdec:=decode_low (bs:=bs) (i:=pos) (by omega)
         rw [k2] at hdec
         obtain ⟨r1,r2⟩:=RB.update hR f ⟨_,hb,trivial⟩ g1 (.siter s (Nat.succ pos)) (w':={ w with heap:=w.heap.setIfInBounds l.blk (.stringIter bs (pos+1)) }) (by simp) (fun k hk=>setIfInBounds_ne _ _ _ _ hk) rfl rfl rfl
          ⟨g3,bs,Array.getElem?_setIfInBounds_self_of_lt g2,g5⟩
         refine ⟨.tuple #[.bool true,goInt pos,.int .i32 b],_,.value (.tuple #[.bool true,goInt pos,.int .i32 b]),?_,.inl rfl,j,
          .tup _ _ (.cons _ _ _ _ (.bool _) (.cons _ _ _ _ (.int _ _) (.cons _ _ _ _ (.int _ _) .nil))),by rw [H.blk_put]; exact r1.sub (fun _ _ h=>h) hN,by rw [H.blk_put]; exact r2⟩
         simp only [execOp,hop]
         refine run_v ?_
         have hset:(setObj l.blk (.stringIter bs (pos+1))).run P w = .ok () { w with heap:=w.heap.setIfInBounds l.blk (.stringIter bs (pos+1)) }:=q_setObj g4 (fun _ _ _ e=>by cases e)
         simp [Instr.next,hq,hget,k1,hdec,hset]
       · cases hr
     · rename_i hsb
       cases hr
       have hge:¬ pos < bs.size:=by
        intro hlt
        rw [←g5] at hsb
        have hl:(bytesOf bs).length=bs.size:=by simp [bytesOf]
        rw [List.getElem?_eq_none_iff] at hsb
        omega
       refine OpOk.same (cv:=.tuple #[.bool false]) ?_ (.tup _ _ (.cons _ _ _ _ (.bool _) .nil)) hR hN
       simp only [execOp,hop]
       refine run_v ?_
       simp [Instr.next,hq,hget,hge]
   · cases hr
 · cases hr
theorem lookE_mem {f k:Nat}:∀ {l:List (Nat × Nat)},lookE f l=some k→(f,k)∈l:=by
 intro l
 induction l with
 | nil=>intro h; cases h
 | cons p ps ih =>
  intro h
  unfold lookE at h
  split at h
  · rename_i hb
    cases h
    obtain ⟨p1,p2⟩:=p
    have:=Nat.eq_of_beq_eq_true hb
    simp only at this
    subst this
    exact List.mem_cons_self
  · exact List.mem_cons_of_mem _ (ih h)
theorem extGo_mem:∀ {fns:List Func} {i f k:Nat},(f,k)∈extGo fns i→∃ fn,fns[f - i]? = some fn∧i≤f∧fn.body=none∧extKind fn.name=some k∧Extern.findNext fn=none:=by
 intro fns
 induction fns with
 | nil=>intro i f k h; cases h
 | cons fn fns ih =>
  intro i f k h
  have rest:(f,k)∈extGo fns (Nat.succ i)→∃ fn',(fn :: fns)[f - i]? = some fn'∧i≤f∧fn'.body=none∧extKind fn'.name=some k∧Extern.findNext fn'=none:=by
   intro h
   obtain ⟨fn',h1,h2,h3⟩:=ih h
   refine ⟨fn',?_,by omega,h3⟩
   have:f - i=(f - Nat.succ i)+1:=by omega
   rw [this,List.getElem?_cons_succ]; exact h1
  unfold extGo at h
  split at h
  · exact rest h
  · rename_i hb
    split at h
    · exact rest h
    · rename_i k' hk
      split at h
      · rename_i hn
        rcases List.mem_cons.1 h with h | h
        · cases h
          exact ⟨fn,by simp,Nat.le_refl _,hb,hk,hn⟩
        · exact rest h
      · exact rest h
theorem externOf_some {f:FuncId} {k:Nat} (h:externOf P f=some k):∃ fn,P.funcs[f]? = some fn∧fn.body=none∧extKind fn.name=some k∧Extern.findNext fn=none:=by
 obtain ⟨fn,h1,_,h3⟩:=extGo_mem (lookE_mem h)
 refine ⟨fn,?_,h3⟩
 simpa using h1
theorem extKind_name {s : String} {k : Nat} (h : extKind s = some k) : (k = 0 ∧ s = "internal/abi.NoEscape") ∨ (k = 1 ∧ s = "internal/bytealg.IndexByteString") ∨ (k = 2 ∧ s = "internal/bytealg.CountString") ∨ (k = 3 ∧ s = "internal/bytealg.MakeNoZero") := by
  unfold extKind at h
  split at h
  · rename_i e; cases h; exact .inl ⟨rfl, eq_of_beq e⟩
  · split at h
    · rename_i e; cases h; exact .inr (.inl ⟨rfl, eq_of_beq e⟩)
    · split at h
      · rename_i e; cases h; exact .inr (.inr (.inl ⟨rfl, eq_of_beq e⟩))
      · split at h
        · rename_i e; cases h; exact .inr (.inr (.inr ⟨rfl, eq_of_beq e⟩))
        · cases h
theorem run_mark (m:Mark):(mark m).run P w = .ok () w:=rfl
theorem find_of {fn:Func} {row:Array Value→Sem Value} (h:(((Extern.allGenericRows.lookup fn.name).map (· fn.targs fn.params fn.resultTypes) <|> (Extern.allTypedRows.lookup fn.name).map (· fn.params fn.resultTypes) <|> Extern.allRows.lookup fn.name):Option (Array Value→Sem Value))=some row):Extern.find fn=some row:=by
 unfold Extern.find
 simp only [h]
 rfl
theorem run_extern {f:FuncId} {fn:Func} {vs:Array Value} {row:Array Value→Sem Value} {cv:Value} {w':World} (hf:P.funcs[f]? = some fn) (hb:fn.body=none) (hne:fn.name≠ "runtime.NumGoroutine") (hn:Extern.findNext fn=none)
 (hrow:Extern.find fn=some row) (hrun:(row vs).run P w = .ok cv w'):(callFunc f vs).run P w = .ok (.value cv) w':=by
 have hb':fn.body.isNone=true:=by rw [hb]; rfl
 unfold callFunc
 simp only [program,Sem.run_bind,Sem.run,Result.andThen_ok]
 rw [hf]
 simp only [beq_iff_eq,hne,if_false,hb',if_true,Sem.run_bind,run_mark,Result.andThen_ok,hn,hrow]
 simp [hrun]
theorem row_same {fn:Func} (h:fn.name = "internal/abi.NoEscape"):Extern.find fn=some Extern.AbiNoEscape.same:=find_of (by rw [h]; rfl)
theorem row_index {fn:Func} (h:fn.name = "internal/bytealg.IndexByteString"):Extern.find fn=some Extern.BytealgIndexByte.indexByte:=find_of (by rw [h]; rfl)
theorem row_count {fn:Func} (h:fn.name = "internal/bytealg.CountString"):Extern.find fn=some Extern.BytealgCount.count:=find_of (by rw [h]; rfl)
theorem row_make {fn:Func} (h:fn.name = "internal/bytealg.MakeNoZero"):Extern.find fn=some (Extern.BytealgMakeNoZero.makeNoZero fn.params fn.resultTypes):=find_of (by rw [h]; rfl)
end
end Go.Ev
namespace Go.Ev
variable {P:Env}
section
variable {o:Oper} {a:Act} {w:World} {j:Inj} {n N nt:Nat} {tm:Tm} {h h':H} {v:AV}
theorem exec_call {c:Call} {f:FuncId} (hop:o.op = .call c) (hc:c.callee = .value (.func f)):(execOp a.eval o).run P w=(callFunc f (c.args.map a.eval)).run P w:=by
 simp only [execOp,hop,resolve,hc]
 simp [Act.eval,Deferred.ofValue,invoke]
theorem name_ne {s:String} {k:Nat} (h:extKind s=some k):s≠ "runtime.NumGoroutine":=by
 rcases extKind_name h with ⟨_,rfl⟩ | ⟨_,rfl⟩ | ⟨_,rfl⟩ | ⟨_,rfl⟩ <;> decide
theorem s_same {c:Call} {f:FuncId} {x:Operand} (hT:TmR j nt tm a.tmps) (hR:RB P j h.blk n w) (hN:n≤N) (hop:o.op = .call c) (hc:c.callee = .value (.func f)) (ha:c.args.toList = [x]) (he:externOf P f=some 0)
 (hr:r_mv (cA x) tm h = .val v h'):OpOk P o a w j h.blk v h'.blk N:=by
 cases hr
 obtain ⟨fn,h1,h2,h3,h4⟩:=externOf_some he
 have hn:fn.name = "internal/abi.NoEscape":=by rcases extKind_name h3 with ⟨_,h⟩ | ⟨h,_⟩ | ⟨h,_⟩ | ⟨h,_⟩ <;> first | exact h | (cases h)
 have hargs:c.args.map a.eval=#[a.eval x]:=by apply Array.ext'; simp [ha]
 refine OpOk.same (cv:=a.eval x) ?_ (evA hT x) hR hN
 rw [exec_call hop hc,hargs]
 exact run_extern h1 h2 (name_ne h3) h4 (row_same hn) rfl
theorem ofNat_inj {b c:UInt8} (h:b.toNat=c.toNat):b=c:=UInt8.toNat.inj h
theorem indexByte_cons (b:UInt8) (l:List UInt8) (c:UInt8):Lib.indexByte (b :: l) c=if b==c then 0 else if Lib.indexByte l c == -1 then -1 else Lib.indexByte l c+1:=rfl
theorem findB_eq {c:Nat} (hc:c < 256):∀ (l:List UInt8) (i:Nat),findB c (l.map (·.toNat)) i = .int .i64 (if Lib.indexByte l (UInt8.ofNat c) = -1 then -1 else Lib.indexByte l (UInt8.ofNat c)+i):=by
 intro l
 have hcc:(UInt8.ofNat c).toNat=c:=by simp; omega
 induction l with
 | nil=>intro i; rfl
 | cons b l ih =>
  intro i
  have hg:=Lib.indexByte_ge l (UInt8.ofNat c)
  have hd:findB c ((b :: l).map (·.toNat)) i=(match Nat.beq b.toNat c with | true=>.int .i64 (.ofNat i) | false=>findB c (l.map (·.toNat)) (Nat.succ i)):=rfl
  rw [hd,indexByte_cons]
  cases hb:Nat.beq b.toNat c with
  | true =>
   have e:=Nat.eq_of_beq_eq_true hb
   have e2:b=UInt8.ofNat c:=ofNat_inj (by rw [hcc]; exact e)
   subst e2
   simp
  | false =>
   have hne:b≠UInt8.ofNat c:=fun e=>by
    have:b.toNat=c:=by rw [e,hcc]
    rw [this,Nat.beq_refl] at hb; cases hb
   have hbe:(b==UInt8.ofNat c)=false:=by simpa using hne
   simp only [ih,hbe,Bool.false_eq_true,if_false]
   generalize Lib.indexByte l (UInt8.ofNat c)=q at hg
   by_cases h1:q = -1
   · simp [h1]
   · have h2:(q == -1)=false:=by simpa using h1
     have h3:¬ q+1 = -1:=by omega
     rw [h2,if_neg h1]
     simp only [Bool.false_eq_true,if_false]
     rw [if_neg h3]
     congr 1
     have:((Nat.succ i:Nat):Int)=(i:Int)+1:=rfl
     omega
theorem idx_u8 {c:Int} {k:Nat} (h:idx 256 c=some k):c=(k:Int)∧k < 256:=idx_some h
theorem s_xib {c:Call} {f:FuncId} {x y:Operand} (hT:TmR j nt tm a.tmps) (hR:RB P j h.blk n w) (hN:n≤N) (hop:o.op = .call c) (hc:c.callee = .value (.func f)) (ha:c.args.toList = [x,y]) (he:externOf P f=some 1)
 (hr:r_xib (cA x) (cA y) tm h = .val v h'):OpOk P o a w j h.blk v h'.blk N:=by
 unfold r_xib at hr
 have hx:=evA hT x
 have hy:=evA hT y
 obtain ⟨fn,h1,h2,h3,h4⟩:=externOf_some he
 have hn:fn.name = "internal/bytealg.IndexByteString":=by rcases extKind_name h3 with ⟨h,_⟩ | ⟨_,h⟩ | ⟨h,_⟩ | ⟨h,_⟩ <;> first | exact h | (cases h)
 have hargs:c.args.map a.eval=#[a.eval x,a.eval y]:=by apply Array.ext'; simp [ha]
 split at hr
 · rename_i s ci e1 e2
   rw [e1] at hx; rw [e2] at hy
   split at hr
   · rename_i k hk
     obtain ⟨k1,k2⟩:=idx_u8 hk
     subst k1
     cases hr
     generalize hp:a.eval x=p at hx hargs
     generalize hq:a.eval y=q at hy hargs
     cases hx with
     | str bs =>
     cases hy
     have hrun:=Lib.run_indexByteString (P:=P) bs (k:Int) w
     have hcc:((k:Int).toNat.toUInt8)=UInt8.ofNat k:=rfl
     rw [hcc] at hrun
     have hval:findB k (bytesOf bs) 0 = .int .i64 (Lib.indexByte bs.data.toList (UInt8.ofNat k)):=by
      have:=findB_eq k2 bs.data.toList 0
      rw [show bytesOf bs=bs.data.toList.map (·.toNat) from rfl,this]
      congr 1
      split
      · rename_i h; exact h.symm
      · simp
     rw [hval]
     refine OpOk.same ?_ (.int _ _) hR hN
     rw [exec_call hop hc,hargs]
     exact run_extern h1 h2 (name_ne h3) h4 (row_index hn) hrun
   · cases hr
 · cases hr
theorem countB_eq {c:Nat} (hc:c < 256):∀ (l:List UInt8) (i:Nat),countB c (l.map (·.toNat)) i=i+Lib.countByte l (UInt8.ofNat c):=by
 intro l
 have hcc:(UInt8.ofNat c).toNat=c:=by simp; omega
 induction l with
 | nil=>intro i; rfl
 | cons b l ih =>
  intro i
  have hd:countB c ((b :: l).map (·.toNat)) i=(match Nat.beq b.toNat c with | true=>countB c (l.map (·.toNat)) (Nat.succ i) | false=>countB c (l.map (·.toNat)) i):=rfl
  rw [hd]
  unfold Lib.countByte
  rw [List.count_cons]
  cases hb:Nat.beq b.toNat c with
  | true =>
   have e2:b=UInt8.ofNat c:=ofNat_inj (by rw [hcc]; exact Nat.eq_of_beq_eq_true hb)
   simp only [ih,e2]
   unfold Lib.countByte
   simp; omega
  | false =>
   have hne:b≠UInt8.ofNat c:=fun e=>by
    have:b.toNat=c:=by rw [e,hcc]
    rw [this,Nat.beq_refl] at hb; cases hb
   have hbe:(b==UInt8.ofNat c)=false:=by simpa using hne
   simp only [ih,hbe]
   unfold Lib.countByte
   simp
theorem s_xct {c:Call} {f:FuncId} {x y:Operand} (hT:TmR j nt tm a.tmps) (hR:RB P j h.blk n w) (hN:n≤N) (hop:o.op = .call c) (hc:c.callee = .value (.func f)) (ha:c.args.toList = [x,y]) (he:externOf P f=some 2)
 (hr:r_xct (cA x) (cA y) tm h = .val v h'):OpOk P o a w j h.blk v h'.blk N:=by
 unfold r_xct at hr
 have hx:=evA hT x
 have hy:=evA hT y
 obtain ⟨fn,h1,h2,h3,h4⟩:=externOf_some he
 have hn:fn.name = "internal/bytealg.CountString":=by rcases extKind_name h3 with ⟨h,_⟩ | ⟨h,_⟩ | ⟨_,h⟩ | ⟨h,_⟩ <;> first | exact h | (cases h)
 have hargs:c.args.map a.eval=#[a.eval x,a.eval y]:=by apply Array.ext'; simp [ha]
 split at hr
 · rename_i s ci e1 e2
   rw [e1] at hx; rw [e2] at hy
   split at hr
   · rename_i k hk
     obtain ⟨k1,k2⟩:=idx_u8 hk
     subst k1
     cases hr
     generalize hp:a.eval x=p at hx hargs
     generalize hq:a.eval y=q at hy hargs
     cases hx with
     | str bs =>
     cases hy
     have hrun:=Lib.run_countString (P:=P) bs (k:Int) w
     have hcc:((k:Int).toNat.toUInt8)=UInt8.ofNat k:=rfl
     rw [hcc] at hrun
     have hval:countB k (bytesOf bs) 0=Lib.countByte bs.data.toList (UInt8.ofNat k):=by
      have:=countB_eq k2 bs.data.toList 0
      rw [show bytesOf bs=bs.data.toList.map (·.toNat) from rfl,this]
      simp
     rw [hval]
     refine OpOk.same ?_ (.int _ _) hR hN
     rw [exec_call hop hc,hargs]
     exact run_extern h1 h2 (name_ne h3) h4 (row_count hn) hrun
   · cases hr
 · cases hr
end
end Go.Ev
namespace Go.Ev
variable {P:Env}
section
variable {o:Oper} {a:Act} {w:World} {j:Inj} {n N nt:Nat} {tm:Tm} {h h':H} {v:AV}
theorem digits_size:∀ (m t:Nat) (acc:Array Value),(Extern.BytealgMakeNoZero.digits m t acc).size=acc.size+m:=by
 intro m
 induction m with
 | zero=>intro t acc; rfl
 | succ m ih =>
  intro t acc
  unfold Extern.BytealgMakeNoZero.digits
  rw [ih]
  simp; omega
theorem q_choose_ext (t:String):∃ k,(choose (.extern t 0)).run P w = .ok k { w with drawn:=w.drawn+1 }:=⟨_,rfl⟩
theorem s_xmk {c:Call} {f:FuncId} {fn:Func} {t e:TypeId} {x:Operand} (hT:TmR j nt tm a.tmps) (hR:RB P j h.blk n w) (hf:j h.next=none) (hN:n≤N) (hN':h'.next.toN≤N) (hop:o.op = .call c) (hc:c.callee = .value (.func f)) (ha:c.args.toList = [x])
 (he:externOf P f=some 3) (hfn:P.funcs[f]? = some fn) (hrt:fn.resultTypes[0]? = some t) (ht:P.underlying t=some (.slice e)) (hr:r_xmk e (cA x) tm h = .val v h'):OpOk P o a w j h.blk v h'.blk N:=by
 unfold r_xmk at hr
 have hx:=evA hT x
 obtain ⟨fn',h1,h2,h3,h4⟩:=externOf_some he
 rw [hfn] at h1; cases h1
 have hn:fn.name = "internal/bytealg.MakeNoZero":=by rcases extKind_name h3 with ⟨h,_⟩ | ⟨h,_⟩ | ⟨h,_⟩ | ⟨_,h⟩ <;> first | exact h | (cases h)
 have hargs:c.args.map a.eval=#[a.eval x]:=by apply Array.ext'; simp [ha]
 split at hr
 · rename_i ni e1
   rw [e1] at hx
   split at hr
   · rename_i m hm
     obtain ⟨rfl,hlt⟩:=idx_some hm
     cases hr
     rw [H.blk_add]
     generalize hp:a.eval x=p at hx hargs
     cases hx
     have hg:m≤grownCap w m 0 e:=by simp [grownCap,Question.cut]
     obtain ⟨kb,hkb⟩:=q_choose_ext (P:=P) (w:={ w with drawn:=w.drawn+1 }) "internal/bytealg.MakeNoZero.bytes"
     have hrun:(Extern.BytealgMakeNoZero.makeNoZero fn.params fn.resultTypes #[.int .i64 (m:Int)]).run P w =
      .ok (.slice (some ⟨w.heap.size,0,none⟩) m (grownCap w m 0 e)) { w with drawn:=w.drawn+2,heap:=w.heap.push (.cells (Extern.BytealgMakeNoZero.digits (grownCap w m 0 e) kb #[]) e) }:=by
      have hneg:¬ ((m:Int) < 0):=by omega
      have hbig:¬ ((m:Int) > 2 ^ 48):=by omega
      have htn:((m:Int)).toNat=m:=rfl
      change Sem.run P (do
       let some t:=fn.resultTypes[0]? | stuck "bytealg.MakeNoZero: no result type"
       let .slice elem ← underlying t | stuck "bytealg.MakeNoZero: slice type expected"
       if (m:Int) < 0 || (m:Int) > 2 ^ 48 then runtimePanic (.error "makeslice: len out of range")
       let cap ← choose (.appendCap ((m:Int)).toNat 0 elem)
       askRoom cap
       let bytes ← choose (.extern "internal/bytealg.MakeNoZero.bytes" 0)
       let a ← newRow elem (Extern.BytealgMakeNoZero.digits cap bytes #[])
       pure (Value.slice (some a) ((m:Int)).toNat cap)) w=_
      simp only [hrt,Sem.run_bind,q_underlying ht,Result.andThen_ok,hneg,hbig,decide_false,Bool.or_false,Bool.false_eq_true,if_false,htn,q_choose_cap,q_askRoom,hkb,q_newRow,Sem.run_pure]
     generalize grownCap w m 0 e=g at hg hrun
     refine OpOk.newD (ob:=.cells (Extern.BytealgMakeNoZero.digits g kb #[]) e) (d:=w.drawn+2) (f:=h.next) (base:=0) (csz:=g) (cv:=.slice (some ⟨w.heap.size,0,none⟩) m g) ?_ hR hf hN (H.add_toN _ _ hN')
      (fun j' _ hj=>.sl _ 0 _ _ false 1 _ _ g hj hg (fun e=>by cases e) hg (.inr ⟨Nat.le_refl _,rfl,by simp⟩)) (fun j' hj=>?_)
     · rw [exec_call hop hc,hargs]
       exact run_extern hfn h2 (name_ne h3) h4 (row_make hn) hrun
     · rw [BlkR.cells_iff]
       refine ⟨_,e,_,heap_push_new _ _,.inl (Nat.le_refl _),⟨Nat.le_refl _,by simpa using hg,by rw [digits_size]; simp,fun i v _ _ ht=>?_⟩,rfl⟩
       rw [T.get_nil] at ht; cases ht
   · cases hr
 · cases hr
end
end Go.Ev
namespace Go.Ev
variable {P:Env}
section
variable {o:Oper} {a:Act} {w:World} {j:Inj} {n N nt:Nat} {tm:Tm} {h h':H} {v:AV}
theorem loadBytes_spec {blk:Nat} {cs:Array Value} {e:TypeId} {fz:Nat × Nat} (hb:w.heap[blk]? = some (.cells cs e fz)):∀ (ul:List UInt8) (k:Nat) (acc:ByteArray),
 (∀ i b,ul[i]? = some b→cs[k+i]? = some (.int .u8 ((b.toNat:Nat):Int)))→(loadBytes ⟨blk,k,none⟩ acc ul.length).run P w = .ok (ul.foldl (fun s b=>s.push b) acc) w:=by
 intro ul
 induction ul with
 | nil=>intro k acc _; rfl
 | cons b ul ih =>
  intro k acc hc
  have h0:=hc 0 b rfl
  have hl:=run_load (P:=P) hb (by simpa using h0)
  show (loadBytes ⟨blk,k,none⟩ acc (ul.length+1)).run P w=_
  unfold loadBytes
  simp only [Sem.run_bind,hl,Result.andThen_ok]
  rw [Addr.add_none]
  have hbb:((b.toNat:Nat):Int).toNat.toUInt8=b:=by
   show UInt8.ofNat ((b.toNat:Nat):Int).toNat=b
   simp
  rw [hbb]
  refine ih (k+1) (acc.push b) fun i c hi=>?_
  have:=hc (i+1) c (by simpa using hi)
  rw [show k+1+i=k+(i+1) by omega]; exact this
theorem foldl_push:∀ (ul:List UInt8) (acc:ByteArray),(ul.foldl (fun s b=>s.push b) acc).data.toList=acc.data.toList++ul:=by
 intro ul
 induction ul with
 | nil=>intro acc; simp
 | cons b ul ih =>
  intro acc
  rw [List.foldl_cons,ih]
  show (acc.data.push b).toList++ul=_
  simp
theorem rowAtB_some {e k m:Nat} {b:Option Blk} (hb:rowAtB e k m b=true):∃ c lo hi,b=some (.cells c lo hi (.row e))∧lo≤k∧k+m≤hi:=by
 unfold rowAtB at hb
 split at hb
 · rename_i c lo hi e'
   obtain ⟨h1,h2⟩:=and_true hb
   obtain ⟨h2,h3⟩:=and_true h2
   have:=Nat.eq_of_beq_eq_true h1
   subst this
   exact ⟨c,lo,hi,rfl,Nat.le_of_ble_eq_true h2,Nat.le_of_ble_eq_true h3⟩
 · cases hb
theorem freeze_size (w:World) (ad:Addr) (m:Nat):(w.freeze ad m).heap.size=w.heap.size:=by
 unfold World.freeze; split <;> simp
theorem freeze_other (w:World) (ad:Addr) (m:Nat) {i:Nat} (hi:i≠ad.block):(w.freeze ad m).heap[i]? = w.heap[i]?:=by
 unfold World.freeze
 split
 · rfl
 · simp only [Array.getElem?_modify,if_neg (Ne.symm hi)]
theorem freeze_rest (w:World) (ad:Addr) (m:Nat):(w.freeze ad m).os=w.os∧(w.freeze ad m).output=w.output∧(w.freeze ad m).tape=w.tape:=by
 unfold World.freeze; split <;> exact ⟨rfl,rfl,rfl⟩
theorem depth_succ (P:Env):∃ d,P.depth=d+1:=⟨2 * (P.types.size+Made.depth)+1,rfl⟩
theorem sameLayout_refl (d:Nat) (t:TypeId):sameLayout P (d+1) t t=true:=by simp [sameLayout]
theorem q_variablesAt {blk k m:Nat} {cs:Array Value} {e:TypeId} {fz:Nat × Nat} (hb:w.heap[blk]? = some (.cells cs e fz)) (h1:P.cellsOf e=1) (hle:k+m≤cs.size):(variablesAt ⟨blk,k,none⟩ e m).run P w = .ok true w:=by
 unfold variablesAt
 simp only [program,Sem.run_bind,Sem.run,Result.andThen_ok,q_shape hb,Sem.run_pure]
 congr 1
 obtain ⟨d,hd⟩:=depth_succ P
 rw [h1,Nat.div_one]
 conv=>lhs; rw [hd]; unfold liesAt
 have hrow:rowAt P (fun x=>sameLayout P P.depth x e) (d+1) e cs.size k m=true:=by
  unfold rowAt
  rw [h1]
  simp only [Nat.div_one,Nat.mod_one]
  rw [hd]
  simp [hle,sameLayout_refl]
 rw [←hd] at hrow
 rw [hrow]
 rfl
theorem s_ustr {c:Call} {pt e:TypeId} {x y:Operand} (hT:TmR j nt tm a.tmps) (hR:RB P j h.blk n w) (hN:n≤N) (hop:o.op = .call c) (hc:c.callee = .builtin .unsafeString) (ha:c.args.toList = [x,y])
 (hpt:c.argTypes[0]? = some pt) (ht:P.underlying pt=some (.pointer e)) (h1:P.cellsOf e=1) (hr:r_ustr e (cA x) (cA y) tm h = .val v h'):OpOk P o a w j h.blk v h'.blk N:=by
 unfold r_ustr at hr
 have hx:=evA hT x
 have hy:=evA hT y
 have hargs:c.args.map a.eval=#[a.eval x,a.eval y]:=by apply Array.ext'; simp [ha]
 have hex:∀ (p:Option Addr) (kk:IntKind) (m:Nat) (cv:Value) (w':World),a.eval x = .pointer p→a.eval y = .int kk (m:Int)→m≤1000000 →
  ((match p with
   | none=>if (m:Int)=0 then pure (.string .empty) else runtimePanic (.error "unsafe.String: ptr is nil and len is not zero")
   | some ad=>if (m:Int)=0 then pure (.string .empty) else do
    if ← variablesAt ad e m then do
     let s ← loadBytes ad .empty m
     freeze ad m
     pure (.string s)
    else unsupported (.unsafePointer "String: not so many bytes at ptr"):Sem Value)).run P w = .ok cv w'→(execOp a.eval o).run P w = .ok (.value cv) w':=by
  intro p kk m cv w' hp hq hm hrun
  simp only [execOp,hop,resolve,hc,hargs,hp,hq,Sem.run_bind,Sem.run_pure,Result.andThen_ok]
  refine run_v (s:=Builtin.unsafeString_ c.argTypes o.type #[.pointer p,.int kk (m:Int)]) ?_
  have hneg:¬ ((m:Int) < 0):=by omega
  have hbig:¬ ((m:Int) > IntKind.i64.max):=by simp [IntKind.max,IntKind.signed,IntKind.bits]; omega
  have htn:((m:Int)).toNat=m:=rfl
  have hbig2:¬ ((9223372036854775807:Int) < (m:Int)):=by omega
  cases p with
  | none =>
   change Sem.run P (do
    let n ← asInt (.int kk (m:Int))
    let some pt:=c.argTypes[0]? | stuck "unsafe.String: no argument types"
    if n < 0 then runtimePanic (.error "unsafe.String: len out of range")
    if n > IntKind.i64.max then unsupported (.unsafePointer "String: a length above the largest int")
    if n=0 then pure (Value.string .empty)
    else runtimePanic (.error "unsafe.String: ptr is nil and len is not zero")) w=_
   simpa [asInt,asIntOf,hpt,hneg,hbig,hbig2] using hrun
  | some ad =>
   change Sem.run P (do
    let n ← asInt (.int kk (m:Int))
    let some pt:=c.argTypes[0]? | stuck "unsafe.String: no argument types"
    if n < 0 then runtimePanic (.error "unsafe.String: len out of range")
    if n > IntKind.i64.max then unsupported (.unsafePointer "String: a length above the largest int")
    if n=0 then pure (Value.string .empty)
    else if ← variablesAt ad (← elemOf pt) n.toNat then do
     let s ← loadBytes ad .empty n.toNat
     freeze ad n.toNat
     pure (.string s)
    else unsupported (.unsafePointer "String: not so many bytes at ptr")) w=_
   simpa [asInt,asIntOf,hpt,hneg,hbig,hbig2,elemOf,q_underlying ht] using hrun
 split at hr
 · rename_i kk ni e2
   rw [e2] at hy
   generalize hq:a.eval y=q at hy
   cases hy
   split at hr
   · rename_i m
     split at hr
     ·
      split at hr
      · rename_i e1
        rw [e1] at hx
        generalize hp:a.eval x=p at hx
        cases hx
        cases hr
        refine OpOk.same (cv:=.string .empty) ?_ (.str .empty) hR hN
        exact hex none kk 0 _ w hp hq (by omega) (by simp)
      · rename_i f k e1
        rw [e1] at hx
        generalize hp:a.eval x=p at hx
        cases hx
        cases hr
        refine OpOk.same (cv:=.string .empty) ?_ (.str .empty) hR hN
        exact hex _ kk 0 _ w hp hq (by omega) (by simp)
      · cases hr
     · rename_i m'
       split at hr
       · rename_i f k e1
         rw [e1] at hx
         split at hr
         · rename_i hcond
           obtain ⟨hb0,hb1⟩:=and_true hcond
           have hle:Nat.succ m'≤1000000:=Nat.le_of_ble_eq_true hb0
           obtain ⟨ct,lo,hi,hblk,hlo,hhi⟩:=rowAtB_some hb1
           split at hr
           · rename_i vs hl
             split at hr
             · rename_i bs hbs
               cases hr
               obtain ⟨l,cs,e',fz,h5,h6,h7,h8,h9,h10⟩:=hR.cellsTy hblk
               have h10:e'=e:=h10
               subst h10
               generalize hp:a.eval x=p at hx
               cases hx with
               | ptr _ _ l' hj hk =>
               rw [h5] at hj; cases hj
               have hld:ldFrom ct (Nat.succ m') k=some vs:=by
                obtain ⟨c2,lo2,hi2,q1,q2,q3,q4⟩:=blkLdn_some hl
                rcases q1 with ⟨ty2,q1⟩ | q1
                · rw [hblk] at q1; cases q1; exact q4
                · rw [hblk] at q1; cases q1
               obtain ⟨g1,g2⟩:=ldFrom_spec h9 _ k vs hlo hhi hld
               obtain ⟨ul,u1,u2⟩:=bytesA_spec hbs g2
               have hsz:=h9.size
               have hhiB:=h9.hiB
               have hulen:ul.length=m'+1:=by
                have:=g2.length
                rw [u2] at this
                simp at this
                omega
               have hload:(loadBytes ⟨l.blk,k - l.base,none⟩ .empty (m'+1)).run P w = .ok (ul.foldl (fun s b=>s.push b) .empty) w:=by
                have:=loadBytes_spec (P:=P) h7 ul (k - l.base) .empty (fun i b hi=>by
                 have hi2:((cs.extract (k - l.base) (k - l.base+(m'+1))).toList)[i]? = some (.int .u8 ((b.toNat:Nat):Int)):=by
                  rw [show m'+1=Nat.succ m' from rfl,u2]; simp [hi]
                 rw [Array.toList_extract,List.extract_eq_take_drop,List.getElem?_take,List.getElem?_drop] at hi2
                 split at hi2
                 · simpa using hi2
                 · cases hi2)
                rw [hulen] at this; exact this
               have hvar:=q_variablesAt (P:=P) (m:=m'+1) (k:=k - l.base) h7 h1 (by have:Nat.succ m'=m'+1:=rfl; omega)
               have hfr:(freeze ⟨l.blk,k - l.base,none⟩ (m'+1)).run P w = .ok () (w.freeze ⟨l.blk,k - l.base,none⟩ (m'+1)):=rfl
               obtain ⟨r1,r2⟩:=RB.update hR f ⟨_,hblk,trivial⟩ h5 .dead (w':=w.freeze ⟨l.blk,k - l.base,none⟩ (m'+1)) (freeze_size _ _ _) (fun i hi=>freeze_other _ _ _ hi) (freeze_rest _ _ _).1 (freeze_rest _ _ _).2.1 (freeze_rest _ _ _).2.2 trivial
               have hs:VR j (.str bs) (.string (ul.foldl (fun s b=>s.push b) .empty)):=by
                have:bs=bytesOf (ul.foldl (fun s b=>s.push b) .empty):=by
                 unfold bytesOf
                 rw [foldl_push,u1]
                 simp
                rw [this]; exact .str _
               rw [H.blk_put]
               refine ⟨.string (ul.foldl (fun s b=>s.push b) .empty),_,_,hex _ kk (m'+1) _ _ hp hq hle ?_,.inl rfl,j,hs,r1.sub (fun _ _ h=>h) hN,r2⟩
               have hnz:¬ (((m'+1:Nat):Int)=0):=by omega
               simp only [hnz,if_false,Sem.run_bind,hvar,Result.andThen_ok,if_true,hload,hfr,Sem.run_pure]
             · cases hr
           · cases hr
         · cases hr
       · cases hr
   · cases hr
 · cases hr
end
end Go.Ev
namespace Go.Ev
variable {P:Env}
section
variable {o:Oper} {a:Act} {w:World} {j:Inj} {n N nt:Nat} {tm:Tm} {h h':H} {v:AV}
theorem ext_val {c:Call} {f:FuncId} {k:Nat} {args:List Operand} (hT:TmR j nt tm a.tmps) (hR:RB P j h.blk n w) (hf:j h.next=none) (hN:n≤N) (hop:o.op = .call c) (hc:c.callee = .value (.func f)) (ha:c.args.toList=args)
 (he:externOf P f=some k) (hr:(coExt P f k args).run tm h = .val v h') (hN':h'.next.toN≤N):OpOk P o a w j h.blk v h'.blk N:=by
 unfold coExt at hr
 split at hr
 · split at hr
   · exact s_same hT hR hN hop hc ha he hr
   · exact (bad_val hr).elim
 · split at hr
   · exact s_xib hT hR hN hop hc ha he hr
   · exact (bad_val hr).elim
 · split at hr
   · exact s_xct hT hR hN hop hc ha he hr
   · exact (bad_val hr).elim
 · split at hr
   · rename_i hres
     cases hfn:P.funcs[f]? with
     | none=>rw [hfn] at hres; cases hres
     | some fn =>
      rw [hfn] at hres
      cases hrt:fn.resultTypes[0]? with
      | none=>simp [hrt] at hres
      | some t =>
       simp only [Option.bind_some,hrt] at hres
       exact s_xmk hT hR hf hN hN' hop hc ha he hfn hrt hres hr
   · exact (bad_val hr).elim
 · exact (bad_val hr).elim
theorem op_valX (hT:TmR j nt tm a.tmps) (hR:RB P j h.blk n w) (hf:j h.next=none) (hN:n≤N) (hr:(coX P o).run tm h = .val v h') (hN':h'.next.toN≤N):OpOk P o a w j h.blk v h'.blk N:=by
 unfold coX at hr
 split at hr
 · rename_i t m k hop
   split at hr
   · rename_i kt e ht
     split at hr
     · rename_i z kp hz hp; exact s_ment hT hR hN hop ht hz hp hr
     · exact (bad_val hr).elim
   · exact (bad_val hr).elim
 · rename_i t m s x hop; exact s_mest hT hR hN hop hr
 · rename_i x xt t ok hop
   split at hr
   · exact (bad_val hr).elim
   · rename_i d hni ht
     split at hr
     · split at hr
       · rename_i z hz; exact s_ta hT hR hN hop ht (fun ms e=>hni ms e) (.inl ⟨rfl,z,rfl,hz⟩) hr
       · exact (bad_val hr).elim
     · exact s_ta hT hR hN hop ht (fun ms e=>hni ms e) (.inr ⟨rfl,rfl⟩) hr
   · exact (bad_val hr).elim
 · rename_i s d x hop
   split at hr
   · rename_i t hs hd
     split at hr
     · rename_i m hz; exact s_cup hT hR hN hop hs hd hz hr
     · exact (bad_val hr).elim
   · rename_i u hs hd
     split at hr
     · rename_i m hsz; exact s_cpu hT hR hN hop hs hd (fun p hp=>placesOk_mem hp) ⟨m,hsz⟩ hr
     · exact (bad_val hr).elim
   · exact (bad_val hr).elim
 · rename_i t x hop
   split at hr
   · rename_i ht; exact s_rngs hT hR hf hN hN' hop ht hr
   · exact (bad_val hr).elim
 · rename_i x hop; exact s_nxts hT hR hN hop hr
 · rename_i c hop
   split at hr
   · rename_i x hc ha; exact s_sdata hT hR hN hop hc ha hr
   · rename_i p q hc ha
     split at hr
     · rename_i e hpt
       split at hr
       · rename_i he
         split at hr
         · rename_i h1
           cases hat:c.argTypes[0]? with
           | none=>rw [hat] at hpt; cases hpt
           | some pt =>
            rw [hat] at hpt
            exact s_ustr hT hR hN hop hc ha hat hpt (Nat.eq_of_beq_eq_true h1) hr
         · exact (bad_val hr).elim
       · exact (bad_val hr).elim
     · exact (bad_val hr).elim
   · rename_i f args hc
     split at hr
     · rename_i k he; exact ext_val hT hR hf hN hop hc rfl he hr hN'
     · exact (bad_val hr).elim
   · exact (bad_val hr).elim
 · exact (bad_val hr).elim
theorem isConst_eq {x:Operand} (h:isConst x=true):x = .const .nilIface:=by
 unfold isConst at h
 split at h
 · rfl
 · cases h
theorem op_valE {c:CO} (he:coE P o=some c) (hT:TmR j nt tm a.tmps) (hR:RB P j h.blk n w) (hf:j h.next=none) (hN:n≤N) (hr:c.run tm h = .val v h') (hN':h'.next.toN≤N):OpOk P o a w j h.blk v h'.blk N:=by
 unfold coE at he
 split at he
 · rename_i op t x y yt hop
   split at he
   · rename_i e ht
     split at he
     · rename_i m hs
       split at he
       · cases he; exact s_peq (neg:=false) hT hR hN hop ht hs hr
       · cases he; exact s_peq (neg:=true) hT hR hN hop ht hs hr
       · cases he
     · cases he
   · rename_i ms ht
     split at he
     · rename_i hy
       have:=isConst_eq hy
       subst this
       split at he
       · cases he; exact s_ieq (neg:=false) hT hR hN hop ht hr
       · cases he; exact s_ieq (neg:=true) hT hR hN hop ht hr
       · cases he
     · cases he
   · cases he
 · split at he
   · split at he
     · cases he; exact op_valX hT hR hf hN hr hN'
     · cases he
   · cases he
 · cases he
theorem orBad_cases (x y:CO):(orBad x y=y∧x = .bad)∨orBad x y=x:=by
 cases x <;> first | exact .inl ⟨rfl,rfl⟩ | exact .inr rfl
theorem op_val (hT:TmR j nt tm a.tmps) (hR:RB P j h.blk n w) (hf:j h.next=none) (hN:n≤N) (hr:(co P o).run tm h = .val v h') (hN':h'.next.toN≤N):OpOk P o a w j h.blk v h'.blk N:=by
 unfold co at hr
 split at hr
 · rename_i c he; exact op_valE he hT hR hf hN hr hN'
 · rcases orBad_cases (co0 P o) (coX P o) with ⟨e,_⟩ | e
   · rw [e] at hr; exact op_valX hT hR hf hN hr hN'
   · rw [e] at hr; exact op_val0 hT hR hf hN hr hN'
theorem coExt_call {f:FuncId} {k:Nat} {args:List Operand}:(∀ F as,coExt P f k args≠.call F as)∧∀ x as,coExt P f k args≠.callv x as:=by
 refine ⟨fun F as he=>?_,fun x as he=>?_⟩
 all_goals
  unfold coExt at he
  repeat' split at he
  all_goals cases he
theorem coX_call:(∀ F as,coX P o≠.call F as)∧∀ x as,coX P o≠.callv x as:=by
 refine ⟨fun F as he=>?_,fun x as he=>?_⟩
 all_goals
  unfold coX at he
  repeat' split at he
  all_goals first | (cases he; done) | exact coExt_call.1 _ _ he | exact coExt_call.2 _ _ he
theorem coE_call {c:CO} (hc:coE P o=some c):(∀ F as,c≠.call F as)∧∀ x as,c≠.callv x as:=by
 refine ⟨fun F as he=>?_,fun x as he=>?_⟩
 all_goals
  subst he
  unfold coE at hc
  repeat' split at hc
  all_goals first | (cases hc; done) | (have hc:=Option.some.inj hc; first | exact coX_call.1 _ _ hc | exact coX_call.2 _ _ hc)
theorem op_call {f:Callee} {args:List AV} (hT:TmR j nt tm a.tmps) (hr:(co P o).run tm h = .call f args):CallAt P o a w j args f:=by
 have hcall:=run_call hr
 have key:co P o=co0 P o:=by
  unfold co at hcall ⊢
  split at hcall
  · rename_i c hc
    rcases hcall with ⟨F,as,e⟩ | ⟨x,as,e⟩
    · exact absurd e ((coE_call hc).1 F as)
    · exact absurd e ((coE_call hc).2 x as)
  · rcases orBad_cases (co0 P o) (coX P o) with ⟨e,_⟩ | e
    · rw [e] at hcall
      rcases hcall with ⟨F,as,e2⟩ | ⟨x,as,e2⟩
      · exact absurd e2 (coX_call.1 F as)
      · exact absurd e2 (coX_call.2 x as)
    · exact e
 rw [key] at hr
 exact op_call0 hT hr
theorem co_defer {o:Oper} {c:Call} (h:o.op = .defer c):co P o = .bad:=by simp [co,coE,coX,co0,orBad,h]
end
end Go.Ev
namespace Go.Ev
variable {P:Env}
def Fw (F:Fence):Prop:=F=Fence.wide∨∃ l,F=Fence.wide.inRound l
theorem Fw.fn {F:Fence} (h:Fw F) (f:FuncId):F.fn f:=by rcases h with rfl | ⟨l,rfl⟩ <;> trivial
theorem Fw.depth {F:Fence} (h:Fw F):F.depth=none:=by rcases h with rfl | ⟨l,rfl⟩ <;> rfl
theorem Fw.need {F:Fence} (h:Fw F) (n:Nat):F.depth.isSome=true→1≤n:=by rw [h.depth]; intro h; cases h
theorem Fw.calls {F:Fence} (h:Fw F) {n:Nat} {f:FuncId} {args:Array Value} {w:World} {R:Ending→World→Prop} (hc:CallsIn Fence.wide n P f args w R):CallsIn F n P f args w R:=by
 rcases h with rfl | ⟨l,rfl⟩ <;> exact hc
theorem Fw.rounds {F:Fence} (h:Fw F) {n l:Nat} {f:FuncId} {tmps:Array Value} {a b:Code} {w:World} {R:Ending→World→Prop} (hc:RoundIn Fence.wide n P l f tmps a b w R):RoundIn F n P l f tmps a b w R:=by
 rcases h with rfl | ⟨l,rfl⟩ <;> exact hc
def mkMark (D:Nat):Deferred:={ target:=.collected D,args:=#[] }
structure B0 where
 n:Nat
 ds:List Deferred
def Df (b0:B0) (j:Inj) (bl:Bl) (ds:List Deferred) (w:World):Prop :=
 ∃ Ds:List Nat,ds=Ds.map mkMark++b0.ds∧Ds.Nodup∧∀ D∈Ds,b0.n≤D∧w.heap[D]? = some (.deferred (some []))∧∀ f l,Live bl f→j f=some l→l.blk≠D
theorem getElem?_lt {α:Type} {a:Array α} {i:Nat} {x:α} (h:a[i]? = some x):i < a.size:=(Array.getElem?_eq_some_iff.1 h).1
theorem Df.ext {b0:B0} {j j':Inj} {bl bl':Bl} {ds:List Deferred} {w w':World} (h:Df b0 j bl ds w) (hx:Ext j bl w j' bl' w'):Df b0 j' bl' ds w':=by
 obtain ⟨Ds,h1,h2,h3⟩:=h
 refine ⟨Ds,h1,h2,fun D hD=>?_⟩
 obtain ⟨g1,g2,g3⟩:=h3 D hD
 have hlt:=getElem?_lt g2
 refine ⟨g1,by rw [hx.keep D hlt g3]; exact g2,fun f l hl hj e=>?_⟩
 rcases hx.img f l hl hj with k1 | ⟨g,lg,k1,k2,k3⟩
 · omega
 · exact g3 g lg k1 k2 (k3.trans e)
structure SR (P:Env) (j:Inj) (nt:Nat) (tm:Tm) (h:H) (b0:B0) (a:Act) (w:World):Prop where
 tm:TmR j nt tm a.tmps
 rb:RB P j h.blk h.next.toN w
 df:Df b0 j h.blk a.defers w
 b0:b0.n≤w.heap.size
theorem SR.free {j:Inj} {nt:Nat} {tm:Tm} {h:H} {b0:B0} {a:Act} {w:World} (s:SR P j nt tm h b0 a w):j h.next=none:=s.rb.jnone (Nat.le_refl _)
theorem SR.put {j j':Inj} {nt:Nat} {tm:Tm} {h h':H} {b0:B0} {a:Act} {w w':World} (s:SR P j nt tm h b0 a w) {d:Option Tmp} (hd:dstOk nt d=true) {v:AV} {cv:Value} (hv:VR j' v cv)
 (hR:RB P j' h'.blk h'.next.toN w') (hx:Ext j h.blk w j' h'.blk w'):SR P j' nt (setDst (d.map Pos.ofNat) v tm) h' b0 (a.put d cv) w':=by
 refine ⟨?_,hR,?_,Nat.le_trans s.b0 hx.size⟩
 · cases d with
   | none=>exact s.tm.mono hx.le
   | some d=>exact (s.tm.mono hx.le).put (Nat.le_of_ble_eq_true hd) hv
 · cases d with
   | none=>exact s.df.ext hx
   | some d=>exact s.df.ext hx
def RetPost (P:Env) (j:Inj) (h:H) (w:World) (v:AV) (h':H):Ending→World→Prop :=
 fun e w'=>h.next.toN≤h'.next.toN∧∃ cv,e = .returned cv∧∃ j',VR j' v cv∧RB P j' h'.blk h'.next.toN w'∧Ext j h.blk w j' h'.blk w'
def CallsOk (P:Env) (call:CallF):Prop :=
 ∀ f args h v h',call f args h = .ok v h'→∀ w j,RB P j h.blk h.next.toN w →
  match f with
  | .fn f=>∀ vs:Array Value,VRs j args vs.toList→(callFunc f vs).run P w = .ok (.enter f vs) w∧∀ n,CallsIn Fence.wide n P f vs w (RetPost P j h w v h')
  | .yld l=>∀ lc (vs:Array Value),j l=some lc→VRs j args vs.toList→∃ f tmps assign body,(Instr.yield lc.blk vs).run P w = .ok (.round lc.blk f tmps assign body) w ∧
   ∀ n,RoundIn Fence.wide n P lc.blk f tmps assign body w (RetPost P j h w v h')
section
variable {F:Fence} {n nt:Nat} {b0:B0} {ops:Array Oper} {call:CallF} {j:Inj} {tm:Tm} {h:H} {a:Act} {w:World}
theorem wanted_spec (hT:TmR j nt tm a.tmps) {o:Oper} (hg:guardOk ops o.guard=true) {b:Bool} (hw:wantedA tm (o.guard.map fun g=>(((ops[g.1]?).bind (·.dst)).elim .h Pos.ofNat,g.2))=some b) :
 Region.wanted o (yielded ops a.tmps)=b:=by
 unfold Region.wanted
 cases hgd:o.guard with
 | none=>rw [hgd] at hw; cases hw; rfl
 | some g =>
  obtain ⟨i,want⟩:=g
  rw [hgd] at hw hg
  simp only [Option.map_some] at hw
  have hsome:((ops[i]?).bind (·.dst)).isSome=true:=hg
  obtain ⟨d,hd⟩:=Option.isSome_iff_exists.1 hsome
  rw [hd] at hw
  simp only [Option.elim_some] at hw
  unfold wantedA at hw
  simp only at hw ⊢
  cases ht:T.get (Pos.ofNat d) tm with
  | none=>rw [ht] at hw; cases hw
  | some v =>
   rw [ht] at hw
   obtain ⟨c,hc,hv⟩:=hT.2 d v ht
   cases v <;> simp only at hw <;> first | (cases hw; done) | skip
   · cases hv
     rename_i b'
     have hy:yielded ops a.tmps i=some b':=by simp [yielded,hd,hc]
     rw [hy]
     cases want <;> cases b' <;> cases hw <;> rfl
   · cases hv
     rename_i cs vs hvs
     have hy:yielded ops a.tmps i=none:=by simp [yielded,hd,hc]
     rw [hy]
     cases hw
     cases want <;> rfl
theorem oper_sound (hF:Fw F) (hcall:CallsOk P call) {o:Oper} {k:Tm→H→R} {e:Ex} {tm':Tm} {h':H} (hd:dstOk nt o.dst=true)
 (hr:outK call (o.dst.map Pos.ofNat) tm h k ((co P o).run tm h) = .ok e tm' h') (s:SR P j nt tm h b0 a w) {next:Act→World→Prop} {Q:Exit→Act→World→Prop}
 (hnext:∀ v h1 j1 cv w1,k (setDst (o.dst.map Pos.ofNat) v tm) h1 = .ok e tm' h'→h.next.toN≤h1.next.toN→SR P j1 nt (setDst (o.dst.map Pos.ofNat) v tm) h1 b0 (a.put o.dst cv) w1→Ext j h.blk w j1 h1.blk w1→next (a.put o.dst cv) w1) :
 o.wpIn F n P a w next Q:=by
 refine ⟨fun f _=>hF.fn f,?_⟩
 have hnd:∀ v h1,(co P o).run tm h = .val v h1→∀ c,o.op≠.defer c:=fun v h1 hv c hc=>by rw [co_defer hc] at hv; exact bad_val hv
 cases ho:(co P o).run tm h with
 | fail=>rw [ho] at hr; cases hr
 | val v h1 =>
  rw [ho] at hr
  have hr:k (setDst (o.dst.map Pos.ofNat) v tm) h1 = .ok e tm' h':=hr
  have hmono:=run_mono ho
  obtain ⟨cv,w1,nx,g1,g2,j1,g3,g4,g5⟩:=op_val (N:=h1.next.toN) s.tm s.rb s.free hmono ho (Nat.le_refl _)
  rw [Oper.semAt_eq _ _ _ (hnd v h1 ho),g1]
  have hs:=s.put hd g3 g4 g5
  rcases g2 with rfl | ⟨rfl,rfl⟩
  · exact hnext v h1 j1 cv w1 hr hmono hs g5
  · exact hnext v h1 j1 undef w1 hr hmono hs g5
 | call f args =>
  rw [ho] at hr
  have hr:backK (o.dst.map Pos.ofNat) tm k (call f args h) = .ok e tm' h':=hr
  have hnd:∀ c,o.op≠.defer c:=fun c hc=>by
   rw [co_defer hc] at ho
   cases (show Out.fail = .call f args from ho)
  rw [Oper.semAt_eq _ _ _ hnd]
  have hat:=op_call (w:=w) s.tm ho
  cases hc:call f args h with
  | fail=>rw [hc] at hr; cases hr
  | ok v h1 =>
   rw [hc] at hr
   have hr:k (setDst (o.dst.map Pos.ofNat) v tm) h1 = .ok e tm' h':=hr
   have hsound:=hcall f args h v h1 hc w j s.rb
   have hpost:∀ en w1,RetPost P j h w v h1 en w1→∃ cv,en = .returned cv∧next (a.put o.dst cv) w1:=fun en w1 ⟨hmono,cv,e1,j1,g3,g4,g5⟩ =>
    ⟨cv,e1,hnext v h1 j1 cv w1 hr hmono (s.put hd g3 g4 g5) g5⟩
   cases f with
   | fn f =>
    obtain ⟨vs,q1,q2⟩:=hat
    obtain ⟨q3,q4⟩:=hsound vs q2
    rw [q1,q3,Oper.uponIn_enter]
    refine ⟨hF.need n,CallsIn.mono (hF.calls (q4 _)) fun en w1 hp=>?_⟩
    obtain ⟨cv,rfl,hn⟩:=hpost en w1 hp
    exact hn
   | yld l =>
    obtain ⟨lc,vs,q0,q1,q2⟩:=hat
    obtain ⟨f,tmps,asg,body,q3,q4⟩:=hsound lc vs q0 q2
    rw [q1,q3,Oper.uponIn_round]
    refine ⟨hF.need n,RoundIn.mono (hF.rounds (q4 _)) fun en w1 hp=>?_⟩
    obtain ⟨cv,rfl,hn⟩:=hpost en w1 hp
    exact hn
theorem cOper_eq (o:Oper):(dstOk nt o.dst=true∧guardOk ops o.guard=true∧cOper P nt ops o={ dst:=o.dst.map Pos.ofNat,op:=co P o,guard:=o.guard.map fun g=>(((ops[g.1]?).bind (·.dst)).elim .h Pos.ofNat,g.2) }) ∨
 cOper P nt ops o={ dst:=none,op:=.bad,guard:=none }:=by
 unfold cOper
 split
 · rename_i hc; obtain ⟨h1,h2⟩:=and_true hc; exact .inl ⟨h1,h2,rfl⟩
 · exact .inr rfl
theorem Act.put_defers' (a:Act) (d:Option Tmp) (v:Value):(a.put d v).defers=a.defers:=by cases d <;> rfl
theorem ops_then (hF:Fw F) (hcall:CallsOk P call) {Q:Exit→Act→World→Prop} {e:Ex} {tm':Tm} {h':H} (is:List Nat):∀ (os:List Oper) (k:Nat),(∀ i,i < os.length→ops[k+i]? = os[i]?)→∀ (tm:Tm) (h:H) (j:Inj) (a:Act) (w:World),
 runOps call (os.map (cOper P nt ops)) tm h = .ok e tm' h'→SR P j nt tm h b0 a w→(e = .norm→∀ j' a' w',h.next.toN≤h'.next.toN→SR P j' nt tm' h' b0 a' w'→Ext j h.blk w j' h'.blk w'→a'.defers=a.defers→wpOpsIn F n P ops Q is a' w') →
 wpOpsIn F n P ops Q (List.range' k os.length++is) a w:=by
 intro os
 induction os with
 | nil =>
  intro k hk tm h j a w hr s hQ
  cases hr
  exact hQ rfl j a w (Nat.le_refl _) s (Ext.refl _ _ _) rfl
 | cons o os ih =>
  intro k hk tm h j a w hr s hQ
  have h0:ops[k]? = some o:=by have:=hk 0 (by simp); simpa using this
  have hk':∀ i,i < os.length→ops[k+1+i]? = os[i]?:=fun i hi=>by
   have:=hk (i+1) (by simp; omega)
   rw [show k+1+i=k+(i+1) by omega]
   simpa using this
  have hr:stepO call (cOper P nt ops o) (runOps call (os.map (cOper P nt ops))) tm h = .ok e tm' h':=hr
  rw [List.length_cons,List.range'_succ,List.cons_append]
  simp only [wpOpsIn,h0]
  rcases cOper_eq (P:=P) (nt:=nt) (ops:=ops) o with ⟨hd,hg,hc⟩ | hc
  · rw [hc,stepO_eq] at hr
    have hr:wantK call (o.dst.map Pos.ofNat) (co P o) tm h (runOps call (os.map (cOper P nt ops))) (wantedA tm (o.guard.map fun g=>(((ops[g.1]?).bind (·.dst)).elim .h Pos.ofNat,g.2))) = .ok e tm' h':=hr
    cases hw:wantedA tm (o.guard.map fun g=>(((ops[g.1]?).bind (·.dst)).elim .h Pos.ofNat,g.2)) with
    | none=>rw [hw] at hr; cases hr
    | some b =>
     have hwant:=wanted_spec s.tm hg hw
     rw [hw] at hr
     rw [hwant]
     cases b with
     | true =>
      have hr:outK call (o.dst.map Pos.ofNat) tm h (runOps call (os.map (cOper P nt ops))) ((co P o).run tm h) = .ok e tm' h':=hr
      simp only [if_true]
      refine oper_sound hF hcall hd hr s fun v h1 j1 cv w1 hk1 hmono hs hx=>?_
      exact ih (k+1) hk' _ _ _ _ _ hk1 hs fun he j2 a2 w2 hm2 hs2 hx2 hdd=>hQ he j2 a2 w2 (Nat.le_trans hmono hm2) hs2 (hx.trans hx2) (hdd.trans (Act.put_defers' _ _ _))
     | false =>
      have hr:runOps call (os.map (cOper P nt ops)) (setDst (o.dst.map Pos.ofNat) (.tup []) tm) h = .ok e tm' h':=hr
      simp only [Bool.false_eq_true,if_false]
      refine ⟨fun f _=>hF.fn f,?_⟩
      exact ih (k+1) hk' _ _ _ _ _ hr (s.put hd VRs.undef s.rb (Ext.refl _ _ _)) fun he j2 a2 w2 hm2 hs2 hx2 hdd=>hQ he j2 a2 w2 hm2 hs2 hx2 (hdd.trans (Act.put_defers' _ _ _))
  · rw [hc] at hr
    exact absurd hr (by intro h; cases h)
theorem ops_sound (hF:Fw F) (hcall:CallsOk P call) {Q:Exit→Act→World→Prop} {e:Ex} {tm':Tm} {h':H} (os:List Oper) (k:Nat) (hk:∀ i,i < os.length→ops[k+i]? = os[i]?) (tm:Tm) (h:H) (j:Inj) (a:Act) (w:World)
 (hr:runOps call (os.map (cOper P nt ops)) tm h = .ok e tm' h') (s:SR P j nt tm h b0 a w) (hQ:e = .norm→∀ j' a' w',h.next.toN≤h'.next.toN→SR P j' nt tm' h' b0 a' w'→Ext j h.blk w j' h'.blk w'→Q .normal a' w') :
 wpOpsIn F n P ops Q (List.range' k os.length) a w:=by
 have:=ops_then (P:=P) (nt:=nt) (ops:=ops) (n:=n) (Q:=Q) hF hcall [] os k hk tm h j a w hr s fun he j' a' w' h1 h2 h3 _=>hQ he j' a' w' h1 h2 h3
 rwa [List.append_nil] at this
end
end Go.Ev
namespace Go.Ev
variable {P:Env}
section
variable {o:CO} {tm tm':Tm} {h h':H} {v:AV}
theorem pure_run (ho:isPure o=true) (hr:o.run tm h = .val v h') (g:H):o.run tm g = .val v g:=by
 cases o <;> first | (cases ho; done) | skip
 all_goals simp only [CO.run,r_mv,r_pick,r_build,r_nilchk,r_bin,r_eqp,r_un,r_cvi,r_cvs,r_mkif,r_mkfn,r_slstr,r_slsl,r_fa,r_ia,r_iarr,r_fld,r_ixs,r_ixa,r_ext,r_len,r_lens,r_lenc,r_cap,r_mx,r_ta,r_ieq,r_sdata,r_xib,r_xct,slK,slL,outV] at hr ⊢
 all_goals repeat' split at hr
 all_goals first
  | (cases hr; done)
  | (cases hr; simp only [*]; done)
  | (cases hr; rfl)
  | skip
theorem load_run (ho:isLoad o=true) (hr:o.run tm h = .val v h'):h'=h:=by
 cases o <;> first | (cases ho; done) | skip
 all_goals simp only [CO.run,r_ld1,r_ldn,r_cvbs,r_lkp,r_lenm,r_slarr,r_cup,r_cpu,r_peq,slK,outV] at hr
 all_goals repeat' split at hr
 all_goals first
  | (cases hr; done)
  | (cases hr; rfl)
theorem alloc_run (ho:isAlloc o=true) (hr:o.run tm h = .val v h'):∃ b,h'=h.add b:=by
 cases o <;> first | (cases ho; done) | skip
 all_goals simp only [CO.run,r_alloc,r_box,r_bslice,r_mksl,r_mkmap,r_cvsb] at hr
 all_goals repeat' split at hr
 all_goals first
  | (cases hr; done)
  | (cases hr; exact ⟨_,rfl⟩)
theorem evs_congr {xs:List CA} (he:∀ x∈xs,x.ev tm=x.ev tm'):CA.evs tm xs=CA.evs tm' xs:=by
 induction xs with
 | nil=>rfl
 | cons x xs ih =>
  show x.ev tm :: CA.evs tm xs=x.ev tm' :: CA.evs tm' xs
  rw [he x (by simp),ih (fun y hy=>he y (by simp [hy]))]
theorem fillA_congr {ps:List (Nat × Nat × CA)} (he:∀ x∈ps.map (·.2.2),x.ev tm=x.ev tm'):∀ zs,fillA (fun x=>x.ev tm) zs ps=fillA (fun x=>x.ev tm') zs ps:=by
 induction ps with
 | nil=>intro zs; cases zs <;> rfl
 | cons p ps ih =>
  obtain ⟨off,n,x⟩:=p
  intro zs
  have hx:=he x (by simp)
  have ih':=ih (fun y hy=>he y (by simp at hy ⊢; exact .inr hy))
  simp only [fillA,hx,ih']
theorem bound_congr {x:Option CA} (he:∀ y∈optReads x,y.ev tm=y.ev tm') (y d:Nat):boundA tm y d x=boundA tm' y d x:=by
 cases x with
 | none=>rfl
 | some x=>simp only [boundA,he x (by simp [optReads])]
theorem slK_congr {lo hi m3:Option CA} (he:∀ y∈optReads lo++(optReads hi++optReads m3),y.ev tm=y.ev tm') (f:Pos) (k len cap:Nat) (ex:Bool) (sz:Nat):slK tm h f k len cap ex sz lo hi m3=slK tm' h f k len cap ex sz lo hi m3:=by
 have h1:∀ y d,boundA tm y d lo=boundA tm' y d lo:=bound_congr fun y hy=>he y (by simp [hy])
 have h2:∀ y d,boundA tm y d hi=boundA tm' y d hi:=bound_congr fun y hy=>he y (by simp [hy])
 have h3:∀ y d,boundA tm y d m3=boundA tm' y d m3:=bound_congr fun y hy=>he y (by simp [hy])
 simp only [slK,h1,h2,h3]
theorem slL_congr {lo hi m3:Option CA} (he:∀ y∈optReads lo++(optReads hi++optReads m3),y.ev tm=y.ev tm') (sz:Nat) (xs:List AV):slL tm h sz xs lo hi m3=slL tm' h sz xs lo hi m3:=by
 have h1:∀ y d,boundA tm y d lo=boundA tm' y d lo:=bound_congr fun y hy=>he y (by simp [hy])
 have h2:∀ y d,boundA tm y d hi=boundA tm' y d hi:=bound_congr fun y hy=>he y (by simp [hy])
 have h3:∀ y d,boundA tm y d m3=boundA tm' y d m3:=bound_congr fun y hy=>he y (by simp [hy])
 simp only [slL,h1,h2,h3]
theorem reads_congr (he:∀ x∈o.reads,x.ev tm=x.ev tm'):o.run tm h=o.run tm' h:=by
 cases o
 case build zs ps=>show r_build zs ps tm h=r_build zs ps tm' h; simp only [r_build,fillA_congr (by simpa [CO.reads] using he)]
 case bslice e sz n zs ps=>show r_bslice e sz n zs ps tm h=r_bslice e sz n zs ps tm' h; simp only [r_bslice,fillA_congr (by simpa [CO.reads] using he)]
 case mkfn f a b =>
  show r_mkfn f a b tm h=r_mkfn f a b tm' h
  simp only [r_mkfn,evs_congr (xs:=a) (fun x hx=>he x (by simp [CO.reads,hx])),evs_congr (xs:=b) (fun x hx=>he x (by simp [CO.reads,hx]))]
 case mx m xs=>show r_mx m xs tm h=r_mx m xs tm' h; simp only [r_mx,evs_congr (xs:=xs) he]
 case call f as=>show r_call f as tm h=r_call f as tm' h; simp only [r_call,evs_congr (xs:=as) he]
 case callv f as=>show r_callv f as tm h=r_callv f as tm' h; simp only [r_callv,he f (by simp [CO.reads]),evs_congr (xs:=as) (fun x hx=>he x (by simp [CO.reads,hx]))]
 case slstr x lo hi =>
  show r_slstr x lo hi tm h=r_slstr x lo hi tm' h
  have h1:∀ y d,boundA tm y d lo=boundA tm' y d lo:=bound_congr fun y hy=>he y (by simp [CO.reads,hy])
  have h2:∀ y d,boundA tm y d hi=boundA tm' y d hi:=bound_congr fun y hy=>he y (by simp [CO.reads,hy])
  simp only [r_slstr,he x (by simp [CO.reads]),h1,h2]
 case slsl sz x lo hi m3 =>
  show r_slsl sz x lo hi m3 tm h=r_slsl sz x lo hi m3 tm' h
  have h1:∀ y d,boundA tm y d lo=boundA tm' y d lo:=bound_congr fun y hy=>he y (by simp [CO.reads,hy])
  have h2:∀ y d,boundA tm y d hi=boundA tm' y d hi:=bound_congr fun y hy=>he y (by simp [CO.reads,hy])
  have h3:∀ y d,boundA tm y d m3=boundA tm' y d m3:=bound_congr fun y hy=>he y (by simp [CO.reads,hy])
  simp only [r_slsl,he x (by simp [CO.reads]),h1,h2,h3,slK_congr (lo:=lo) (hi:=hi) (m3:=m3) (fun y hy=>he y (by simp [CO.reads]; simp at hy; exact .inr hy)),slL_congr (lo:=lo) (hi:=hi) (m3:=m3) (fun y hy=>he y (by simp [CO.reads]; simp at hy; exact .inr hy))]
 case slarr n sz x lo hi m3 =>
  show r_slarr n sz x lo hi m3 tm h=r_slarr n sz x lo hi m3 tm' h
  simp only [r_slarr,he x (by simp [CO.reads]),slK_congr (lo:=lo) (hi:=hi) (m3:=m3) (fun y hy=>he y (by simp [CO.reads]; simp at hy; exact .inr hy))]
 all_goals simp only [CO.reads,List.mem_cons,List.not_mem_nil,or_false,forall_eq_or_imp,forall_eq] at he
 all_goals simp only [CO.run,r_bad,r_mv,r_pick,r_box,r_alloc,r_ld1,r_ldn,r_st,r_nilchk,r_bin,r_eqp,r_un,r_cvi,r_cvs,r_cvbs,r_cvsb,r_mkif,r_mkmap,r_mksl,
  r_fa,r_ia,r_iarr,r_fld,r_ixs,r_ixa,r_lkp,r_mupd,r_rngs,r_nxts,r_rngm,r_nxtm,r_ext,r_len,r_lens,r_lenm,r_lenc,r_cap,r_app,r_appz,r_cpy,r_clr,r_ta,r_peq,r_ieq,r_cup,r_cpu,r_sdata,r_ustr,r_xib,r_xct,r_xmk,r_ment,r_mest,he]
theorem boolEq_eq {a b:Bool} (h:boolEq a b=true):a=b:=by cases a <;> cases b <;> first | rfl | cases h
theorem posEq_eq:∀ {p q:Pos},posEq p q=true→p=q:=by
 intro p
 induction p with
 | h=>intro q h; cases q <;> first | rfl | cases h
 | o p ih=>intro q h; cases q <;> first | (rw [ih h]) | cases h
 | i p ih=>intro q h; cases q <;> first | (rw [ih h]) | cases h
theorem listB_eq {α:Type} {eq:α→α→Bool} (he:∀ x y,eq x y=true→x=y):∀ {xs ys:List α},listB eq xs ys=true→xs=ys:=by
 intro xs
 induction xs with
 | nil=>intro ys h; cases ys with | nil=>rfl | cons=>cases h
 | cons x xs ih =>
  intro ys h
  cases ys with
  | nil=>cases h
  | cons y ys =>
   obtain ⟨h1,h2⟩:=and_true (show and (eq x y) (listB eq xs ys)=true from h)
   rw [he _ _ h1,ih h2]
theorem strEq_eq':∀ {a b:List Nat},strEq a b=true→a=b:=by
 intro a
 induction a with
 | nil=>intro b h; cases b with | nil=>rfl | cons=>cases h
 | cons x xs ih =>
  intro b h
  cases b with
  | nil=>cases h
  | cons y ys =>
   have h:(Bool.rec false (strEq xs ys) (Nat.beq x y))=true:=h
   cases hb:Nat.beq x y with
   | false=>rw [hb] at h; cases h
   | true=>rw [hb] at h; rw [Nat.eq_of_beq_eq_true hb,ih h]
theorem optN_eq {a b:Option Nat} (h:optN a b=true):a=b:=by
 cases a <;> cases b <;> first | rfl | (cases h; done) | rw [Nat.eq_of_beq_eq_true h]
theorem avDeep_eq {rec:AV→AV→Bool} (hr:∀ x y,rec x y=true→x=y) (x y:AV) (h:avDeep rec x y=true):x=y:=by
 unfold avDeep at h
 split at h
 all_goals first
  | rfl
  | (cases h; done)
  | (rw [boolEq_eq h]; done)
  | (rw [strEq_eq' h]; done)
  | (rw [posEq_eq h]; done)
  | (rw [listB_eq hr h]; done)
  | (rw [Nat.eq_of_beq_eq_true h]; done)
  | skip
 · obtain ⟨h1,h2⟩:=and_true h
   have:=(kindEq_iff _ _).1 h1
   rw [ibeq_eq] at h2
   rw [this,eq_of_beq h2]
 · obtain ⟨h1,h2⟩:=and_true h
   rw [posEq_eq h1,Nat.eq_of_beq_eq_true h2]
 · obtain ⟨h1,h2⟩:=and_true h
   obtain ⟨h2,h3⟩:=and_true h2
   obtain ⟨h3,h4⟩:=and_true h3
   obtain ⟨h4,h5⟩:=and_true h4
   obtain ⟨h5,h6⟩:=and_true h5
   rw [posEq_eq h1,Nat.eq_of_beq_eq_true h2,Nat.eq_of_beq_eq_true h3,Nat.eq_of_beq_eq_true h4,boolEq_eq h5,Nat.eq_of_beq_eq_true h6]
 · obtain ⟨h1,h2⟩:=and_true h
   obtain ⟨h2,h3⟩:=and_true h2
   rw [Nat.eq_of_beq_eq_true h1,listB_eq hr h2,listB_eq hr h3]
 · obtain ⟨h1,h2⟩:=and_true h
   rw [Nat.eq_of_beq_eq_true h1,hr _ _ h2]
 · obtain ⟨h1,h2⟩:=and_true h
   rw [optN_eq h1,listB_eq hr h2]
 · obtain ⟨h1,h2⟩:=and_true h
   rw [listB_eq hr h1,listB_eq hr h2]
theorem avSame_eq {x y:AV} (hs:avSame x y=true):x=y :=
 avDeep_eq (avDeep_eq (avDeep_eq (avDeep_eq (avDeep_eq (avDeep_eq (avDeep_eq (avDeep_eq (avDeep_eq (avDeep_eq (avDeep_eq (avDeep_eq fun _ _ h=>by cases h))))))))))) x y hs
end
end Go.Ev
namespace Go.Ev
variable {P:Env}
section
variable {j j':Inj} {bl bl1 bl1':Bl} {n N:Nat} {w w':World}
def Bl.over (bl1 bl:Bl):Bl:=fun f=>match bl1 f with
 | some b=>some b
 | none=>bl f
theorem Bl.over_some {f:Pos} {b:Blk} (h:bl1 f=some b):bl1.over bl f=some b:=by simp [Bl.over,h]
theorem Bl.over_none {f:Pos} (h:bl1 f=none):bl1.over bl f=bl f:=by simp [Bl.over,h]
theorem Bl.over_sub (h:∀ f b,bl1 f=some b→bl f=some b):bl1.over bl=bl:=by
 funext f
 cases hb:bl1 f with
 | none=>exact Bl.over_none hb
 | some b=>rw [Bl.over_some hb,h f b hb]
theorem RB.frame (hR:RB P j bl n w) (hsub:∀ f b,bl1 f=some b→bl f=some b) (hR':RB P j' bl1' N w') (hx:Ext j bl1 w j' bl1' w') :
 RB P j' (bl1'.over bl) N w'∧Ext j bl w j' (bl1'.over bl) w':=by
 have liveSub:∀ f,Live bl1 f→Live bl f:=fun f ⟨b,h1,h2⟩=>⟨b,hsub f b h1,h2⟩
 have other:∀ f,bl1' f=none→∀ b,bl f=some b→b.live→∃ l,j f=some l∧l.blk < w.heap.size∧(∀ g lg,Live bl1 g→j g=some lg→lg.blk≠l.blk)∧BlkR P j b l w:=by
  intro f hf b hb hlive
  obtain ⟨l,h1,h2,h3⟩:=hR.blk f b hb
  refine ⟨l,h1,h2 hlive,fun g lg hg hj e=>?_,h3⟩
  have:=hR.apart g f lg l (liveSub g hg) ⟨b,hb,hlive⟩ hj h1 e
  subst this
  obtain ⟨b1,hb1,_⟩:=hg
  rw [hx.mono g hf] at hb1; cases hb1
 have cases':∀ f,Live (bl1'.over bl) f→(Live bl1' f)∨(bl1' f=none∧∃ b,bl f=some b∧b.live):=by
  intro f ⟨b,h1,h2⟩
  cases hb:bl1' f with
  | some b'=>rw [Bl.over_some hb] at h1; cases h1; exact .inl ⟨_,hb,h2⟩
  | none=>rw [Bl.over_none hb] at h1; exact .inr ⟨rfl,b,h1,h2⟩
 have mixed:∀ f g lf lg,Live bl1' f→j' f=some lf→bl1' g=none→(∃ b,bl g=some b∧b.live)→j' g=some lg→lf.blk≠lg.blk:=by
  intro f g lf lg hf jf hg ⟨b,hb,hbl⟩ jg e
  obtain ⟨l,h1,h2,h3,_⟩:=other g hg b hb hbl
  rw [hx.le g l h1] at jg; cases jg
  rcases hx.img f lf hf jf with k1 | ⟨g0,lg0,k1,k2,k3⟩
  · omega
  · exact h3 g0 lg0 k1 k2 (k3.trans e)
 have farO:∀ f l,Live (bl1'.over bl) f→j' f=some l→P.n0≤l.blk:=fun f l hf jf=>by
  rcases cases' f hf with hf | ⟨hf,b,hb,hbl⟩
  · exact hR'.far f l hf jf
  · obtain ⟨l0,h1,_⟩:=other f hf b hb hbl
    have:=hx.le f l0 h1
    rw [jf] at this; cases this
    exact hR.far f l ⟨b,hb,hbl⟩ h1
 have iceO:∀ b o,j'.fro b=some o→∀ f l,Live (bl1'.over bl) f→j' f=some l→l.blk≠b:=fun b o hb f l hf jf e=>by
  rcases cases' f hf with hf | ⟨hf,c,hc,hcl⟩
  · exact (hR'.ice b o hb).2.2 f l hf jf e
  · obtain ⟨l0,h1,h2,h3,_⟩:=other f hf c hc hcl
    have:=hx.le f l0 h1
    rw [jf] at this; cases this
    rcases hx.ice b o hb with k1 | k1 | ⟨g,lg,k1,k2,k3⟩
    · exact (hR.ice b o k1).2.2 f l ⟨c,hc,hcl⟩ h1 e
    · omega
    · exact h3 g lg k1 k2 (k3.trans e.symm)
 refine ⟨⟨hR'.fresh,fun f b hb=>?_,fun f g lf lg hf hg jf jg e=>?_,farO,fun b o hb=>⟨(hR'.ice b o hb).1,(hR'.ice b o hb).2.1,iceO b o hb⟩,hR'.size,hR'.inv⟩,⟨hx.le,hx.size,fun k hk hk'=>hx.keep k hk fun f l hl hj=>hk' f l (liveSub f hl) hj,fun f l hf hj=>?_,hx.os,hx.output,hx.tape,fun f h1 h2=>?_,fun f h1=>?_,fun b o hb=>?_⟩⟩
 · cases hb1:bl1' f with
   | some b'=>rw [Bl.over_some hb1] at hb; cases hb; exact hR'.blk f _ hb1
   | none =>
    rw [Bl.over_none hb1] at hb
    obtain ⟨l,h1,h2,h3⟩:=hR.blk f b hb
    refine ⟨l,hx.le f l h1,fun hl=>Nat.lt_of_lt_of_le (h2 hl) hx.size,?_⟩
    cases b with
    | dead=>trivial
    | ice _ _ _=>exact h3.iceKeep hx.le
    | imap _=>exact h3.imapKeep hx.le
    | _ =>
     obtain ⟨l2,g1,g2,g3,_⟩:=other f hb1 _ hb trivial
     rw [h1] at g1; cases g1
     exact h3.keep hx.le (hx.keep _ g2 g3)
 · rcases cases' f hf with hf | ⟨hf,hf'⟩
   · rcases cases' g hg with hg | ⟨hg,hg'⟩
     · exact hR'.apart f g lf lg hf hg jf jg e
     · exact absurd e (mixed f g lf lg hf jf hg hg' jg)
   · rcases cases' g hg with hg | ⟨hg,hg'⟩
     · exact absurd e.symm (mixed g f lg lf hg jg hf hf' jf)
     · obtain ⟨b,hb,hbl⟩:=hf'
       obtain ⟨b2,hb2,hbl2⟩:=hg'
       obtain ⟨l1,h1,_⟩:=other f hf b hb hbl
       obtain ⟨l2,h2,_⟩:=other g hg b2 hb2 hbl2
       have h1':=hx.le _ _ h1
       have h2':=hx.le _ _ h2
       rw [jf] at h1'; cases h1'
       rw [jg] at h2'; cases h2'
       exact hR.apart f g lf lg ⟨b,hb,hbl⟩ ⟨b2,hb2,hbl2⟩ h1 h2 e
 · rcases cases' f hf with hf | ⟨hf,b,hb,hbl⟩
   · rcases hx.img f l hf hj with h | ⟨g,lg,h1,h2,h3⟩
     · exact .inl h
     · exact .inr ⟨g,lg,liveSub g h1,h2,h3⟩
   · obtain ⟨l1,h1,_⟩:=other f hf b hb hbl
     have h1':=hx.le _ _ h1
     rw [hj] at h1'; cases h1'
     exact .inr ⟨f,l,⟨b,hb,hbl⟩,h1,rfl⟩
 · cases hb1:bl1' f with
   | some b'=>rw [Bl.over_some hb1] at h2; cases h2
   | none=>exact hx.dom f h1 hb1
 · cases hb1:bl1' f with
   | some b'=>rw [Bl.over_some hb1] at h1; cases h1
   | none=>rwa [Bl.over_none hb1] at h1
 · rcases hx.ice b o hb with k1 | k1 | ⟨g,lg,k1,k2,k3⟩
   · exact .inl k1
   · exact .inr (.inl k1)
   · exact .inr (.inr ⟨g,lg,liveSub g k1,k2,k3⟩)
end
end Go.Ev
namespace Go.Ev
variable {P:Env}
theorem bit_eq (m i:Nat):bit m i=m.testBit i:=by
 unfold bit
 have h:Nat.testBit m i=((m >>> i) &&& 1 != 0):=by rw [Nat.testBit]; rw [Nat.and_comm]
 rw [h]
 have h2:Nat.land (Nat.shiftRight m i) 1=(m >>> i) &&& 1:=rfl
 rw [h2,Nat.and_one_is_mod]
 have:(m >>> i) % 2=0∨(m >>> i) % 2=1:=by omega
 rcases this with e | e <;> rw [e] <;> rfl
theorem bit_withBit (m i w:Nat):bit (withBit m i) w=true↔bit m w=true∨w=i:=by
 rw [bit_eq,bit_eq]
 show Nat.testBit (m ||| (1 <<< i)) w=true↔_
 rw [Nat.testBit_or,Nat.one_shiftLeft,Nat.testBit_two_pow,Bool.or_eq_true,decide_eq_true_iff]
 exact ⟨fun h=>h.imp id Eq.symm,fun h=>h.imp id Eq.symm⟩
theorem bit_lor (a b w:Nat):bit (Nat.lor a b) w=true↔bit a w=true∨bit b w=true:=by
 rw [bit_eq,bit_eq,bit_eq]
 show Nat.testBit (a ||| b) w=true↔_
 rw [Nat.testBit_or]; simp
theorem bit_zero (w:Nat):bit 0 w=false:=by rw [bit_eq]; simp
theorem subMask_spec {a b:Nat} (h:subMask a b=true) {w:Nat} (hw:bit a w=true):bit b w=true:=by
 have h':a &&& b=a:=Nat.eq_of_beq_eq_true h
 rw [bit_eq] at hw ⊢
 have:(a &&& b).testBit w=true:=by rw [h']; exact hw
 rw [Nat.testBit_and] at this
 simp at this
 exact this.2
theorem bit_full (n i:Nat):bit (Nat.sub (Nat.shiftLeft 1 n) 1) i=true↔i < n:=by
 rw [bit_eq]
 show Nat.testBit ((1 <<< n) - 1) i=true↔_
 rw [Nat.one_shiftLeft,Nat.testBit_two_pow_sub_one]; simp
theorem edgeMask_spec (acc:T Nat):∀ (es:List Edge) (m w:Nat),bit (edgeMask acc es m) w=true→bit m w=true∨∃ e∈es,Region.binds .any e=true∧(w=e.on∨bit (mkAt acc e.on) w=true):=by
 intro es
 induction es with
 | nil=>intro m w h; exact .inl h
 | cons e es ih =>
  intro m w h
  unfold edgeMask at h
  split at h
  · rename_i hb
    rcases ih _ _ h with h1 | ⟨e',h1,h2,h3⟩
    · rcases (bit_withBit _ _ _).1 h1 with h2 | h2
      · rcases (bit_lor _ _ _).1 h2 with h3 | h3
        · exact .inl h3
        · exact .inr ⟨e,by simp,hb,.inr h3⟩
      · exact .inr ⟨e,by simp,hb,.inl h2⟩
    · exact .inr ⟨e',by simp [h1],h2,h3⟩
  · rcases ih _ _ h with h1 | ⟨e',h1,h2,h3⟩
    · exact .inl h1
    · exact .inr ⟨e',by simp [h1],h2,h3⟩
theorem edgeMask_mono (acc:T Nat):∀ (es:List Edge) (m w:Nat),bit m w=true→bit (edgeMask acc es m) w=true:=by
 intro es
 induction es with
 | nil=>intro m w h; exact h
 | cons e es ih =>
  intro m w h
  unfold edgeMask
  split
  · exact ih _ _ ((bit_withBit _ _ _).2 (.inl ((bit_lor _ _ _).2 (.inl h))))
  · exact ih _ _ h
theorem edgeMask_on (acc:T Nat):∀ (es:List Edge) (m:Nat) (e:Edge),e∈es→Region.binds .any e=true→bit (edgeMask acc es m) e.on=true:=by
 intro es
 induction es with
 | nil=>intro m e he; cases he
 | cons e' es ih =>
  intro m e he hb
  unfold edgeMask
  rcases List.mem_cons.1 he with rfl | he
  · rw [hb]
    exact edgeMask_mono _ _ _ _ ((bit_withBit _ _ _).2 (.inr rfl))
  · split <;> exact ih _ e he hb
theorem mkAt_set {acc:T Nat} {i m k:Nat}:mkAt (T.set m (Pos.ofNat i) acc) k=if k=i then m else mkAt acc k:=by
 unfold mkAt
 rw [T.get_set_if]
 by_cases h:i=k
 · subst h; simp
 · rw [if_neg (fun e=>h (Pos.ofNat_inj e)),if_neg (Ne.symm h)]
theorem masksOf_other:∀ (os:List Oper) (i:Nat) (acc:T Nat) (k:Nat),k < i→mkAt (masksOf os i acc) k=mkAt acc k:=by
 intro os
 induction os with
 | nil=>intro i acc k _; rfl
 | cons o os ih =>
  intro i acc k hk
  show mkAt (masksOf os (i+1) _) k=_
  rw [ih (i+1) _ k (by omega),mkAt_set,if_neg (by omega)]
theorem masksOf_spec:∀ (os:List Oper) (i:Nat) (acc:T Nat),(∀ k,i≤k→mkAt acc k=0)→∀ (k:Nat) (o:Oper),os[k]? = some o →
 (∀ e∈o.after,Region.binds .any e=true→bit (mkAt (masksOf os i acc) (i+k)) e.on=true) ∧
 (∀ w,bit (mkAt (masksOf os i acc) (i+k)) w=true→∃ e∈o.after,Region.binds .any e=true∧(w=e.on∨(e.on < i+k∧bit (mkAt (masksOf os i acc) e.on) w=true))):=by
 intro os
 induction os with
 | nil=>intro i acc _ k o h; simp at h
 | cons o' os ih =>
  intro i acc hacc k o hk
  show (∀ e∈o.after,_→bit (mkAt (masksOf os (i+1) (T.set (edgeMask acc o'.after.toList 0) (Pos.ofNat i) acc)) (i+k)) e.on=true)∧(∀ w,bit (mkAt (masksOf os (i+1) (T.set (edgeMask acc o'.after.toList 0) (Pos.ofNat i) acc)) (i+k)) w=true→∃ e∈o.after,Region.binds .any e=true∧(w=e.on∨(e.on < i+k∧bit (mkAt (masksOf os (i+1) (T.set (edgeMask acc o'.after.toList 0) (Pos.ofNat i) acc)) e.on) w=true)))
  cases k with
  | zero =>
   simp at hk
   subst hk
   have hm:mkAt (masksOf os (i+1) (T.set (edgeMask acc o'.after.toList 0) (Pos.ofNat i) acc)) (i+0)=edgeMask acc o'.after.toList 0:=by
    rw [masksOf_other _ _ _ _ (by omega),mkAt_set]; simp
   rw [hm]
   refine ⟨fun e he hb=>edgeMask_on acc _ _ e (by simpa using he) hb,fun w hw=>?_⟩
   rcases edgeMask_spec acc _ _ _ hw with h | ⟨e,h1,h2,h3⟩
   · rw [bit_zero] at h; cases h
   · refine ⟨e,by simpa using h1,h2,?_⟩
     rcases h3 with h3 | h3
     · exact .inl h3
     · by_cases hlt:e.on < i
       · refine .inr ⟨by omega,?_⟩
         rw [masksOf_other _ _ _ _ (by omega),mkAt_set,if_neg (by omega)]
         exact h3
       · rw [hacc e.on (by omega),bit_zero] at h3; cases h3
  | succ k =>
   have h0:∀ k,i+1≤k→mkAt (T.set (edgeMask acc o'.after.toList 0) (Pos.ofNat i) acc) k=0:=fun k hk=>by
    rw [mkAt_set,if_neg (by omega)]; exact hacc k (by omega)
   obtain ⟨h1,h2⟩:=ih (i+1) _ h0 k o (by simpa using hk)
   rw [show i+1+k=i+(k+1) by omega] at h1 h2
   exact ⟨h1,h2⟩
theorem writersOf_spec:∀ (os:List Oper) (i:Nat) (acc wr:T Nat),writersOf os i acc=some wr →
 (∀ p k,T.get p acc=some k→T.get p wr=some k)∧(∀ (k:Nat) (o:Oper) (d:Nat),os[k]? = some o→o.dst=some d→T.get (Pos.ofNat d) wr=some (i+k)):=by
 intro os
 induction os with
 | nil=>intro i acc wr h; cases h; exact ⟨fun _ _ h=>h,fun k o d h=>by simp at h⟩
 | cons o os ih =>
  intro i acc wr h
  unfold writersOf at h
  split at h
  · rename_i hd
    obtain ⟨h1,h2⟩:=ih _ _ _ h
    refine ⟨h1,fun k o' d hk ho=>?_⟩
    cases k with
    | zero=>simp at hk; subst hk; rw [hd] at ho; cases ho
    | succ k=>have:=h2 k o' d (by simpa using hk) ho; rw [this]; congr 1; show i+1+k=i+(k+1); omega
  · rename_i d0 hd
    split at h
    · cases h
    · rename_i hnone
      obtain ⟨h1,h2⟩:=ih _ _ _ h
      refine ⟨fun p k hp=>h1 p k ?_,fun k o' d hk ho=>?_⟩
      · rw [T.get_set_if,if_neg ?_]
        · exact hp
        · intro e; rw [e,hp] at hnone; cases hnone
      · cases k with
        | zero =>
         simp at hk; subst hk
         rw [hd] at ho; cases ho
         exact h1 _ _ (T.get_set _ _ _)
        | succ k=>have:=h2 k o' d (by simpa using hk) ho; rw [this]; congr 1; show i+1+k=i+(k+1); omega
end Go.Ev
namespace Go.Ev
variable {P:Env}
def isWr (d:DOp):Bool:=match d.kind with
 | .write=>true
 | _=>false
def nWr:List DOp→Nat
 | []=>0
 | d :: ds=>match isWr d with
  | true=>nWr ds+1
  | false=>nWr ds
theorem nWr_append (a b:List DOp):nWr (a++b)=nWr a+nWr b:=by
 induction a with
 | nil=>simp [nWr]
 | cons d a ih =>
  simp only [List.cons_append,nWr]
  cases isWr d <;> simp [ih] <;> omega
theorem nWr_one (d:DOp):nWr [d]=if isWr d=true then 1 else 0:=by
 simp only [nWr]; cases isWr d <;> simp
theorem countA_append (a b:List DOp):countA (a++b)=countA a+countA b:=by
 induction a with
 | nil=>simp [countA]
 | cons d a ih =>
  simp only [List.cons_append,countA]
  cases d.kind <;> simp [ih] <;> omega
def PairFact (masks:T Nat) (i w:Nat):Prop:=w≠i∧(bit (mkAt masks i) w=true∨bit (mkAt masks w) i=true)
structure DFact (masks wr:T Nat) (n:Nat) (pre:List DOp) (d:DOp):Prop where
 lt:d.ix < n
 new:∀ d'∈pre,d'.ix≠d.ix
 anc:∀ w,bit (mkAt masks d.ix) w=true→∃ d'∈pre,d'.ix=w
 reads:∀ p,CA.t p∈d.c.op.reads→∀ w,T.get p wr=some w→PairFact masks d.ix w
 guard:∀ g,d.c.guard=some g→∀ w,T.get g.1 wr=some w→PairFact masks d.ix w
 kind:match d.kind with
  | .pure=>isPure d.c.op=true
  | .load s c as=>isLoad d.c.op=true∧s=nWr pre∧1≤c∧c≤s+1∧(∀ p1 d' p2,pre=p1++d' :: p2→isWr d'=true→nWr p1+c=s→bit (mkAt masks d.ix) d'.ix=true) ∧
   (∀ x∈as,∃ p1 d' p2,pre=p1++d' :: p2∧d'.kind = .alloc x.1∧x.2.1=nWr p1∧bit (mkAt masks d.ix) d'.ix=true)
  | .alloc q=>isAlloc d.c.op=true∧q=countA pre
  | .write=>∀ d'∈pre,bit (mkAt masks d.ix) d'.ix=true
structure Acc (pre:List DOp) (done:Nat) (ws:List Nat) (al:List (Nat × Nat × Nat)):Prop where
 done:∀ i,bit done i=true↔∃ d∈pre,d.ix=i
 wlen:ws.length=nWr pre
 ws:∀ p1 d p2,pre=p1++d :: p2→isWr d=true→ws[ws.length - 1 - nWr p1]? = some d.ix
 alen:al.length=countA pre
 al:∀ x∈al,∃ p1 d p2,pre=p1++d :: p2∧d.kind = .alloc x.1∧d.ix=x.2.2∧x.2.1=nWr p1
theorem caOk_spec {masks wr:T Nat} {i:Nat} {p:Pos} (h:caOk masks wr i (.t p)=true):∀ w,T.get p wr=some w→PairFact masks i w:=by
 intro w hw
 have h:(match T.get p wr with | some w=>and (not (Nat.beq w i)) (or (bit (mkAt masks i) w) (bit (mkAt masks w) i)) | none=>true)=true:=h
 rw [hw] at h
 obtain ⟨h1,h2⟩:=and_true h
 refine ⟨fun e=>by subst e; simp at h1,?_⟩
 cases hb:bit (mkAt masks i) w with
 | true=>exact .inl rfl
 | false=>rw [hb] at h2; exact .inr (by simpa using h2)
theorem casOk_spec {masks wr:T Nat} {i:Nat}:∀ {xs:List CA},casOk masks wr i xs=true→∀ x∈xs,caOk masks wr i x=true:=by
 intro xs
 induction xs with
 | nil=>intro _ x hx; cases hx
 | cons y ys ih =>
  intro h x hx
  obtain ⟨h1,h2⟩:=and_true (show and (caOk masks wr i y) (casOk masks wr i ys)=true from h)
  rcases List.mem_cons.1 hx with rfl | hx
  · exact h1
  · exact ih h2 x hx
theorem triIn_spec {x:Nat × Nat × Nat}:∀ {l:List (Nat × Nat × Nat)},triIn x l=true→x∈l:=by
 intro l
 induction l with
 | nil=>intro h; cases h
 | cons y ys ih =>
  intro h
  have h:or (triEq x y) (triIn x ys)=true:=h
  cases he:triEq x y with
  | true =>
   obtain ⟨h1,h2⟩:=and_true (show and (Nat.beq x.1 y.1) (and (Nat.beq x.2.1 y.2.1) (Nat.beq x.2.2 y.2.2))=true from he)
   obtain ⟨h3,h4⟩:=and_true h2
   have:x=y:=Prod.ext (Nat.eq_of_beq_eq_true h1) (Prod.ext (Nat.eq_of_beq_eq_true h3) (Nat.eq_of_beq_eq_true h4))
   rw [this]; simp
  | false=>rw [he] at h; exact List.mem_cons_of_mem _ (ih (by simpa using h))
theorem asOk_spec {m:Nat} {al:List (Nat × Nat × Nat)}:∀ {as:List (Nat × Nat × Nat)},asOk m al as=true→∀ x∈as,x∈al∧bit m x.2.2=true:=by
 intro as
 induction as with
 | nil=>intro _ x hx; cases hx
 | cons y ys ih =>
  intro h x hx
  obtain ⟨h1,h2⟩:=and_true (show and (and (triIn y al) (bit m y.2.2)) (asOk m al ys)=true from h)
  obtain ⟨h3,h4⟩:=and_true h1
  rcases List.mem_cons.1 hx with rfl | hx
  · exact ⟨triIn_spec h3,h4⟩
  · exact ih h2 x hx
theorem snoc_split {α:Type} {pre p1 p2:List α} {d d':α} (h:pre ++ [d]=p1++d' :: p2):(p1=pre∧d'=d∧p2 = [])∨∃ p2',p2=p2' ++ [d]∧pre=p1++d' :: p2':=by
 rcases List.eq_nil_or_concat p2 with rfl | ⟨p2',x,rfl⟩
 · have h1:=List.append_inj' h rfl
   simp at h1
   exact .inl ⟨h1.1.symm,h1.2.symm,rfl⟩
 · have h':pre ++ [d]=(p1++d' :: p2') ++ [x]:=by simpa [List.append_assoc] using h
   have h1:=List.append_inj' h' rfl
   simp at h1
   exact .inr ⟨p2',by rw [h1.2]; simp,h1.1⟩
theorem Acc.snoc {pre:List DOp} {done:Nat} {ws:List Nat} {al:List (Nat × Nat × Nat)} (h:Acc pre done ws al) (d:DOp):Acc (pre ++ [d]) (withBit done d.ix) (nextWs d.ix ws d.kind) (nextAl d.ix ws al d.kind):=by
 have hwl:(nextWs d.ix ws d.kind).length=nWr (pre ++ [d]):=by
  rw [nWr_append,nWr_one]
  unfold nextWs isWr
  cases d.kind <;> simp [h.wlen]
 refine ⟨fun i=>?_,hwl,fun p1 d' p2 he hw=>?_,?_,fun x hx=>?_⟩
 · rw [bit_withBit,h.done]
   simp only [List.mem_append,List.mem_singleton]
   constructor
   · rintro (⟨d',h1,h2⟩ | rfl)
     · exact ⟨d',.inl h1,h2⟩
     · exact ⟨d,.inr rfl,rfl⟩
   · rintro ⟨d',h1 | rfl,h2⟩
     · exact .inl ⟨d',h1,h2⟩
     · exact .inr h2.symm
 · rcases snoc_split he with ⟨rfl,rfl,rfl⟩ | ⟨p2',rfl,hpre⟩
   · have hk:d'.kind = .write:=by unfold isWr at hw; split at hw <;> first | assumption | cases hw
     rw [hk]
     simp [nextWs,h.wlen]
   · have old:=h.ws p1 d' p2' hpre hw
     have hlt:nWr p1 < ws.length:=by rw [h.wlen,hpre,nWr_append]; simp [nWr,hw]
     unfold nextWs
     split
     · rw [List.length_cons,show ws.length+1 - 1 - nWr p1=(ws.length - 1 - nWr p1)+1 by omega]
       simpa using old
     · exact old
 · rw [countA_append]
   unfold nextAl
   cases hk:d.kind <;> simp [countA,hk,h.alen]
 · have:x∈al∨(∃ q,d.kind = .alloc q∧x=(q,ws.length,d.ix)):=by
    unfold nextAl at hx
    split at hx
    · rename_i q hk
      rcases List.mem_cons.1 hx with rfl | hx
      · exact .inr ⟨q,hk,rfl⟩
      · exact .inl hx
    · exact .inl hx
   rcases this with hx | ⟨q,hk,rfl⟩
   · obtain ⟨p1,d',p2,h1,h2⟩:=h.al x hx
     exact ⟨p1,d',p2 ++ [d],by rw [h1]; simp,h2⟩
   · exact ⟨pre,d,[],rfl,hk,rfl,h.wlen⟩
theorem chk_spec {masks wr:T Nat} {n nA:Nat}:∀ (l:List DOp) (pre:List DOp) (done:Nat) (ws:List Nat) (al:List (Nat × Nat × Nat)),chk masks wr n l done ws al nA=true→Acc pre done ws al →
 (∀ p1 d p2,l=p1++d :: p2→DFact masks wr n (pre++p1) d)∧(∀ i,i < n→∃ d∈pre++l,d.ix=i):=by
 intro l
 induction l with
 | nil =>
  intro pre done ws al h hA
  refine ⟨fun p1 d p2 he=>by simp at he,fun i hi=>?_⟩
  have h:Nat.beq done (Nat.sub (Nat.shiftLeft 1 n) 1)=true:=h
  have:=Nat.eq_of_beq_eq_true h
  rw [List.append_nil]
  exact (hA.done i).1 (by rw [this]; exact (bit_full n i).2 hi)
 | cons d l ih =>
  intro pre done ws al h hA
  obtain ⟨h1,h2⟩:=and_true (show and _ (chk masks wr n l (withBit done d.ix) (nextWs d.ix ws d.kind) (nextAl d.ix ws al d.kind) nA)=true from h)
  obtain ⟨c1,h1⟩:=and_true h1
  obtain ⟨c2,h1⟩:=and_true h1
  obtain ⟨c3,h1⟩:=and_true h1
  obtain ⟨c4,h1⟩:=and_true h1
  obtain ⟨c5,c6⟩:=and_true h1
  obtain ⟨r1,r2⟩:=ih (pre ++ [d]) _ _ _ h2 (hA.snoc d)
  refine ⟨fun p1 d' p2 he=>?_,fun i hi=>by have:=r2 i hi; simpa using this⟩
  cases p1 with
  | cons x p1 =>
   simp at he
   obtain ⟨rfl,he⟩:=he
   have:=r1 p1 d' p2 he
   simpa using this
  | nil =>
   simp at he
   obtain ⟨rfl,_⟩:=he
   rw [List.append_nil]
   refine ⟨Nat.le_of_ble_eq_true c1,fun d' hd' e=>?_,fun w hw=>(hA.done w).1 (subMask_spec c3 hw),fun p hp w hw=>caOk_spec (casOk_spec c4 _ hp) w hw,fun g hg w hw=>?_,?_⟩
   · have:=(hA.done d.ix).2 ⟨d',hd',e⟩
     rw [this] at c2; cases c2
   · have c5:gOk masks wr d.ix d.c.guard=true:=c5
     rw [hg] at c5
     exact caOk_spec c5 w hw
   · cases hk:d.kind with
     | pure=>rw [hk] at c6; exact c6
     | load s c as =>
      rw [hk] at c6
      have c6:and (isLoad d.c.op) (and (Nat.beq s ws.length) (and (Nat.ble 1 c) (and (Nat.ble c (Nat.succ s)) (and (headIn (mkAt masks d.ix) (ws.drop (Nat.pred c))) (asOk (mkAt masks d.ix) al as)))))=true:=c6
      obtain ⟨k1,c6⟩:=and_true c6
      obtain ⟨k2,c6⟩:=and_true c6
      obtain ⟨k3,c6⟩:=and_true c6
      obtain ⟨k4,c6⟩:=and_true c6
      obtain ⟨k5,k6⟩:=and_true c6
      have hs:s=ws.length:=Nat.eq_of_beq_eq_true k2
      have hc1:1≤c:=Nat.le_of_ble_eq_true k3
      refine ⟨k1,by rw [hs,hA.wlen],hc1,Nat.le_of_ble_eq_true k4,fun p1 d' p2 he hw hn=>?_,fun x hx=>?_⟩
      · have hat:=hA.ws p1 d' p2 he hw
        have hidx:ws.length - 1 - nWr p1=c - 1:=by omega
        rw [hidx] at hat
        have hdrop:∃ r,ws.drop (c - 1)=d'.ix :: r:=by
         have hlt:=(List.getElem?_eq_some_iff.1 hat).1
         refine ⟨ws.drop (c - 1+1),?_⟩
         rw [List.drop_eq_getElem_cons hlt]
         congr 1
         exact (List.getElem?_eq_some_iff.1 hat).2
        obtain ⟨r,hr⟩:=hdrop
        have k5:headIn (mkAt masks d.ix) (ws.drop (c - 1))=true:=k5
        rw [hr] at k5
        exact k5
      · obtain ⟨g1,g2⟩:=asOk_spec k6 x hx
        obtain ⟨p1,d',p2,g3,g4,g5,g6⟩:=hA.al x g1
        exact ⟨p1,d',p2,g3,g4,g6,by rw [g5]; exact g2⟩
     | alloc q =>
      rw [hk] at c6
      obtain ⟨k1,k2⟩:=and_true (show and (isAlloc d.c.op) (Nat.beq q al.length)=true from c6)
      exact ⟨k1,by rw [Nat.eq_of_beq_eq_true k2,hA.alen]⟩
     | write =>
      rw [hk] at c6
      exact fun d' hd'=>subMask_spec (show subMask done (mkAt masks d.ix)=true from c6) ((hA.done d'.ix).2 ⟨d',hd',rfl⟩)
theorem Acc.nil:Acc [] 0 [] [] :=
 ⟨fun i=>by rw [bit_zero]; simp,rfl,fun p1 d p2 h=>by simp at h,rfl,fun x hx=>by cases hx⟩
theorem tOf_spec {α:Type}:∀ (l:List α) (i:Nat) (t:T α) (k:Nat),T.get (Pos.ofNat k) (tOf l i t)=if i≤k∧k < i+l.length then l[k - i]? else T.get (Pos.ofNat k) t:=by
 intro l
 induction l with
 | nil=>intro i t k; rw [if_neg (by simp)]; rfl
 | cons x l ih =>
  intro i t k
  show T.get (Pos.ofNat k) (tOf l (i+1) (T.set x (Pos.ofNat i) t))=_
  rw [ih]
  by_cases h:i+1≤k∧k < i+1+l.length
  · rw [if_pos h,if_pos (by simp; omega),show k - i=(k - (i+1))+1 by omega,List.getElem?_cons_succ]
  · rw [if_neg h,T.get_set_if]
    by_cases e:i=k
    · subst e; simp
    · rw [if_neg (fun e'=>e (Pos.ofNat_inj e')),if_neg (by simp; omega)]
theorem planGo_spec {masks:T Nat} {cs:T COper}:∀ (is ws:List Nat) (as:List (Nat × Nat × Nat)) (plan:List DOp),planGo masks cs is ws as=some plan→∀ d∈plan,T.get (Pos.ofNat d.ix) cs=some d.c:=by
 intro is
 induction is with
 | nil=>intro ws as plan h; cases h; intro d hd; cases hd
 | cons i is ih =>
  intro ws as plan h
  unfold planGo at h
  split at h
  · cases h
  · rename_i c hc
    have fin:∀ k ws' as',(planGo masks cs is ws' as').map (⟨i,c,k⟩ :: ·)=some plan→∀ d∈plan,T.get (Pos.ofNat d.ix) cs=some d.c:=by
     intro k ws' as' h
     cases hp:planGo masks cs is ws' as' with
     | none=>rw [hp] at h; cases h
     | some pl =>
      rw [hp] at h; cases h
      intro d hd
      rcases List.mem_cons.1 hd with rfl | hd
      · exact hc
      · exact ih _ _ _ hp d hd
    split at h <;> exact fin _ _ _ h
structure PlanOk (P:Env) (nt:Nat) (ops:Array Oper) (masks wr:T Nat) (plan:List DOp):Prop where
 fact:∀ p1 d p2,plan=p1++d :: p2→DFact masks wr ops.size p1 d
 all:∀ i,i < ops.size→∃ d∈plan,d.ix=i
 op:∀ d∈plan,∃ o,ops[d.ix]? = some o∧d.c=cOper P nt ops o
 mask:∀ (i:Nat) (o:Oper),ops[i]? = some o→(∀ e∈o.after,Region.binds .any e=true→bit (mkAt masks i) e.on=true) ∧
  (∀ w,bit (mkAt masks i) w=true→∃ e∈o.after,Region.binds .any e=true∧(w=e.on∨(e.on < i∧bit (mkAt masks e.on) w=true)))
 wr:∀ (i:Nat) (o:Oper) (d:Nat),ops[i]? = some o→o.dst=some d→T.get (Pos.ofNat d) wr=some i
theorem cDraw_spec {nt:Nat} {ops:Array Oper}:cDraw P nt ops = .bad∨∃ masks wr plan,cDraw P nt ops = .dops (countA plan) plan∧PlanOk P nt ops masks wr plan:=by
 unfold cDraw
 split
 · rename_i wr hwr
   unfold dplan
   split
   · rename_i plan hplan
     split
     · rename_i hchk
       obtain ⟨h1,h2⟩:=chk_spec plan [] 0 [] [] hchk Acc.nil
       refine .inr ⟨masksOf ops.toList 0 .nil,wr,plan,rfl,?_,?_,?_,?_,?_⟩
       · intro p1 d p2 he; simpa using h1 p1 d p2 he
       · intro i hi; simpa using h2 i hi
       · intro d hd
         have hg:=planGo_spec _ _ _ _ hplan d hd
         rw [tOf_spec] at hg
         split at hg
         · simp only [Nat.sub_zero,List.getElem?_map] at hg
           cases ho:ops.toList[d.ix]? with
           | none=>rw [ho] at hg; cases hg
           | some o=>rw [ho] at hg; exact ⟨o,by simpa using ho,(Option.some.inj hg).symm⟩
         · rw [T.get_nil] at hg; cases hg
       · intro i o ho
         have:=masksOf_spec ops.toList 0 .nil (fun k _=>by unfold mkAt; rw [T.get_nil]) i o (by simpa using ho)
         simpa using this
       · intro i o d ho hd
         have:=(writersOf_spec _ _ _ _ hwr).2 i o d (by simpa using ho) hd
         simpa using this
     · exact .inl rfl
   · exact .inl rfl
 · exact .inl rfl
end Go.Ev
namespace Go.Ev
variable {P:Env}
section
variable {call:CallF} {base:Pos}
theorem runD_cons (d:DOp) (l:List DOp) (st:DSt):runD call base (d :: l) st=thenD (runD call base l) (stepD call base d st):=rfl
theorem runD_append (l1 l2:List DOp):∀ st,runD call base (l1++l2) st=thenD (runD call base l2) (runD call base l1 st):=by
 induction l1 with
 | nil=>intro st; rfl
 | cons d l1 ih =>
  intro st
  rw [List.cons_append,runD_cons,runD_cons]
  cases stepD call base d st with
  | none=>rfl
  | some st'=>exact ih st'
theorem runD_split {l1 l2:List DOp} {st stE:DSt} (h:runD call base (l1++l2) st=some stE):∃ st1,runD call base l1 st=some st1∧runD call base l2 st1=some stE:=by
 rw [runD_append] at h
 cases h1:runD call base l1 st with
 | none=>rw [h1] at h; cases h
 | some st1=>rw [h1] at h; exact ⟨st1,rfl,h⟩
theorem runD_step {d:DOp} {l:List DOp} {st stE:DSt} (h:runD call base (d :: l) st=some stE):∃ st1,stepD call base d st=some st1∧runD call base l st1=some stE:=by
 rw [runD_cons] at h
 cases h1:stepD call base d st with
 | none=>rw [h1] at h; cases h
 | some st1=>rw [h1] at h; exact ⟨st1,rfl,h⟩
theorem runD_join {l1 l2:List DOp} {st st1:DSt} (h:runD call base l1 st=some st1):runD call base (l1++l2) st=runD call base l2 st1:=by rw [runD_append,h]; rfl
inductive StepD (call:CallF) (base:Pos) (d:DOp) (st:DSt):DSt→Prop
 | skip (hw:wantedA st.tm d.c.guard=some false):StepD call base d st (d_skip d.c.dst st d.kind)
 | pure (v:AV) (h':H) (hw:wantedA st.tm d.c.guard=some true) (hk:d.kind = .pure) (hr:d.c.op.run st.tm st.cur = .val v h'):StepD call base d st { st with tm:=setDst d.c.dst v st.tm }
 | load (s c:Nat) (as:List (Nat × Nat × Nat)) (h:H) (hs:List H) (v:AV) (h':H) (hw:wantedA st.tm d.c.guard=some true) (hk:d.kind = .load s c as) (hh:st.hist=h :: hs)
  (hr:d.c.op.run st.tm (putAs base st.ab s h as) = .val v h') (hsame:ldSame d.c.op st.tm base st.ab as v (Nat.pred c) (Nat.pred s) hs=true):StepD call base d st { st with tm:=setDst d.c.dst v st.tm }
 | alloc (q:Nat) (v:AV) (h':H) (b:Blk) (hw:wantedA st.tm d.c.guard=some true) (hk:d.kind = .alloc q) (hr:d.c.op.run st.tm (H.emp (addPos base q)) = .val v h') (hb:T.get (addPos base q) h'.m=some b)
  (hn:noneAll (addPos base q) st.hist=true):StepD call base d st { tm:=setDst d.c.dst v st.tm,hist:=st.hist,cur:=st.cur.put (addPos base q) b,ab:=T.set b (addPos base q) st.ab }
 | wval (v:AV) (h':H) (hw:wantedA st.tm d.c.guard=some true) (hk:d.kind = .write) (hr:d.c.op.run st.tm st.cur = .val v h'):StepD call base d st { tm:=setDst d.c.dst v st.tm,hist:=h' :: st.hist,cur:=h',ab:=st.ab }
 | wcall (f:Callee) (args:List AV) (v:AV) (h':H) (hw:wantedA st.tm d.c.guard=some true) (hk:d.kind = .write) (hr:d.c.op.run st.tm st.cur = .call f args) (hc:call f args st.cur = .ok v h') :
  StepD call base d st { tm:=setDst d.c.dst v st.tm,hist:=h' :: st.hist,cur:=h',ab:=st.ab }
theorem stepD_inv {d:DOp} {st st':DSt} (h:stepD call base d st=some st'):StepD call base d st st':=by
 have h:d_want call base d.c.dst d.c.op d.kind st (wantedA st.tm d.c.guard)=some st':=h
 cases hw:wantedA st.tm d.c.guard with
 | none=>rw [hw] at h; cases h
 | some b =>
  rw [hw] at h
  cases b with
  | false=>cases h; exact .skip hw
  | true =>
   have h:d_go call base d.c.dst d.c.op st d.kind=some st':=h
   cases hk:d.kind with
   | pure =>
    rw [hk] at h
    have h:d_pure d.c.op st d.c.dst=some st':=h
    unfold d_pure at h
    split at h
    · rename_i v h' hr; cases h; exact .pure v h' hw hk hr
    · cases h
   | load s c as =>
    rw [hk] at h
    have h:d_load d.c.op base st d.c.dst s c as st.hist=some st':=h
    cases hh:st.hist with
    | nil=>rw [hh] at h; cases h
    | cons h0 hs =>
     rw [hh] at h
     unfold d_load at h
     simp only at h
     split at h
     · rename_i v h' hr
       split at h
       · rename_i hsame; cases h; exact .load s c as h0 hs v h' hw hk hh hr hsame
       · cases h
     · cases h
   | alloc q =>
    rw [hk] at h
    have h:d_alloc d.c.op st d.c.dst (addPos base q)=some st':=h
    unfold d_alloc at h
    split at h
    · rename_i v h' hr
      cases hb:T.get (addPos base q) h'.m with
      | none=>rw [hb] at h; cases h
      | some b =>
       rw [hb] at h
       unfold d_put at h
       simp only at h
       split at h
       · rename_i hn; cases h; exact .alloc q v h' b hw hk hr hb hn
       · cases h
    · cases h
   | write =>
    rw [hk] at h
    have h:d_write call d.c.op st d.c.dst=some st':=h
    unfold d_write at h
    split at h
    · rename_i v h' hr; cases h; exact .wval v h' hw hk hr
    · rename_i f args hr
      cases hc:call f args st.cur with
      | fail=>rw [hc] at h; cases h
      | ok v h'=>rw [hc] at h; cases h; exact .wcall f args v h' hw hk hr hc
    · cases h
theorem isWr_iff {d:DOp}:isWr d=true↔d.kind = .write:=by
 unfold isWr
 cases d.kind <;> simp
theorem StepD.tm {d:DOp} {st st':DSt} (h:StepD call base d st st'):∃ v,st'.tm=setDst d.c.dst v st.tm:=by
 cases h with
 | skip hw=>exact ⟨.tup [],by cases hk:d.kind <;> simp [d_skip]⟩
 | pure v=>exact ⟨v,rfl⟩
 | load s c as h hs v=>exact ⟨v,rfl⟩
 | alloc q v=>exact ⟨v,rfl⟩
 | wval v=>exact ⟨v,rfl⟩
 | wcall f args v=>exact ⟨v,rfl⟩
theorem StepD.hist {d:DOp} {st st':DSt} (h:StepD call base d st st'):(isWr d=true→st'.hist=st'.cur :: st.hist)∧(isWr d=false→st'.hist=st.hist∧st'.cur.next=st.cur.next):=by
 cases h with
 | skip hw=>cases hk:d.kind <;> simp [d_skip,isWr,hk]
 | pure v h' hw hk=>simp [isWr,hk]
 | load s c as h hs v h' hw hk=>simp [isWr,hk]
 | alloc q v h' b hw hk=>simp [isWr,hk,H.next_put]
 | wval v h' hw hk=>simp [isWr,hk]
 | wcall f args v h' hw hk=>simp [isWr,hk]
theorem setDst_get {d:Option Pos} {v:AV} {tm:Tm} {p:Pos} (h:d≠some p):T.get p (setDst d v tm)=T.get p tm:=by
 cases d with
 | none=>rfl
 | some q=>exact T.get_set_ne v (fun e=>h (by rw [e])) tm
theorem tm_keep:∀ (l:List DOp) {st st':DSt},runD call base l st=some st'→∀ p,(∀ d∈l,d.c.dst≠some p)→T.get p st'.tm=T.get p st.tm:=by
 intro l
 induction l with
 | nil=>intro st st' h p _; cases h; rfl
 | cons d l ih =>
  intro st st' h p hp
  obtain ⟨st1,h1,h2⟩:=runD_step h
  rw [ih h2 p (fun d hd=>hp d (by simp [hd]))]
  obtain ⟨v,hv⟩:=(stepD_inv h1).tm
  rw [hv]
  exact setDst_get (hp d (by simp))
theorem hist_len:∀ (l:List DOp) {st st':DSt},runD call base l st=some st'→∃ k,st'.hist=k++st.hist∧k.length=nWr l:=by
 intro l
 induction l with
 | nil=>intro st st' h; cases h; exact ⟨[],rfl,rfl⟩
 | cons d l ih =>
  intro st st' h
  obtain ⟨st1,h1,h2⟩:=runD_step h
  obtain ⟨k,hk1,hk2⟩:=ih h2
  have hs:=(stepD_inv h1).hist
  cases hw:isWr d with
  | true =>
   refine ⟨k ++ [st1.cur],by rw [hk1,hs.1 hw]; simp,by simp [nWr,hw,hk2]⟩
  | false =>
   refine ⟨k,by rw [hk1,(hs.2 hw).1],by simp [nWr,hw,hk2]⟩
theorem next_keep:∀ (l:List DOp) {st st':DSt},runD call base l st=some st'→(∀ d∈l,isWr d=false)→st'.cur.next=st.cur.next:=by
 intro l
 induction l with
 | nil=>intro st st' h _; cases h; rfl
 | cons d l ih =>
  intro st st' h hw
  obtain ⟨st1,h1,h2⟩:=runD_step h
  rw [ih h2 (fun d hd=>hw d (by simp [hd]))]
  exact ((stepD_inv h1).hist.2 (hw d (by simp))).2
theorem nWr_find:∀ (l:List DOp) (k:Nat),k < nWr l→∃ p1 d p2,l=p1++d :: p2∧isWr d=true∧nWr p1=k:=by
 intro l
 induction l with
 | nil=>intro k h; simp [nWr] at h
 | cons d l ih =>
  intro k h
  cases hw:isWr d with
  | true =>
   cases k with
   | zero=>exact ⟨[],d,l,rfl,hw,rfl⟩
   | succ k =>
    simp [nWr,hw] at h
    obtain ⟨p1,d',p2,h1,h2,h3⟩:=ih k h
    exact ⟨d :: p1,d',p2,by rw [h1]; rfl,h2,by simp [nWr,hw,h3]⟩
  | false =>
   simp [nWr,hw] at h
   obtain ⟨p1,d',p2,h1,h2,h3⟩:=ih k h
   exact ⟨d :: p1,d',p2,by rw [h1]; rfl,h2,by simp [nWr,hw,h3]⟩
theorem addPos_toN (p:Pos) (q:Nat):(addPos p q).toN=p.toN+q:=by
 induction q with
 | zero=>rfl
 | succ q ih =>
  show (addPos p q).succ.toN=_
  rw [Pos.toN_succ,ih]; omega
theorem addPos_inj {p:Pos} {q q':Nat} (h:addPos p q=addPos p q'):q=q':=by
 have:=congrArg Pos.toN h
 rw [addPos_toN,addPos_toN] at this
 omega
theorem noneAll_spec {f:Pos}:∀ {l:List H},noneAll f l=true→∀ h∈l,h.blk f=none:=by
 intro l
 induction l with
 | nil=>intro _ h hh; cases hh
 | cons g l ih =>
  intro hn h hh
  unfold noneAll at hn
  split at hn
  · cases hn
  · rename_i hg
    rcases List.mem_cons.1 hh with rfl | hh
    · exact hg
    · exact ih hn h hh
theorem ldSame_spec {op:CO} {tm:Tm} {ab:T Blk} {as:List (Nat × Nat × Nat)} {v:AV}:∀ (c k:Nat) (hs:List H),ldSame op tm base ab as v c k hs=true→∀ m,m < c→∃ h h',hs[m]? = some h∧op.run tm (putAs base ab (k - m) h as) = .val v h':=by
 intro c
 induction c with
 | zero=>intro k hs _ m hm; omega
 | succ c ih =>
  intro k hs h m hm
  cases hs with
  | nil=>cases h
  | cons h0 hs =>
   unfold ldSame at h
   split at h
   · rename_i v' h' hr
     obtain ⟨h1,h2⟩:=and_true h
     cases m with
     | zero=>exact ⟨h0,h',rfl,by rw [Nat.sub_zero,hr,avSame_eq h1]⟩
     | succ m =>
      obtain ⟨g,g',g1,g2⟩:=ih (Nat.pred k) hs h2 m (by omega)
      refine ⟨g,g',by simpa using g1,?_⟩
      rw [show k - (m+1)=Nat.pred k - m by simp [Nat.pred_eq_sub_one]; omega]
      exact g2
   · cases h
theorem putAs_spec {ab:T Blk} {k:Nat}:∀ (as:List (Nat × Nat × Nat)) (h:H),(putAs base ab k h as).next=h.next ∧
 ∀ f b,(putAs base ab k h as).blk f=some b→h.blk f=some b∨∃ x∈as,k≤x.2.1∧f=addPos base x.1∧T.get f ab=some b:=by
 intro as
 induction as with
 | nil=>intro h; exact ⟨rfl,fun f b hb=>.inl hb⟩
 | cons x as ih =>
  obtain ⟨q,sA,i⟩:=x
  intro h
  unfold putAs
  split
  · rename_i hle
    split
    · rename_i b0 hb0
      obtain ⟨h1,h2⟩:=ih (h.put (addPos base q) b0)
      refine ⟨by rw [h1,H.next_put],fun f b hb=>?_⟩
      rcases h2 f b hb with h3 | ⟨x,h3,h4⟩
      · rw [H.blk_put] at h3
        by_cases e:addPos base q=f
        · subst e
          rw [Bl.upd_same] at h3; cases h3
          exact .inr ⟨(q,sA,i),by simp,Nat.le_of_ble_eq_true hle,rfl,hb0⟩
        · rw [Bl.upd_ne _ _ e] at h3
          exact .inl h3
      · exact .inr ⟨x,by simp [h3],h4⟩
    · obtain ⟨h1,h2⟩:=ih h
      refine ⟨h1,fun f b hb=>?_⟩
      rcases h2 f b hb with h3 | ⟨x,h3,h4⟩
      · exact .inl h3
      · exact .inr ⟨x,by simp [h3],h4⟩
  · obtain ⟨h1,h2⟩:=ih h
    refine ⟨h1,fun f b hb=>?_⟩
    rcases h2 f b hb with h3 | ⟨x,h3,h4⟩
    · exact .inl h3
    · exact .inr ⟨x,by simp [h3],h4⟩
theorem split_cmp {α:Type}:∀ {p1 p2 q1 q2:List α} {d d':α},p1++d :: p2=q1++d' :: q2→(p1=q1∧d=d'∧p2=q2)∨(∃ r,q1=p1++d :: r∧p2=r++d' :: q2)∨(∃ r,p1=q1++d' :: r∧q2=r++d :: p2):=by
 intro p1
 induction p1 with
 | nil =>
  intro p2 q1 q2 d d' h
  cases q1 with
  | nil=>simp at h; exact .inl ⟨rfl,h.1,h.2⟩
  | cons x q1=>simp at h; exact .inr (.inl ⟨q1,by rw [h.1]; rfl,h.2⟩)
 | cons x p1 ih =>
  intro p2 q1 q2 d d' h
  cases q1 with
  | nil=>simp at h; exact .inr (.inr ⟨p1,by rw [←h.1]; rfl,h.2.symm⟩)
  | cons y q1 =>
   simp at h
   obtain ⟨rfl,h⟩:=h
   rcases ih h with ⟨rfl,h2,h3⟩ | ⟨r,h2,h3⟩ | ⟨r,h2,h3⟩
   · exact .inl ⟨rfl,h2,h3⟩
   · exact .inr (.inl ⟨r,by rw [h2]; rfl,h3⟩)
   · exact .inr (.inr ⟨r,by rw [h2]; rfl,h3⟩)
end
end Go.Ev
namespace Go.Ev
variable {P:Env}
section
variable {call:CallF} {base:Pos} {nt:Nat} {b0:B0} {ops:Array Oper} {masks wr:T Nat} {plan:List DOp} {st0 stE:DSt}
theorem PlanOk.same (hp:PlanOk P nt ops masks wr plan) {p1 p2 q1 q2:List DOp} {d d':DOp} (h:plan=p1++d :: p2) (h':plan=q1++d' :: q2) (e:d.ix=d'.ix):p1=q1∧d=d'∧p2=q2:=by
 rcases split_cmp (h.symm.trans h') with h1 | ⟨r,h1,h2⟩ | ⟨r,h1,h2⟩
 · exact h1
 · exact absurd e ((hp.fact q1 d' q2 h').new d (by rw [h1]; simp))
 · exact absurd e.symm ((hp.fact p1 d p2 h).new d' (by rw [h1]; simp))
theorem PlanOk.eq_of_ix (hp:PlanOk P nt ops masks wr plan) {d d':DOp} (h:d∈plan) (h':d'∈plan) (e:d.ix=d'.ix):d=d':=by
 obtain ⟨p1,p2,h1⟩:=List.append_of_mem h
 obtain ⟨q1,q2,h2⟩:=List.append_of_mem h'
 exact (hp.same h1 h2 e).2.1
theorem PlanOk.writer (hp:PlanOk P nt ops masks wr plan) {d:DOp} (hd:d∈plan) {p:Pos} (h:d.c.dst=some p):T.get p wr=some d.ix:=by
 obtain ⟨o,ho,hc⟩:=hp.op d hd
 rcases cOper_eq (P:=P) (nt:=nt) (ops:=ops) o with ⟨_,_,he⟩ | he
 · rw [hc,he] at h
   cases hdst:o.dst with
   | none=>rw [hdst] at h; cases h
   | some t=>rw [hdst] at h; cases h; exact hp.wr d.ix o t ho hdst
 · rw [hc,he] at h; cases h
def At (call:CallF) (base:Pos) (st0:DSt) (p:List DOp) (st:DSt):Prop:=runD call base p st0=some st
theorem At.step {p:List DOp} {d:DOp} {r:List DOp} (hrun:runD call base plan st0=some stE) (h:plan=p++d :: r):∃ st st',At call base st0 p st∧stepD call base d st=some st'∧At call base st0 (p ++ [d]) st':=by
 rw [h] at hrun
 obtain ⟨st,h1,h2⟩:=runD_split hrun
 obtain ⟨st',h3,_⟩:=runD_step h2
 refine ⟨st,st',h1,h3,?_⟩
 show runD call base (p ++ [d]) st0=some st'
 rw [runD_join h1,runD_cons,h3]; rfl
theorem At.det {p:List DOp} {st st':DSt} (h:At call base st0 p st) (h':At call base st0 p st'):st=st':=Option.some.inj (h.symm.trans h')
theorem At.tm0 {p:List DOp} {st:DSt} (h:At call base st0 p st) {q:Pos} (hq:∀ d∈p,d.c.dst≠some q):T.get q st.tm=T.get q st0.tm:=tm_keep p h q hq
theorem At.tmE (hp:PlanOk P nt ops masks wr plan) (hrun:runD call base plan st0=some stE) {p r:List DOp} (hsp:plan=p++r) {st:DSt} (h:At call base st0 p st) {d:DOp} (hd:d∈p) {q:Pos} (hq:d.c.dst=some q) :
 T.get q st.tm=T.get q stE.tm:=by
 rw [hsp,runD_join h] at hrun
 refine (tm_keep r hrun q fun d' hd' e=>?_).symm
 have h1:=hp.writer (d:=d) (by rw [hsp]; simp [hd]) hq
 have h2:=hp.writer (d:=d') (by rw [hsp]; simp [hd']) e
 rw [h1] at h2
 have hix:d.ix=d'.ix:=Option.some.inj h2
 obtain ⟨r1,r2,hr⟩:=List.append_of_mem hd'
 exact (hp.fact (p++r1) d' r2 (by rw [hsp,hr]; simp)).new d (by simp [hd]) hix
def EntA (call:CallF) (base:Pos) (st0:DSt) (p:List DOp) (d:DOp) (f:Pos) (b:Blk):Prop :=
 ∃ st v h' q,At call base st0 p st∧d.kind = .alloc q∧f=addPos base q∧wantedA st.tm d.c.guard=some true∧d.c.op.run st.tm (H.emp f) = .val v h'∧T.get f h'.m=some b∧noneAll f st.hist=true
theorem EntA.det {p:List DOp} {d:DOp} {f f':Pos} {b b':Blk} (h:EntA call base st0 p d f b) (h':EntA call base st0 p d f' b'):f=f'∧b=b':=by
 obtain ⟨st,v,h1,q,a1,a2,a3,a4,a5,a6,a7⟩:=h
 obtain ⟨st2,v2,h2,q2,c1,c2,c3,c4,c5,c6,c7⟩:=h'
 have:=a1.det c1
 subst this
 rw [a2] at c2; cases c2
 subst a3 c3
 rw [a5] at c5; cases c5
 rw [a6] at c6; cases c6
 exact ⟨rfl,rfl⟩
theorem EntA.place (hp:PlanOk P nt ops masks wr plan) {p1 p2 q1 q2:List DOp} {d d':DOp} {f:Pos} {b b':Blk} (h:plan=p1++d :: p2) (h':plan=q1++d' :: q2) (he:EntA call base st0 p1 d f b) (he':EntA call base st0 q1 d' f b') :
 p1=q1∧d=d'∧p2=q2:=by
 obtain ⟨st,v,h1,q,a1,a2,a3,_⟩:=he
 obtain ⟨st2,v2,h2,q',c1,c2,c3,_⟩:=he'
 have hq:q=q':=addPos_inj (a3.symm.trans c3)
 have k1:=(hp.fact p1 d p2 h).kind
 have k2:=(hp.fact q1 d' q2 h').kind
 rw [a2] at k1
 rw [c2] at k2
 have e1:q=countA p1:=k1.2
 have e2:q'=countA q1:=k2.2
 rcases split_cmp (h.symm.trans h') with h1 | ⟨r,h1,h2⟩ | ⟨r,h1,h2⟩
 · exact h1
 · exfalso
   rw [h1,countA_append] at e2
   simp [countA,a2] at e2
   omega
 · exfalso
   rw [h1,countA_append] at e1
   simp [countA,c2] at e1
   omega
theorem EntA.lt (hp:PlanOk P nt ops masks wr plan) {p1 p2:List DOp} {d:DOp} {f:Pos} {b:Blk} (h:plan=p1++d :: p2) (he:EntA call base st0 p1 d f b):f.toN < base.toN+countA plan:=by
 obtain ⟨st,v,h1,q,a1,a2,a3,_⟩:=he
 have k1:=(hp.fact p1 d p2 h).kind
 rw [a2] at k1
 have e1:q=countA p1:=k1.2
 rw [a3,addPos_toN,e1,h,countA_append]
 simp [countA,a2]
theorem ab_spec (hab:st0.ab = .nil):∀ (r p:List DOp) (st:DSt),p=r.reverse→At call base st0 p st→∀ f b,T.get f st.ab=some b→∃ p1 d p2,p=p1++d :: p2∧EntA call base st0 p1 d f b:=by
 intro r
 induction r with
 | nil =>
  intro p st hp h f b hb
  simp at hp
  subst hp
  cases h
  rw [hab,T.get_nil] at hb; cases hb
 | cons d r ih =>
  intro p st hp h f b hb
  have hp':p=r.reverse ++ [d]:=by rw [hp]; simp
  rw [hp'] at h
  obtain ⟨st1,h1,h2⟩:=runD_split h
  obtain ⟨st2,h3,h4⟩:=runD_step h2
  cases h4
  have old:T.get f st1.ab=some b→∃ p1 d' p2,p=p1++d' :: p2∧EntA call base st0 p1 d' f b:=fun hb'=>by
   obtain ⟨p1,d',p2,k1,k2⟩:=ih _ st1 rfl h1 f b hb'
   exact ⟨p1,d',p2 ++ [d],by rw [hp',k1]; simp,k2⟩
  cases stepD_inv h3 with
  | skip hw=>exact old (by cases hk:d.kind <;> simpa [d_skip,hk] using hb)
  | pure v h' hw hk hr=>exact old hb
  | load s c as h hs v h' hw hk hh hr hsame=>exact old hb
  | wval v h' hw hk hr=>exact old hb
  | wcall f args v h' hw hk hr hc=>exact old hb
  | alloc q v h' b1 hw hk hr hb1 hn =>
   have hb:T.get f (T.set b1 (addPos base q) st1.ab)=some b:=hb
   rw [T.get_set_if] at hb
   by_cases e:addPos base q=f
   · rw [if_pos e] at hb; cases hb
     subst e
     exact ⟨r.reverse,d,[],hp',st1,v,h',q,h1,hk,rfl,hw,hr,hb1,hn⟩
   · rw [if_neg e] at hb
     exact old hb
section front
variable {Fr:List DOp} {stF:DSt}
theorem cur_spec (hF:At call base st0 Fr stF):∀ (r R1:List DOp) (st:DSt),R1=r.reverse→At call base st0 (Fr++R1) st→(∀ d∈R1,isWr d=false) →
 (∀ a d c f b,R1=a++d :: c→EntA call base st0 (Fr++a) d f b→(∀ a' d' c' b',R1=a'++d' :: c'→EntA call base st0 (Fr++a') d' f b'→a'=a∧d'=d)→st.cur.blk f=some b) ∧
 (∀ f,(∀ a d c b,R1=a++d :: c→¬ EntA call base st0 (Fr++a) d f b)→st.cur.blk f=stF.cur.blk f):=by
 intro r
 induction r with
 | nil =>
  intro R1 st hR h _
  simp at hR
  subst hR
  rw [List.append_nil] at h
  have:=hF.det h
  subst this
  exact ⟨fun a d c f b he=>by simp at he,fun f _=>rfl⟩
 | cons d r ih =>
  intro R1 st hR h hw
  have hR':R1=r.reverse ++ [d]:=by rw [hR]; simp
  generalize hR0:r.reverse=R0 at hR' ih
  rw [hR',← List.append_assoc] at h
  obtain ⟨st1,h1,h2⟩:=runD_split h
  obtain ⟨st2,h3,h4⟩:=runD_step h2
  cases h4
  obtain ⟨i1,i2⟩:=ih R0 st1 rfl h1 (fun d' hd'=>hw d' (by rw [hR']; simp [hd']))
  have hwd:isWr d=false:=hw d (by rw [hR']; simp)
  have hcur:(∃ f b,EntA call base st0 (Fr++R0) d f b∧st.cur.blk=Bl.upd st1.cur.blk f b)∨((∀ f b,¬ EntA call base st0 (Fr++R0) d f b)∧st.cur=st1.cur):=by
   cases stepD_inv h3 with
   | skip hws =>
    refine .inr ⟨fun f b ⟨s,v,h',q,a1,a2,a3,a4,_⟩=>?_,?_⟩
    · have:=h1.symm.trans a1
      cases this
      rw [hws] at a4; cases a4
    · cases hk:d.kind with
      | write=>rw [isWr_iff.2 hk] at hwd; cases hwd
      | pure=>rfl
      | load s c as=>rfl
      | alloc q=>rfl
   | pure v h' hws hk hr=>exact .inr ⟨(fun f b ⟨s,v,h',q,a1,a2,_⟩=>by rw [hk] at a2; cases a2),rfl⟩
   | load s c as h hs v h' hws hk hh hr hsame=>exact .inr ⟨(fun f b ⟨s,v,h',q,a1,a2,_⟩=>by rw [hk] at a2; cases a2),rfl⟩
   | wval v h' hws hk hr=>rw [isWr_iff.2 hk] at hwd; cases hwd
   | wcall f args v h' hws hk hr hc=>rw [isWr_iff.2 hk] at hwd; cases hwd
   | alloc q v h' b1 hws hk hr hb1 hn =>
    exact .inl ⟨addPos base q,b1,⟨st1,v,h',q,h1,hk,rfl,hws,hr,hb1,hn⟩,H.blk_put _ _ _⟩
  refine ⟨fun a d' c f b he hent hun=>?_,fun f hno=>?_⟩
  · rcases snoc_split (hR' ▸ he:R0 ++ [d]=a++d' :: c) with ⟨rfl,rfl,rfl⟩ | ⟨c',rfl,hR0'⟩
    · rcases hcur with ⟨f1,b1,e1,e2⟩ | ⟨e1,_⟩
      · obtain ⟨rfl,rfl⟩:=e1.det hent
        rw [e2,Bl.upd_same]
      · exact absurd hent (e1 f b)
    · have hold:=i1 a d' c' f b hR0' hent fun a2 d2 c2 b2 he2 hent2=>hun a2 d2 (c2 ++ [d]) b2 (by rw [hR',he2]; simp) hent2
      rcases hcur with ⟨f1,b1,e1,e2⟩ | ⟨_,e2⟩
      · rw [e2,Bl.upd_ne _ _ ?_]
        · exact hold
        · intro e
          subst e
          have:=hun R0 d [] b1 hR' e1
          have h1:=congrArg List.length this.1
          rw [hR0'] at h1
          simp at h1
      · rw [e2]; exact hold
  · have hold:=i2 f fun a d' c b he=>hno a d' (c ++ [d]) b (by rw [hR',he]; simp)
    rcases hcur with ⟨f1,b1,e1,e2⟩ | ⟨_,e2⟩
    · rw [e2,Bl.upd_ne _ _ ?_]
      · exact hold
      · intro e
        subst e
        exact hno R0 d [] b1 hR' e1
    · rw [e2]; exact hold
end front
end
end Go.Ev
namespace Go.Ev
variable {P:Env}
section
variable {call:CallF} {base:Pos} {nt:Nat} {b0:B0} {ops:Array Oper} {masks wr:T Nat} {plan:List DOp} {st0 stE:DSt} {j0:Inj} {bl0:Bl} {w0:World}
structure Inv (P:Env) (call:CallF) (base:Pos) (nt:Nat) (b0:B0) (ops:Array Oper) (plan:List DOp) (st0 stE:DSt) (j0:Inj) (bl0:Bl) (w0:World) (X:Nat→Prop) (Fr R:List DOp) (stF:DSt) (a:Act) (w:World) (j:Inj) (bl:Bl) (tmX:Tm):Prop where
 split:plan=Fr++R
 at_:At call base st0 Fr stF
 front:Fr = []∨∃ F' d,Fr=F' ++ [d]∧isWr d=true
 doneF:∀ d∈Fr,X d.ix
 wr:∀ d∈R,X d.ix→isWr d=false
 closed:∀ (i:Nat) (o:Oper),X i→ops[i]? = some o→∀ e∈o.after,Region.binds .any e=true→X e.on
 range:∀ i,X i→i < ops.size
 tm:TmR j nt tmX a.tmps
 tx1:∀ p d,d∈plan→X d.ix→d.c.dst=some p→T.get p tmX=T.get p stE.tm
 tx2:∀ p,(∀ d∈plan,X d.ix→d.c.dst≠some p)→T.get p tmX=T.get p st0.tm
 rb:RB P j bl stF.cur.next.toN w
 ent:∀ R1 d R2 f b,R=R1++d :: R2→X d.ix→EntA call base st0 (Fr++R1) d f b→bl f=some b
 rest:∀ f,(∀ R1 d R2 b,R=R1++d :: R2→X d.ix→¬ EntA call base st0 (Fr++R1) d f b)→bl f=stF.cur.blk f
 free:∀ R1 d R2 f b,R=R1++d :: R2→¬ X d.ix→EntA call base st0 (Fr++R1) d f b→j f=none
 ext:Ext j0 bl0 w0 j bl w
 df:Df b0 j bl a.defers w
 sz:b0.n≤w.heap.size
 next:st0.cur.next.toN≤stF.cur.next.toN
section inv
variable {X:Nat→Prop} {Fr R:List DOp} {stF:DSt} {a:Act} {w:World} {j:Inj} {bl:Bl} {tmX:Tm}
theorem Inv.headF (hrun:runD call base plan st0=some stE) (h0:st0.hist = [st0.cur]) (I:Inv P call base nt b0 ops plan st0 stE j0 bl0 w0 X Fr R stF a w j bl tmX):∃ hs,stF.hist=stF.cur :: hs:=by
 rcases I.front with hf | ⟨F',d,hf,hw⟩
 · have h:=I.at_
   rw [hf] at h
   cases h
   exact ⟨[],h0⟩
 · obtain ⟨st,st',h1,h2,h3⟩:=At.step (p:=F') (d:=d) (r:=R) hrun (by rw [I.split,hf]; simp)
   have h:=I.at_
   rw [hf] at h
   have:=h.det h3
   subst this
   exact ⟨_,(stepD_inv h2).hist.1 hw⟩
theorem Inv.fresh (hrun:runD call base plan st0=some stE) (h0:st0.hist = [st0.cur]) (I:Inv P call base nt b0 ops plan st0 stE j0 bl0 w0 X Fr R stF a w j bl tmX) {R1 R2:List DOp} {d:DOp} {f:Pos} {b:Blk} (_:R=R1++d :: R2)
 (he:EntA call base st0 (Fr++R1) d f b):stF.cur.blk f=none:=by
 obtain ⟨st,v,h1,q,a1,a2,a3,a4,a5,a6,a7⟩:=he
 obtain ⟨hs,hh⟩:=I.headF hrun h0
 have hst:runD call base R1 stF=some st:=by rw [←runD_join I.at_]; exact a1
 obtain ⟨k,k1,_⟩:=hist_len R1 hst
 refine noneAll_spec a7 stF.cur ?_
 rw [k1,hh]; simp
theorem Inv.closure (hp:PlanOk P nt ops masks wr plan) (I:Inv P call base nt b0 ops plan st0 stE j0 bl0 w0 X Fr R stF a w j bl tmX):∀ (i:Nat) (o:Oper),ops[i]? = some o→(∀ e∈o.after,Region.binds .any e=true→X e.on)→∀ w,bit (mkAt masks i) w=true→X w:=by
 intro i
 induction i using Nat.strongRecOn with
 | _ i ih =>
  intro o ho he w hw
  obtain ⟨e,h1,h2,h3⟩:=(hp.mask i o ho).2 w hw
  have hX:=he e h1 h2
  rcases h3 with rfl | ⟨h4,h5⟩
  · exact hX
  · have hlt:=I.range _ hX
    exact ih e.on h4 ops[e.on] (Array.getElem?_eq_getElem hlt) (I.closed e.on _ hX (Array.getElem?_eq_getElem hlt)) w h5
theorem Inv.agree (hp:PlanOk P nt ops masks wr plan) (hrun:runD call base plan st0=some stE) (I:Inv P call base nt b0 ops plan st0 stE j0 bl0 w0 X Fr R stF a w j bl tmX) {p1 p2:List DOp} {d:DOp} (hsp:plan=p1++d :: p2) {st:DSt} (hat:At call base st0 p1 st)
 (hX:¬ X d.ix) (hanc:∀ w,bit (mkAt masks d.ix) w=true→X w) {p:Pos} (hpair:∀ w,T.get p wr=some w→PairFact masks d.ix w):T.get p tmX=T.get p st.tm:=by
 by_cases hex:∃ d0,d0∈plan∧d0.c.dst=some p
 · obtain ⟨d0,hd0,hdst⟩:=hex
   have hw0:=hp.writer hd0 hdst
   obtain ⟨hne,hord⟩:=hpair _ hw0
   rcases hord with hord | hord
   ·
    have hX0:=hanc _ hord
    obtain ⟨d1,hd1,e1⟩:=(hp.fact p1 d p2 hsp).anc _ hord
    have:d1=d0:=hp.eq_of_ix (by rw [hsp]; simp [hd1]) hd0 e1
    subst this
    rw [I.tx1 p d1 hd0 hX0 hdst]
    exact (At.tmE hp hrun (r:=d :: p2) hsp hat hd1 hdst).symm
   ·
    have hno:∀ d1,d1∈plan→d1.c.dst=some p→d1=d0:=fun d1 h1 h2=>by
     have:=hp.writer h1 h2
     rw [hw0] at this
     exact hp.eq_of_ix h1 hd0 (Option.some.inj this).symm
    have hX0:¬ X d0.ix:=fun hX0=>by
     obtain ⟨o,ho,_⟩:=hp.op d0 hd0
     exact hX (I.closure hp d0.ix o ho (I.closed _ _ hX0 ho) _ hord)
    rw [I.tx2 p fun d1 h1 h2 h3=>by rw [hno d1 h1 h3] at h2; exact hX0 h2]
    refine (hat.tm0 fun d1 h1 h2=>?_).symm
    have he:=hno d1 (by rw [hsp]; simp [h1]) h2
    subst he
    obtain ⟨a1,c1,hac⟩:=List.append_of_mem h1
    have hsp':plan=a1++d1 :: (c1++d :: p2):=by rw [hsp,hac]; simp
    obtain ⟨d2,hd2,e2⟩:=(hp.fact a1 d1 _ hsp').anc _ hord
    exact (hp.fact p1 d p2 hsp).new d2 (by rw [hac]; simp [hd2]) e2
 · rw [I.tx2 p fun d1 h1 _ h3=>hex ⟨d1,h1,h3⟩]
   exact (hat.tm0 fun d1 h1 h2=>hex ⟨d1,by rw [hsp]; simp [h1],h2⟩).symm
theorem Inv.subF (hrun:runD call base plan st0=some stE) (h0:st0.hist = [st0.cur]) (I:Inv P call base nt b0 ops plan st0 stE j0 bl0 w0 X Fr R stF a w j bl tmX):∀ f b,stF.cur.blk f=some b→bl f=some b:=fun f b hb=>by
 rw [I.rest f fun R1 d R2 b' he _ hent=>by rw [I.fresh hrun h0 he hent] at hb; cases hb]
 exact hb
theorem Inv.step (hp:PlanOk P nt ops masks wr plan) (hrun:runD call base plan st0=some stE) (h0:st0.hist = [st0.cur]) (I:Inv P call base nt b0 ops plan st0 stE j0 bl0 w0 X Fr R stF a w j bl tmX) {R1 R2:List DOp} {d:DOp} (hR:R=R1++d :: R2) (hwd:isWr d=false) (hX:¬ X d.ix)
 (hedge:∀ o,ops[d.ix]? = some o→∀ e∈o.after,Region.binds .any e=true→X e.on) {a':Act} {w':World} {j':Inj} {bl':Bl} {v:AV} (htm:TmR j' nt (setDst d.c.dst v tmX) a'.tmps) (hdef:a'.defers=a.defers)
 (hv:∀ p,d.c.dst=some p→T.get p stE.tm=some v) (hrb:RB P j' bl' stF.cur.next.toN w') (hx:Ext j bl w j' bl' w')
 (hbl:(bl'=bl∧∀ f b,¬ EntA call base st0 (Fr++R1) d f b)∨∃ f b,EntA call base st0 (Fr++R1) d f b∧bl'=Bl.upd bl f b) :
 Inv P call base nt b0 ops plan st0 stE j0 bl0 w0 (fun i=>X i∨i=d.ix) Fr R stF a' w' j' bl' (setDst d.c.dst v tmX):=by
 have hd:d∈plan:=by rw [I.split,hR]; simp
 have hsp:plan=(Fr++R1)++d :: R2:=by rw [I.split,hR]; simp
 have spl:∀ {a1 c1:List DOp} {d1:DOp},R=a1++d1 :: c1→plan=(Fr++a1)++d1 :: c1:=fun he=>by rw [I.split,he]; simp
 have other:∀ {a1 c1:List DOp} {d1:DOp} {f:Pos} {b b1:Blk},R=a1++d1 :: c1→d1.ix≠d.ix→EntA call base st0 (Fr++a1) d1 f b1→EntA call base st0 (Fr++R1) d f b→False:=fun he hne h1 h2=>by
  have:=EntA.place hp (spl he) hsp h1 h2
  exact hne (by rw [this.2.1])
 have same:∀ {a1 c1:List DOp} {d1:DOp},R=a1++d1 :: c1→d1.ix=d.ix→a1=R1∧d1=d:=fun he e=>by
  have:=hp.same (spl he) hsp e
  exact ⟨List.append_cancel_left this.1,this.2.1⟩
 refine ⟨I.split,I.at_,I.front,fun d' hd'=>.inl (I.doneF d' hd'),fun d' hd' hX'=>?_,fun i o hi ho e he hb=>?_,fun i hi=>?_,htm,fun p d' hd' hX' hdst=>?_,fun p hno=>?_,hrb,fun a1 d1 c1 f b he hX' hent=>?_,fun f hno=>?_,fun a1 d1 c1 f b he hX' hent=>?_,I.ext.trans hx,by rw [hdef]; exact I.df.ext hx,Nat.le_trans I.sz hx.size,I.next⟩
 · rcases hX' with h | h
   · exact I.wr d' hd' h
   · have:=hp.eq_of_ix (by rw [I.split]; simp [hd']) hd h
     rw [this]; exact hwd
 · rcases hi with hi | rfl
   · exact .inl (I.closed i o hi ho e he hb)
   · exact .inl (hedge o ho e he hb)
 · rcases hi with hi | rfl
   · exact I.range i hi
   · exact (hp.fact _ d _ hsp).lt
 · by_cases hdd:d.c.dst=some p
   · rw [hdd]
     show T.get p (T.set v p tmX)=_
     rw [T.get_set,hv p hdd]
   · rw [setDst_get hdd]
     rcases hX' with h | h
     · exact I.tx1 p d' hd' h hdst
     · have:=hp.eq_of_ix hd' hd h
       subst this
       exact absurd hdst hdd
 · rw [setDst_get (hno d hd (.inr rfl))]
   exact I.tx2 p fun d' hd' hX'=>hno d' hd' (.inl hX')
 · by_cases e:d1.ix=d.ix
   · obtain ⟨rfl,rfl⟩:=same he e
     rcases hbl with ⟨_,hn⟩ | ⟨f1,b1,h1,rfl⟩
     · exact absurd hent (hn f b)
     · obtain ⟨rfl,rfl⟩:=h1.det hent
       exact Bl.upd_same _ _ _
   · have hX1:X d1.ix:=hX'.resolve_right e
     have hold:=I.ent a1 d1 c1 f b he hX1 hent
     rcases hbl with ⟨rfl,_⟩ | ⟨f1,b1,h1,rfl⟩
     · exact hold
     · rw [Bl.upd_ne _ _ fun e'=>by subst e'; exact other he e hent h1]
       exact hold
 · have hold:=I.rest f fun a1 d1 c1 b he hX1=>hno a1 d1 c1 b he (.inl hX1)
   rcases hbl with ⟨rfl,_⟩ | ⟨f1,b1,h1,rfl⟩
   · exact hold
   · rw [Bl.upd_ne _ _ fun e'=>by subst e'; exact hno R1 d R2 b1 hR (.inr rfl) h1]
     exact hold
 · have hX1:¬ X d1.ix:=fun h=>hX' (.inl h)
   have hne:d1.ix≠d.ix:=fun h=>hX' (.inr h)
   refine hx.dom f (I.free a1 d1 c1 f b he hX1 hent) ?_
   have hold:bl f=none:=by
    rw [I.rest f fun a2 d2 c2 b2 he2 hX2 hent2=>by
     have:=EntA.place hp (spl he2) (spl he) hent2 hent
     rw [this.2.1] at hX2
     exact hX1 hX2]
    exact I.fresh hrun h0 he hent
   rcases hbl with ⟨rfl,_⟩ | ⟨f1,b1,h1,rfl⟩
   · exact hold
   · rw [Bl.upd_ne _ _ fun e'=>by subst e'; exact other he hne hent h1]
     exact hold
end inv
end
end Go.Ev
namespace Go.Ev
variable {P:Env}
section
variable {call:CallF} {base:Pos} {nt:Nat} {b0:B0} {ops:Array Oper} {masks wr:T Nat} {plan:List DOp} {st0 stE:DSt} {j0:Inj} {bl0:Bl} {w0:World}
variable {X:Nat→Prop} {Fr R:List DOp} {stF:DSt} {a:Act} {w:World} {j:Inj} {bl:Bl} {tmX:Tm}
theorem Inv.spl (I:Inv P call base nt b0 ops plan st0 stE j0 bl0 w0 X Fr R stF a w j bl tmX) {a1 c1:List DOp} {d1:DOp} (he:R=a1++d1 :: c1):plan=(Fr++a1)++d1 :: c1:=by rw [I.split,he]; simp
theorem Inv.subR (hp:PlanOk P nt ops masks wr plan) (hrun:runD call base plan st0=some stE) (h0:st0.hist = [st0.cur]) (I:Inv P call base nt b0 ops plan st0 stE j0 bl0 w0 X Fr R stF a w j bl tmX) {R1 R2:List DOp} (hR:R=R1++R2) (hall:∀ d∈R1,X d.ix)
 {st:DSt} (hat:At call base st0 (Fr++R1) st):(∀ f b,st.cur.blk f=some b→bl f=some b)∧st.cur.next=stF.cur.next∧(∀ a1 d1 c1 f b,R1=a1++d1 :: c1→EntA call base st0 (Fr++a1) d1 f b→st.cur.blk f=some b) ∧
  (∀ f,(∀ a1 d1 c1 b,R1=a1++d1 :: c1→¬ EntA call base st0 (Fr++a1) d1 f b)→st.cur.blk f=stF.cur.blk f):=by
 have hw:∀ d∈R1,isWr d=false:=fun d hd=>I.wr d (by rw [hR]; simp [hd]) (hall d hd)
 obtain ⟨c1,c2⟩:=cur_spec I.at_ R1.reverse R1 st (by simp) hat hw
 have spl1:∀ {a1 c1:List DOp} {d1:DOp},R1=a1++d1 :: c1→plan=(Fr++a1)++d1 :: (c1++R2):=fun he=>by rw [I.split,hR,he]; simp
 have hent:∀ a1 d1 c1 f b,R1=a1++d1 :: c1→EntA call base st0 (Fr++a1) d1 f b→st.cur.blk f=some b:=fun a1 d1 cc f b he h1=>by
  refine c1 a1 d1 cc f b he h1 fun a2 d2 c2 b2 he2 h2=>?_
  have:=EntA.place hp (spl1 he2) (spl1 he) h2 h1
  exact ⟨List.append_cancel_left this.1,this.2.1⟩
 refine ⟨fun f b hb=>?_,?_,hent,c2⟩
 · by_cases hex:∃ a1 d1 cc b1,R1=a1++d1 :: cc∧EntA call base st0 (Fr++a1) d1 f b1
   · obtain ⟨a1,d1,cc,b1,he,h1⟩:=hex
     have:=hent a1 d1 cc f b1 he h1
     rw [hb] at this
     cases this
     exact I.ent a1 d1 (cc++R2) f b (by rw [hR,he]; simp) (hall d1 (by rw [he]; simp)) h1
   · rw [c2 f fun a1 d1 cc b1 he h1=>hex ⟨a1,d1,cc,b1,he,h1⟩] at hb
     exact I.subF hrun h0 f b hb
 · have hst:runD call base R1 stF=some st:=by rw [←runD_join I.at_]; exact hat
   exact next_keep R1 hst hw
theorem Inv.write (hp:PlanOk P nt ops masks wr plan) (hrun:runD call base plan st0=some stE) (h0:st0.hist = [st0.cur]) (I:Inv P call base nt b0 ops plan st0 stE j0 bl0 w0 X Fr R stF a w j bl tmX) {R1 R2:List DOp} {d:DOp} (hR:R=R1++d :: R2) (hwd:isWr d=true)
 (hall:∀ d'∈R1,X d'.ix) (hedge:∀ o,ops[d.ix]? = some o→∀ e∈o.after,Region.binds .any e=true→X e.on) {st st':DSt} (hat:At call base st0 (Fr++R1) st) (hat':At call base st0 (Fr++R1 ++ [d]) st') (hX:¬ X d.ix)
 {a':Act} {w':World} {j':Inj} {v:AV} (htm:TmR j' nt (setDst d.c.dst v tmX) a'.tmps) (hdef:a'.defers=a.defers) (hv:∀ p,d.c.dst=some p→T.get p stE.tm=some v)
 (hrb:RB P j' (Bl.over st'.cur.blk bl) st'.cur.next.toN w') (hx:Ext j bl w j' (Bl.over st'.cur.blk bl) w') (hmono:∀ f,st'.cur.blk f=none→st.cur.blk f=none) (hnext:st.cur.next.toN≤st'.cur.next.toN) :
 Inv P call base nt b0 ops plan st0 stE j0 bl0 w0 (fun i=>X i∨i=d.ix) (Fr++R1 ++ [d]) R2 st' a' w' j' (Bl.over st'.cur.blk bl) (setDst d.c.dst v tmX):=by
 have hd:d∈plan:=by rw [I.split,hR]; simp
 have hsp:plan=(Fr++R1)++d :: R2:=I.spl hR
 have hsp':plan=(Fr++R1 ++ [d])++R2:=by rw [hsp]; simp
 obtain ⟨s1,s2,s3,s4⟩:=I.subR hp hrun h0 hR hall hat
 obtain ⟨st1,st2,k1,k2,k3⟩:=At.step hrun hsp
 have e1:=k1.det hat
 have e2:=k3.det hat'
 subst e1 e2
 have spl2:∀ {a1 c1:List DOp} {d1:DOp},R2=a1++d1 :: c1→R=(R1++d :: a1)++d1 :: c1:=fun he=>by rw [hR,he]; simp
 have pre2:∀ (a1:List DOp),(Fr++R1 ++ [d])++a1=Fr++(R1++d :: a1):=fun a1=>by simp
 have fresh2:∀ {a1 c1:List DOp} {d1:DOp} {f:Pos} {b:Blk},R2=a1++d1 :: c1→EntA call base st0 (Fr++R1 ++ [d]++a1) d1 f b→st2.cur.blk f=none:=fun {a1 c1 d1 f b} _ hent=>by
  obtain ⟨st,v,h1,q,a1',a2,a3,a4,a5,a6,a7⟩:=hent
  have hst:runD call base a1 st2=some st:=by rw [←runD_join k3]; exact a1'
  obtain ⟨k,q1,_⟩:=hist_len a1 hst
  refine noneAll_spec a7 st2.cur ?_
  rw [q1,(stepD_inv k2).hist.1 hwd]; simp
 have restF:∀ f,(∀ a1 d1 c1 b,R2=a1++d1 :: c1→X d1.ix→¬ EntA call base st0 (Fr++R1 ++ [d]++a1) d1 f b)→st2.cur.blk f=none→bl f=none:=fun f hno hf=>by
  have hf1:=hmono f hf
  rw [I.rest f fun a1 d1 c1 b he hX1 hent=>?_]
  · rw [←s4 f fun a1 d1 c1 b he hent=>?_]
    · exact hf1
    · rw [s3 a1 d1 c1 f b he hent] at hf1; cases hf1
  · rcases split_cmp (hR.symm.trans he) with ⟨_,h2,_⟩ | ⟨r,h1,h2⟩ | ⟨r,h1,h2⟩
    · subst h2; exact hX hX1
    · exact hno r d1 c1 b h2 hX1 (by rw [pre2,← h1]; exact hent)
    · rw [s3 a1 d1 r f b h1 hent] at hf1; cases hf1
 refine ⟨hsp',k3,.inr ⟨Fr++R1,d,rfl,hwd⟩,fun d' hd'=>?_,fun d' hd' hX'=>?_,fun i o hi ho e he hb=>?_,fun i hi=>?_,htm,fun p d' hd' hX' hdst=>?_,fun p hno=>?_,hrb,fun a1 d1 c1 f b he hX' hent=>?_,fun f hno=>?_,fun a1 d1 c1 f b he hX' hent=>?_,I.ext.trans hx,by rw [hdef]; exact I.df.ext hx,Nat.le_trans I.sz hx.size,?_⟩
 · simp only [List.mem_append,List.mem_singleton] at hd'
   rcases hd' with (h | h) | rfl
   · exact .inl (I.doneF d' h)
   · exact .inl (hall d' h)
   · exact .inr rfl
 · rcases hX' with h | h
   · exact I.wr d' (by rw [hR]; simp [hd']) h
   · exfalso
     obtain ⟨r1,r2,hr⟩:=List.append_of_mem hd'
     exact (hp.fact ((Fr++R1 ++ [d])++r1) d' r2 (by rw [hsp',hr]; simp)).new d (by simp) h.symm
 · rcases hi with hi | rfl
   · exact .inl (I.closed i o hi ho e he hb)
   · exact .inl (hedge o ho e he hb)
 · rcases hi with hi | rfl
   · exact I.range i hi
   · exact (hp.fact _ d _ hsp).lt
 · by_cases hdd:d.c.dst=some p
   · rw [hdd]
     show T.get p (T.set v p tmX)=_
     rw [T.get_set,hv p hdd]
   · rw [setDst_get hdd]
     rcases hX' with h | h
     · exact I.tx1 p d' hd' h hdst
     · have:=hp.eq_of_ix hd' hd h
       subst this
       exact absurd hdst hdd
 · rw [setDst_get (hno d hd (.inr rfl))]
   exact I.tx2 p fun d' hd' hX'=>hno d' hd' (.inl hX')
 · have hne:d1.ix≠d.ix:=fun e=>(hp.fact ((Fr++R1 ++ [d])++a1) d1 c1 (by rw [hsp',he]; simp)).new d (by simp) e.symm
   rw [Bl.over_none (fresh2 he hent)]
   exact I.ent (R1++d :: a1) d1 c1 f b (spl2 he) (hX'.resolve_right hne) (by rw [←pre2]; exact hent)
 · cases hf:st2.cur.blk f with
   | some b=>exact Bl.over_some hf
   | none =>
    rw [Bl.over_none hf]
    exact restF f (fun a1 d1 c1 b he hX1=>hno a1 d1 c1 b he (.inl hX1)) hf
 · have hX1:¬ X d1.ix:=fun h=>hX' (.inl h)
   refine hx.dom f (I.free (R1++d :: a1) d1 c1 f b (spl2 he) hX1 (by rw [←pre2]; exact hent)) ?_
   rw [Bl.over_none (fresh2 he hent)]
   refine restF f (fun a2 d2 c2 b2 he2 hX2 hent2=>?_) (fresh2 he hent)
   have:=EntA.place hp (p1:=Fr++R1 ++ [d]++a2) (p2:=c2) (q1:=Fr++R1 ++ [d]++a1) (q2:=c1) (by rw [hsp',he2]; simp) (by rw [hsp',he]; simp) hent2 hent
   rw [this.2.1] at hX2
   exact hX1 hX2
 · have h1:=I.next
   rw [s2] at hnext
   omega
end
end Go.Ev
namespace Go.Ev
variable {P:Env}
section
variable {F:Fence} {n n' N nt:Nat} {call:CallF} {j:Inj} {tm:Tm} {h h':H} {a:Act} {w:World} {o:Oper} {v:AV} {next:Act→World→Prop} {Q:Exit→Act→World→Prop}
theorem val_wp (hF:Fw F) (hT:TmR j nt tm a.tmps) (hR:RB P j h.blk n w) (hf:j h.next=none) (hN:n≤N) (hrun:(co P o).run tm h = .val v h') (hN':h'.next.toN≤N)
 (hnext:∀ j' cv w',VR j' v cv→RB P j' h'.blk N w'→Ext j h.blk w j' h'.blk w'→next (a.put o.dst cv) w'):o.wpIn F n' P a w next Q:=by
 refine ⟨fun f _=>hF.fn f,?_⟩
 have hnd:∀ c,o.op≠.defer c:=fun c hc=>by rw [co_defer hc] at hrun; exact bad_val hrun
 obtain ⟨cv,w1,nx,g1,g2,j1,g3,g4,g5⟩:=op_val hT hR hf hN hrun hN'
 rw [Oper.semAt_eq _ _ _ hnd,g1]
 rcases g2 with rfl | ⟨rfl,rfl⟩
 · exact hnext j1 cv w1 g3 g4 g5
 · exact hnext j1 undef w1 g3 g4 g5
theorem call_wp (hF:Fw F) (hcall:CallsOk P call) (hT:TmR j nt tm a.tmps) (hR:RB P j h.blk h.next.toN w) {f:Callee} {args:List AV} (hrun:(co P o).run tm h = .call f args) (hc:call f args h = .ok v h')
 (hnext:∀ j' cv w',h.next.toN≤h'.next.toN→VR j' v cv→RB P j' h'.blk h'.next.toN w'→Ext j h.blk w j' h'.blk w'→next (a.put o.dst cv) w'):o.wpIn F n' P a w next Q:=by
 refine ⟨fun f _=>hF.fn f,?_⟩
 have hnd:∀ c,o.op≠.defer c:=fun c hc=>by
  rw [co_defer hc] at hrun
  cases (show Out.fail = .call f args from hrun)
 rw [Oper.semAt_eq _ _ _ hnd]
 have hat:=op_call (w:=w) hT hrun
 have hsound:=hcall f args h v h' hc w j hR
 have hpost:∀ en w1,RetPost P j h w v h' en w1→∃ cv,en = .returned cv∧next (a.put o.dst cv) w1:=fun en w1 ⟨hmono,cv,e1,j1,g3,g4,g5⟩=>⟨cv,e1,hnext j1 cv w1 hmono g3 g4 g5⟩
 cases f with
 | fn f =>
  obtain ⟨vs,q1,q2⟩:=hat
  obtain ⟨q3,q4⟩:=hsound vs q2
  rw [q1,q3,Oper.uponIn_enter]
  refine ⟨hF.need n',CallsIn.mono (hF.calls (q4 _)) fun en w1 hp=>?_⟩
  obtain ⟨cv,rfl,hn⟩:=hpost en w1 hp
  exact hn
 | yld l =>
  obtain ⟨lc,vs,q0,q1,q2⟩:=hat
  obtain ⟨f,tmps,asg,body,q3,q4⟩:=hsound lc vs q0 q2
  rw [q1,q3,Oper.uponIn_round]
  refine ⟨hF.need n',RoundIn.mono (hF.rounds (q4 _)) fun en w1 hp=>?_⟩
  obtain ⟨cv,rfl,hn⟩:=hpost en w1 hp
  exact hn
theorem put_tm {d:Option Tmp} (hd:dstOk nt d=true) {j':Inj} (hT:TmR j nt tm a.tmps) (hle:j.le j') {cv:Value} (hv:VR j' v cv):TmR j' nt (setDst (d.map Pos.ofNat) v tm) (a.put d cv).tmps:=by
 cases d with
 | none=>exact hT.mono hle
 | some d=>exact (hT.mono hle).put (Nat.le_of_ble_eq_true hd) hv
theorem put_defers (d:Option Tmp) (cv:Value):(a.put d cv).defers=a.defers:=by cases d <;> rfl
end
section
variable {F:Fence} {n:Nat} {call:CallF} {base:Pos} {nt:Nat} {b0:B0} {ops:Array Oper} {masks wr:T Nat} {plan:List DOp} {st0 stE:DSt} {j0:Inj} {bl0:Bl} {w0:World} {Q:Exit→Act→World→Prop}
variable {X:Nat→Prop} {Fr R:List DOp} {stF:DSt} {a:Act} {w:World} {j:Inj} {bl:Bl} {tmX:Tm}
theorem Inv.ready (hF:Fw F) (hcall:CallsOk P call) (hp:PlanOk P nt ops masks wr plan) (hrun:runD call base plan st0=some stE) (h0:st0.hist = [st0.cur]) (hab:st0.ab = .nil) (hbase:base.toN+countA plan≤st0.cur.next.toN)
 (I:Inv P call base nt b0 ops plan st0 stE j0 bl0 w0 X Fr R stF a w j bl tmX) {i:Nat} (hX:¬ X i) {o:Oper} (ho:ops[i]? = some o) (hedge:∀ e∈o.after,Region.binds .any e=true→X e.on) {K:Act→World→Prop}
 (hK:∀ Fr' R' stF' a' w' j' bl' tm',Inv P call base nt b0 ops plan st0 stE j0 bl0 w0 (fun k=>X k∨k=i) Fr' R' stF' a' w' j' bl' tm'→K a' w'):wpOpIn F n P ops Q i K a w:=by
 have hlt:=getElem?_lt ho
 obtain ⟨d,hd,rfl⟩:=hp.all i hlt
 have hdR:d∈R:=by
  rw [I.split] at hd
  rcases List.mem_append.1 hd with h | h
  · exact absurd (I.doneF d h) hX
  · exact h
 obtain ⟨R1,R2,hR⟩:=List.append_of_mem hdR
 have hsp:=I.spl hR
 obtain ⟨st,st',hat,hstep,hat'⟩:=At.step hrun hsp
 have fact:=hp.fact _ d R2 hsp
 have hanc:∀ w,bit (mkAt masks d.ix) w=true→X w:=I.closure hp d.ix o ho hedge
 have hedge':∀ o',ops[d.ix]? = some o'→∀ e∈o'.after,Region.binds .any e=true→X e.on:=fun o' ho'=>by rw [ho] at ho'; cases ho'; exact hedge
 obtain ⟨o',ho',hc⟩:=hp.op d hd
 rw [ho] at ho'; cases ho'
 have hguard:wantedA tmX d.c.guard=wantedA st.tm d.c.guard:=by
  cases hg:d.c.guard with
  | none=>rfl
  | some g=>simp only [wantedA,I.agree hp hrun hsp hat hX hanc (fact.guard g hg)]
 have hreads:∀ h,d.c.op.run tmX h=d.c.op.run st.tm h:=fun h=>reads_congr fun x hx=>by
  cases x with
  | c v=>rfl
  | t p=>rw [CA.ev_t,CA.ev_t,I.agree hp hrun hsp hat hX hanc (fact.reads p hx)]
 have hval:∀ v,st'.tm=setDst d.c.dst v st.tm→∀ p,d.c.dst=some p→T.get p stE.tm=some v:=fun v hv p hdp=>by
  rw [←At.tmE hp hrun (p:=Fr++R1 ++ [d]) (r:=R2) (by rw [hsp]; simp) hat' (d:=d) (by simp) hdp,hv,hdp]
  exact T.get_set _ _ _
 rcases cOper_eq (P:=P) (nt:=nt) (ops:=ops) o with ⟨hdst,hgo,he⟩ | he
 · rw [←hc] at he
   have e1:d.c.dst=o.dst.map Pos.ofNat:=by rw [he]
   have e2:d.c.op=co P o:=by rw [he]
   have e3:d.c.guard=o.guard.map fun g=>(((ops[g.1]?).bind (·.dst)).elim .h Pos.ofNat,g.2):=by rw [he]
   have hwant:∀ b,wantedA st.tm d.c.guard=some b→Region.wanted o (yielded ops a.tmps)=b:=fun b hb=>by
    rw [←hguard,e3] at hb
    exact wanted_spec I.tm hgo hb
   unfold wpOpIn
   rw [ho]
   simp only
   have subF:=I.subF hrun h0
   have hnF:stF.cur.next.toN≤stF.cur.next.toN:=Nat.le_refl _
   have hjF:j stF.cur.next=none:=I.rb.jnone (Nat.le_refl _)
   have keep:isWr d=false→(∀ f b,¬ EntA call base st0 (Fr++R1) d f b)→∀ (v:AV) (g:H),(∀ f b,g.blk f=some b→bl f=some b)→g.next=stF.cur.next→(co P o).run tmX g = .val v g→st'.tm=setDst d.c.dst v st.tm→o.wpIn F n P a w K Q:=by
    intro hwd hno v g hsub hgn hrung htm
    refine val_wp (h:=g) (N:=stF.cur.next.toN) hF I.tm (I.rb.sub hsub (Nat.le_refl _)) (by rw [hgn]; exact hjF) (Nat.le_refl _) hrung (by rw [hgn]; exact Nat.le_refl _) fun j' cv w' g1 g2 g3=>?_
    obtain ⟨f1,f2⟩:=I.rb.frame hsub g2 g3
    rw [Bl.over_sub hsub] at f1 f2
    exact hK _ _ _ _ _ _ _ _ (I.step hp hrun h0 hR hwd hX hedge' (v:=v) (by rw [e1]; exact put_tm hdst I.tm f2.le g1) (put_defers _ _) (hval v htm) f1 f2 (.inl ⟨rfl,hno⟩))
   have wrote:isWr d=true→(∀ d'∈R1,X d'.ix)∧(∀ f b,st.cur.blk f=some b→bl f=some b)∧st.cur.next=stF.cur.next:=fun hwd=>by
    have hk:=fact.kind
    rw [isWr_iff.1 hwd] at hk
    have hall:∀ d'∈R1,X d'.ix:=fun d' hd'=>hanc _ (hk d' (by simp [hd']))
    obtain ⟨s1,s2,_,_⟩:=I.subR hp hrun h0 hR hall hat
    exact ⟨hall,s1,s2⟩
   cases stepD_inv hstep with
   | skip hw =>
    rw [hwant false hw]
    simp only [Bool.false_eq_true,if_false]
    refine ⟨fun f _=>hF.fn f,?_⟩
    have htm:(d_skip d.c.dst st d.kind).tm=setDst d.c.dst (.tup []) st.tm:=by cases d.kind <;> rfl
    cases hwd:isWr d with
    | false =>
     refine hK _ _ _ _ _ _ _ _ (I.step hp hrun h0 hR hwd hX hedge' (v:=.tup []) (bl':=bl) (by rw [e1]; exact put_tm hdst I.tm (Inj.le_refl j) VRs.undef) (put_defers _ _) (hval _ htm) I.rb (Ext.refl _ _ _) (.inl ⟨rfl,fun f b ⟨s,v,h',q,a1,a2,a3,a4,_⟩=>?_⟩))
     have:=hat.det a1
     subst this
     rw [hw] at a4; cases a4
    | true =>
     obtain ⟨hall,s1,s2⟩:=wrote hwd
     have hcur:(d_skip d.c.dst st d.kind).cur=st.cur:=by cases d.kind <;> rfl
     have hov:Bl.over (d_skip d.c.dst st d.kind).cur.blk bl=bl:=by rw [hcur]; exact Bl.over_sub s1
     refine hK _ _ _ _ _ _ _ _ (I.write hp hrun h0 hR hwd hall hedge' hat hat' hX (v:=.tup []) (w':=w) (j':=j) (by rw [e1]; exact put_tm hdst I.tm (Inj.le_refl j) VRs.undef) (put_defers _ _) (hval _ htm) (by rw [hov,hcur,s2]; exact I.rb) (by rw [hov]; exact Ext.refl _ _ _) (by rw [hcur]; exact fun f h=>h) (by rw [hcur]; exact Nat.le_refl _))
   | pure v h' hw hk hr =>
    rw [hwant true hw]
    simp only [if_true]
    have hkind:=fact.kind
    rw [hk] at hkind
    have hr2:=pure_run hkind hr stF.cur
    rw [←hreads,e2] at hr2
    exact keep (by simp [isWr,hk]) (fun f b ⟨s,v,h',q,a1,a2,_⟩=>by rw [hk] at a2; cases a2) v stF.cur subF rfl hr2 rfl
   | load s c as h1 hs v h' hw hk hh hr hsame =>
    rw [hwant true hw]
    simp only [if_true]
    have hkind:=fact.kind
    rw [hk] at hkind
    obtain ⟨k1,k2,k3,k4,k5,k6⟩:=hkind
    obtain ⟨hsF,hhF⟩:=I.headF hrun h0
    have hst:runD call base R1 stF=some st:=by rw [←runD_join I.at_]; exact hat
    obtain ⟨k,q1,q2⟩:=hist_len R1 hst
    have hsn:s=nWr Fr+nWr R1:=by rw [k2,nWr_append]
    have hm:nWr R1 < c:=by
     rcases Nat.lt_or_ge (nWr R1) c with h | h
     · exact h
     · exfalso
       obtain ⟨p1,d',p2,w1,w2,w3⟩:=nWr_find R1 (nWr R1 - c) (by omega)
       have hb:=k5 (Fr++p1) d' p2 (by rw [w1]; simp) w2 (by rw [nWr_append,w3,hsn]; omega)
       have:=I.wr d' (by rw [hR,w1]; simp) (hanc _ hb)
       rw [w2] at this; cases this
    have hat1:∃ g',d.c.op.run st.tm (putAs base st.ab (s - nWr R1) stF.cur as) = .val v g':=by
     rw [q1,hhF] at hh
     cases hk0:k with
     | nil =>
      rw [hk0] at hh q2
      simp at hh q2
      rw [←q2,Nat.sub_zero,hh.1]
      exact ⟨h',hr⟩
     | cons x k =>
      rw [hk0] at hh q2
      simp at hh q2
      obtain ⟨g,g',r1,r2⟩:=ldSame_spec (Nat.pred c) (Nat.pred s) hs hsame k.length (by simp [Nat.pred_eq_sub_one]; omega)
      rw [←hh.2] at r1
      simp at r1
      subst r1
      rw [show s - nWr R1=Nat.pred s - k.length by simp [Nat.pred_eq_sub_one]; omega]
      exact ⟨g',r2⟩
    obtain ⟨g',hg'⟩:=hat1
    have hgg:=load_run k1 hg'
    subst hgg
    obtain ⟨pn,ps⟩:=putAs_spec (base:=base) (ab:=st.ab) (k:=s - nWr R1) as stF.cur
    rw [←hreads,e2] at hg'
    refine keep (by simp [isWr,hk]) (fun f b ⟨s,v,h',q,a1,a2,_⟩=>by rw [hk] at a2; cases a2) v _ (fun f b hb=>?_) pn hg' rfl
    rcases ps f b hb with h2 | ⟨x,x1,x2,x3,x4⟩
    · exact subF f b h2
    · obtain ⟨p1,d',p2,y1,y2,y3,y4⟩:=k6 x x1
      have hX':X d'.ix:=hanc _ y4
      obtain ⟨r1,d2,r2,z1,z2⟩:=ab_spec hab (Fr++R1).reverse (Fr++R1) st (by simp) hat f b x4
      have hpl:plan=p1++d' :: (p2++d :: R2):=by rw [hsp,y1]; simp
      have hpl2:plan=r1++d2 :: (r2++d :: R2):=by rw [hsp,z1]; simp
      have hk1:=(hp.fact p1 d' _ hpl).kind
      rw [y2] at hk1
      obtain ⟨s2,v2,h2,qq,u1,u2,u3,_⟩:=id z2
      have hk2:=(hp.fact r1 d2 _ hpl2).kind
      rw [u2] at hk2
      have hq:qq=x.1:=addPos_inj (u3.symm.trans x3)
      have hsame2:p1=r1∧d'=d2:=by
       have c1:x.1=countA p1:=hk1.2
       have c2:qq=countA r1:=hk2.2
       rcases split_cmp (hpl.symm.trans hpl2) with ⟨h1,h2,_⟩ | ⟨r,h1,_⟩ | ⟨r,h1,_⟩
       · exact ⟨h1,h2⟩
       · exfalso
         rw [h1,countA_append] at c2
         simp [countA,y2] at c2
         omega
       · exfalso
         rw [h1,countA_append] at c1
         simp [countA,u2] at c1
         omega
      obtain ⟨rfl,rfl⟩:=hsame2
      have hstage:nWr Fr≤nWr p1:=by rw [←y3]; omega
      have hin:∃ a1,p1=Fr++a1∧R1=a1++d' :: p2:=by
       rcases List.append_eq_append_iff.1 y1 with ⟨a1,h1,h2⟩ | ⟨c1,h1,h2⟩
       · exact ⟨a1,h1,h2⟩
       · cases c1 with
         | nil=>exact ⟨[],by simpa using h1.symm,by simpa using h2.symm⟩
         | cons y c1 =>
          simp at h2
          obtain ⟨rfl,h2⟩:=h2
          exfalso
          rcases I.front with hf | ⟨F',dw,hf,hww⟩
          · rw [hf] at h1; simp at h1
          · rcases List.eq_nil_or_concat c1 with rfl | ⟨c2,z,rfl⟩
            · have h3:F' ++ [dw]=p1 ++ [d']:=hf.symm.trans h1
              have h4:=List.append_inj' h3 rfl
              simp at h4
              rw [h4.2] at hww
              rw [isWr_iff.1 hww] at y2; cases y2
            · have h3:F' ++ [dw]=(p1++d' :: c2) ++ [z]:=by rw [←hf,h1]; simp
              have h4:=List.append_inj' h3 rfl
              simp at h4
              have h6:nWr (d' :: c2.concat z)=nWr (d' :: c2)+nWr [z]:=by rw [←nWr_append]; simp
              rw [h1,nWr_append,h6,nWr_one,← h4.2,if_pos hww] at hstage
              omega
      obtain ⟨a1,rfl,hR1⟩:=hin
      exact I.ent a1 d' (p2++d :: R2) f b (by rw [hR,hR1]; simp) hX' z2
   | alloc q v h' b hw hk hr hb hn =>
    rw [hwant true hw]
    simp only [if_true]
    have hkind:=fact.kind
    rw [hk] at hkind
    obtain ⟨k1,k2⟩:=hkind
    obtain ⟨b1,rfl⟩:=alloc_run k1 hr
    have hent:EntA call base st0 (Fr++R1) d (addPos base q) b:=⟨st,v,_,q,hat,hk,rfl,hw,hr,hb,hn⟩
    have hfree:=I.free R1 d R2 _ _ hR hX hent
    have hblk:((H.emp (addPos base q)).add b1).blk=Bl.upd (H.emp (addPos base q)).blk (addPos base q) b1:=H.blk_add _ _
    have hbb:b1=b:=by
     have:((H.emp (addPos base q)).add b1).blk (addPos base q)=some b:=hb
     rw [hblk,Bl.upd_same] at this
     exact Option.some.inj this
    subst hbb
    have hemp:∀ f,(H.emp (addPos base q)).blk f=none:=fun f=>T.get_nil f
    have hsub:∀ f b',(H.emp (addPos base q)).blk f=some b'→bl f=some b':=fun f b' hb'=>by rw [hemp] at hb'; cases hb'
    have hlt2:=hent.lt hp hsp
    rw [←hreads,e2] at hr
    refine val_wp (h:=H.emp (addPos base q)) (N:=stF.cur.next.toN) hF I.tm (I.rb.sub hsub (Nat.le_refl _)) hfree (Nat.le_refl _) hr (by
     rw [H.next_add,Pos.toN_succ]
     show (addPos base q).toN+1≤_
     have:=I.next
     omega) fun j' cv w' g1 g2 g3=>?_
    obtain ⟨f1,f2⟩:=I.rb.frame hsub g2 g3
    have hov:Bl.over ((H.emp (addPos base q)).add b1).blk bl=Bl.upd bl (addPos base q) b1:=by
     funext f
     by_cases e:addPos base q=f
     · subst e
       rw [Bl.upd_same]
       exact Bl.over_some (by rw [hblk,Bl.upd_same])
     · rw [Bl.upd_ne _ _ e]
       exact Bl.over_none (by rw [hblk,Bl.upd_ne _ _ e,hemp])
    rw [hov] at f1 f2
    exact hK _ _ _ _ _ _ _ _ (I.step hp hrun h0 hR (by simp [isWr,hk]) hX hedge' (v:=v) (by rw [e1]; exact put_tm hdst I.tm f2.le g1) (put_defers _ _) (hval v rfl) f1 f2 (.inr ⟨_,_,hent,rfl⟩))
   | wval v h' hw hk hr =>
    rw [hwant true hw]
    simp only [if_true]
    obtain ⟨hall,s1,s2⟩:=wrote (isWr_iff.2 hk)
    have hmn:=run_mono hr
    rw [←hreads,e2] at hr
    refine val_wp (h:=st.cur) (N:=h'.next.toN) hF I.tm (I.rb.sub s1 (Nat.le_refl _)) (by rw [s2]; exact hjF) (by rw [←s2]; exact hmn) hr (Nat.le_refl _) fun j' cv w' g1 g2 g3=>?_
    obtain ⟨f1,f2⟩:=I.rb.frame s1 g2 g3
    exact hK _ _ _ _ _ _ _ _ (I.write hp hrun h0 hR (isWr_iff.2 hk) hall hedge' hat hat' hX (v:=v) (by rw [e1]; exact put_tm hdst I.tm f2.le g1) (put_defers _ _) (hval v rfl) f1 f2 g3.mono hmn)
   | wcall f args v h' hw hk hr hcl =>
    rw [hwant true hw]
    simp only [if_true]
    obtain ⟨hall,s1,s2⟩:=wrote (isWr_iff.2 hk)
    rw [←hreads,e2] at hr
    refine call_wp hF hcall I.tm (by rw [s2]; exact I.rb.sub s1 (Nat.le_refl _)) hr hcl fun j' cv w' hmn g1 g2 g3=>?_
    obtain ⟨f1,f2⟩:=I.rb.frame s1 g2 g3
    exact hK _ _ _ _ _ _ _ _ (I.write hp hrun h0 hR (isWr_iff.2 hk) hall hedge' hat hat' hX (v:=v) (by rw [e1]; exact put_tm hdst I.tm f2.le g1) (put_defers _ _) (hval v rfl) f1 f2 g3.mono hmn)
 ·
  exfalso
  rw [←hc] at he
  have e2:d.c.op = .bad:=by rw [he]
  have e3:d.c.guard=none:=by rw [he]
  cases stepD_inv hstep with
  | skip hw=>rw [e3] at hw; cases hw
  | pure v h' hw hk hr=>rw [e2] at hr; cases hr
  | load s c as h1 hs v h' hw hk hh hr hsame=>rw [e2] at hr; cases hr
  | alloc q v h' b hw hk hr hb hn=>rw [e2] at hr; cases hr
  | wval v h' hw hk hr=>rw [e2] at hr; cases hr
  | wcall f args v h' hw hk hr hcl=>rw [e2] at hr; cases hr
end
end Go.Ev
namespace Go.Ev
variable {P:Env}
section
variable {F:Fence} {n:Nat} {call:CallF} {base:Pos} {nt:Nat} {b0:B0} {ops:Array Oper} {masks wr:T Nat} {plan:List DOp} {st0 stE:DSt} {j0:Inj} {bl0:Bl} {w0:World} {Q:Exit→Act→World→Prop}
theorem filter_lt {α:Type} {p q:α→Bool} (hpq:∀ x,q x=true→p x=true) {i:α}:∀ {l:List α},i∈l→p i=true→q i=false→(l.filter q).length < (l.filter p).length:=by
 intro l
 have le:∀ l:List α,(l.filter q).length≤(l.filter p).length:=by
  intro l
  induction l with
  | nil=>exact Nat.le_refl _
  | cons x l ih =>
   by_cases h1:q x=true
   · rw [List.filter_cons_of_pos h1,List.filter_cons_of_pos (hpq x h1)]
     simpa using ih
   · rw [List.filter_cons_of_neg h1]
     by_cases h2:p x=true
     · rw [List.filter_cons_of_pos h2]; simp; omega
     · rw [List.filter_cons_of_neg h2]; exact ih
 induction l with
 | nil=>intro h; cases h
 | cons x l ih =>
  intro hi hp hq
  rcases List.mem_cons.1 hi with rfl | hi
  · rw [List.filter_cons_of_pos hp,List.filter_cons_of_neg (by rw [hq]; simp)]
    have:=le l
    simp; omega
  · have:=ih hi hp hq
    by_cases h1:q x=true
    · rw [List.filter_cons_of_pos h1,List.filter_cons_of_pos (hpq x h1)]
      simpa using this
    · rw [List.filter_cons_of_neg h1]
      by_cases h2:p x=true
      · rw [List.filter_cons_of_pos h2]; simp; omega
      · rw [List.filter_cons_of_neg h2]; exact this
def left (n:Nat) (listed:Array Bool):Nat:=((List.range n).filter fun i=>!(listed.getD i false)).length
theorem listed_set {listed:Array Bool} {i:Nat} (hi:i < listed.size) (k:Nat):(listed.setIfInBounds i true).getD k false=true↔listed.getD k false=true∨k=i:=by
 by_cases e:i=k
 · subst e; simp [Array.getD,hi]
 · have:(listed.setIfInBounds i true)[k]? = listed[k]?:=Array.getElem?_setIfInBounds_ne e
   simp only [Array.getD_eq_getD_getElem?,this]
   constructor
   · exact .inl
   · rintro (h | h)
     · exact h
     · exact absurd h.symm e
theorem any_sound (hF:Fw F) (hcall:CallsOk P call) (hp:PlanOk P nt ops masks wr plan) (hrun:runD call base plan st0=some stE) (h0:st0.hist = [st0.cur]) (hab:st0.ab = .nil) (hbase:base.toN+countA plan≤st0.cur.next.toN)
 (hQ:∀ Fr R stF a w j bl tmX,Inv P call base nt b0 ops plan st0 stE j0 bl0 w0 (fun i=>i < ops.size) Fr R stF a w j bl tmX→Q .normal a w) :
 ∀ (fuel:Nat) (listed:Array Bool) (Fr R:List DOp) (stF:DSt) (a:Act) (w:World) (j:Inj) (bl:Bl) (tmX:Tm),listed.size=ops.size→left ops.size listed≤fuel →
  Inv P call base nt b0 ops plan st0 stE j0 bl0 w0 (fun i=>listed.getD i false=true) Fr R stF a w j bl tmX→wpAnyIn F n P .any ops Q fuel listed a w:=by
 intro fuel
 induction fuel with
 | zero =>
  intro listed Fr R stF a w j bl tmX hsz hle I
  have hall:∀ i,i < ops.size→listed.getD i false=true:=fun i hi=>by
   cases h:listed.getD i false with
   | true=>rfl
   | false =>
    exfalso
    have hm:i∈(List.range ops.size).filter fun i=>!(listed.getD i false):=List.mem_filter.2 ⟨List.mem_range.2 hi,by rw [h]; rfl⟩
    have:=List.length_pos_of_mem hm
    unfold left at hle
    omega
  have heq:(fun i=>listed.getD i false=true)=fun i=>i < ops.size:=funext fun i=>propext ⟨I.range i,hall i⟩
  refine ⟨?_,hQ Fr R stF a w j bl tmX (heq ▸ I)⟩
  cases hr:Region.ready .any ops listed with
  | nil=>rfl
  | cons i is =>
   exfalso
   obtain ⟨h1,o,h2,_⟩:=mem_ready.1 (show i∈Region.ready .any ops listed by rw [hr]; simp)
   have h3:=hall i (getElem?_lt h2)
   have hlt:i < listed.size:=by rw [hsz]; exact getElem?_lt h2
   simp [Array.getD,hlt] at h1 h3
   rw [h1] at h3; cases h3
 | succ fuel ih =>
  intro listed Fr R stF a w j bl tmX hsz hle I
  refine ⟨fun hready=>?_,fun i hi=>?_⟩
  ·
   have hall:∀ i,i < ops.size→listed.getD i false=true:=by
    intro i
    have key:∀ (p1 p2:List DOp),plan=p1++p2→∀ d∈p1,listed.getD d.ix false=true:=by
     intro p1
     generalize hr1:p1.reverse=r
     induction r generalizing p1 with
     | nil=>intro p2 _ d hd; simp at hr1; subst hr1; cases hd
     | cons x r ihr =>
      intro p2 hsp d hd
      have hp1:p1=r.reverse ++ [x]:=by rw [←List.reverse_reverse p1,hr1]; simp
      have hold:=ihr r.reverse (by simp) (x :: p2) (by rw [hsp,hp1]; simp)
      rw [hp1] at hd
      rcases List.mem_append.1 hd with hd | hd
      · exact hold d hd
      · simp at hd; subst hd
        cases hx:listed.getD d.ix false with
        | true=>rfl
        | false =>
         exfalso
         have fact:=hp.fact r.reverse d p2 (by rw [hsp,hp1]; simp)
         have hlt:d.ix < listed.size:=by rw [hsz]; exact fact.lt
         have hin:d.ix∈Region.ready .any ops listed:=by
          refine mem_ready.2 ⟨by simpa [Array.getD,hlt] using hx,ops[d.ix]'fact.lt,Array.getElem?_eq_getElem fact.lt,fun e he hb=>?_⟩
          obtain ⟨d',hd',e'⟩:=fact.anc e.on ((hp.mask d.ix _ (Array.getElem?_eq_getElem fact.lt)).1 e he hb)
          rw [←e']
          exact hold d' hd'
         rw [hready] at hin; cases hin
    intro hi
    obtain ⟨d,hd,rfl⟩:=hp.all i hi
    exact key plan [] (by simp) d hd
   have heq:(fun i=>listed.getD i false=true)=fun i=>i < ops.size:=funext fun i=>propext ⟨I.range i,hall i⟩
   exact hQ Fr R stF a w j bl tmX (heq ▸ I)
  · obtain ⟨h1,o,h2,h3⟩:=mem_ready.1 hi
    have hlt:=getElem?_lt h2
    have hlt':i < listed.size:=by rw [hsz]; exact hlt
    have hfalse:listed.getD i false=false:=by simpa [Array.getD,hlt'] using h1
    refine I.ready hF hcall hp hrun h0 hab hbase (i:=i) (by rw [hfalse]; intro h; cases h) h2 h3 fun Fr' R' stF' a' w' j' bl' tm' I'=>?_
    refine ih (listed.setIfInBounds i true) Fr' R' stF' a' w' j' bl' tm' (by simpa using hsz) ?_ ?_
    · have:left ops.size (listed.setIfInBounds i true) < left ops.size listed:=by
       refine filter_lt (fun x hx=>?_) (i:=i) (List.mem_range.2 hlt) (by rw [hfalse]; rfl) ?_
       · cases hg:listed.getD x false with
         | false=>rfl
         | true =>
          have:=(listed_set hlt' x).2 (.inl hg)
          rw [this] at hx; cases hx
       · have:=(listed_set hlt' i).2 (.inr rfl)
         rw [this]; rfl
      omega
    · have heq:(fun k=>(listed.setIfInBounds i true).getD k false=true)=fun k=>listed.getD k false=true∨k=i:=funext fun k=>propext (listed_set hlt' k)
      rw [heq]; exact I'
theorem draw_sound (hF:Fw F) (hcall:CallsOk P call) (hm:P.follows .mixedOrders=true) (hp:PlanOk P nt ops masks wr plan) {tm:Tm} {h:H} {e:Ex} {tm':Tm} {h':H} (hr:c_dops call (countA plan) plan tm h = .ok e tm' h')
 {a:Act} {w:World} {j:Inj} {id:Nat} (s:SR P j nt tm h b0 a w) (hQ:e = .norm→∀ j' a' w',h.next.toN≤h'.next.toN→SR P j' nt tm' h' b0 a' w'→Ext j h.blk w j' h'.blk w'→Q .normal a' w'):(Code.region id ops true).wpIn F n P Q a w:=by
 have hr:endD (runD call h.next plan (startD (countA plan) tm h)) = .ok e tm' h':=hr
 cases hrun:runD call h.next plan (startD (countA plan) tm h) with
 | none=>rw [hrun] at hr; cases hr
 | some stE =>
  rw [hrun] at hr
  cases hr
  have hbase:h.next.toN+countA plan≤(startD (countA plan) tm h).cur.next.toN:=by
   show _≤(addPos h.next (countA plan)).toN
   rw [addPos_toN]; exact Nat.le_refl _
  refine wpIn_region_any hm ?_
  refine any_sound (base:=h.next) (st0:=startD (countA plan) tm h) (stE:=stE) (j0:=j) (bl0:=h.blk) (w0:=w) (b0:=b0) hF hcall hp hrun rfl rfl hbase ?_ ops.size (Array.replicate ops.size false) [] plan (startD (countA plan) tm h) a _ j h.blk tm (by simp) ?_ ?_
  · intro Fr R stF a' w' j' bl tmX I
    have hall:∀ d∈R,d.ix < ops.size:=fun d hd=>by
     obtain ⟨r1,r2,hr⟩:=List.append_of_mem hd
     exact (hp.fact _ d r2 (I.spl hr)).lt
    have hatE:At call h.next (startD (countA plan) tm h) (Fr++R) stE:=by rw [←I.split]; exact hrun
    obtain ⟨s1,s2,s3,s4⟩:=I.subR hp hrun rfl (R1:=R) (R2:=[]) (by simp) hall hatE
    have hblk:stE.cur.blk=bl:=by
     funext f
     cases hf:stE.cur.blk f with
     | some b=>exact (s1 f b hf).symm
     | none =>
      refine (I.rest f fun a1 d1 c1 b he _ hent=>?_) ▸ ?_
      · rw [s3 a1 d1 c1 f b he hent] at hf; cases hf
      · rw [←s4 f fun a1 d1 c1 b he hent=>by rw [s3 a1 d1 c1 f b he hent] at hf; cases hf]
        exact hf.symm
    have htm:TmR j' nt stE.tm a'.tmps:=by
     refine ⟨I.tm.1,fun t v ht=>I.tm.2 t v ?_⟩
     by_cases hex:∃ d∈plan,d.c.dst=some (Pos.ofNat t)
     · obtain ⟨d,hd,hdst⟩:=hex
       obtain ⟨r1,r2,hr⟩:=List.append_of_mem hd
       rw [I.tx1 _ d hd (hp.fact r1 d r2 hr).lt hdst]
       exact ht
     · rw [I.tx2 _ fun d hd _ h=>hex ⟨d,hd,h⟩,← At.tm0 (p:=plan) hrun fun d hd h=>hex ⟨d,hd,h⟩]
       exact ht
    refine hQ rfl j' a' w' ?_ ⟨htm,?_,?_,I.sz⟩ ?_
    · rw [s2]
      have:=I.next
      omega
    · rw [hblk,s2]; exact I.rb
    · rw [hblk]; exact I.df
    · rw [hblk]; exact I.ext
  · have:=List.length_filter_le (fun i=>!((Array.replicate ops.size false).getD i false)) (List.range ops.size)
    simpa [left] using this
  · have hfalse:∀ i,(Array.replicate ops.size false).getD i false=false:=fun i=>by
     simp [Array.getD]
    refine ⟨rfl,rfl,.inl rfl,fun d hd=>(by cases hd),fun d _ hX=>?_,fun i o hi=>?_,fun i hi=>?_,s.tm,fun p d _ hX=>?_,fun p _=>rfl,?_,fun R1 d R2 f b _ hX=>?_,fun f _=>rfl,fun R1 d R2 f b he _ hent=>?_,?_,?_,s.b0,Nat.le_refl _⟩
    · rw [hfalse] at hX; cases hX
    · rw [hfalse] at hi; cases hi
    · rw [hfalse] at hi; cases hi
    · rw [hfalse] at hX; cases hX
    · exact (s.rb.drawn (w.drawn+1)).sub (fun _ _ h=>h) (by omega)
    · rw [hfalse] at hX; cases hX
    · have hge:h.next.toN≤f.toN:=by
       obtain ⟨st,v,h1,q,a1,a2,a3,_⟩:=hent
       rw [a3,addPos_toN]; omega
      exact s.rb.jnone hge
    · exact Ext.drawn _
    · exact s.df.ext (Ext.drawn _)
end
end Go.Ev
